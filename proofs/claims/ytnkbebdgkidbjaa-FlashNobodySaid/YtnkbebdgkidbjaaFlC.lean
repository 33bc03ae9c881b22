/- Operations, one for each closure.
   No condition. -/
import Derived.Test.YtnkbebdgkidbjaaFlB
import Derived.ArgAppend
import Derived.BigRegion
import Derived.Deep.QuietTactic
import Derived.BigQuiet
import Derived.Deep.RegionHeld3
import Derived.ChangeAlike
import Derived.RegionTactic
import Derived.Deep.DeepCutAuto
import Derived.Deep.CutBlock
import Derived.Deep.RegionLaw
import Derived.StillTailTactics
import Derived.WalkSpells
import Derived.Lib.SliceRun
import Derived.Laws.CopyRow
import Derived.Lib.SlBuf
import Derived.Lib.MakeNoZero
import Derived.Laws.BitsLemmas
import Derived.Lib.Bytes
import Derived.Lib.SlBytesConst
namespace Go.Proofs.Ytnkbebdgkidbjaa.Flash
open Go.Proofs.Ytnkbebdgkidbjaa.QFlashPlays
open Go.RowKit Go.Proofs.YtnkbebdgkidbjaaW.PrintWords Go.Proofs.YtnkbebdgkidbjaaW.PrintLast Go.Proofs.YtnkbebdgkidbjaaW.PrintMore
attribute [local go_sem] max2_int min2_int max_two min_two   -- for this text's walks alone
set_option linter.unusedVariables false
set_option linter.unusedSimpArgs false
set_option maxHeartbeats 4000000 in
set_option maxRecDepth 100000 in
theorem op_54 {B : Nat} {f : Owner} {w : World} {db : Nat} {d : Dv} {bd : Addr} (h : DevX B f w db d) (ok : d.Ok) (act : Dv → Dv) (HA : Aside0 (∀ w1, DevA B f w db (d.count 4) w1 → Calls Try.prog 54 #[.pointer (some bd)] w1 (fun e w2 => e = .returned (.tuple #[]) ∧ DevA B f w db (act (d.count 4)) w2))) :
    Calls Try.prog 48 #[.pointer (some ⟨db, 0, none⟩), .int .i64 4, .func (.func 54) #[] #[.pointer (some bd)]] w (fun e w' => e = .returned (.int .i64 (d.op 4 act).2) ∧ DevA B f w db (d.op 4 act).1 w') := by
  obtain ⟨im, imc, vu, vf, vw, hg⟩ := h
  have S1 : Aside0 (DevA B f w db (d.count 4) (w.setCell ⟨db, 11, none⟩ (.int .i64 (wrap64 (d.c 4 + 1)))).drew) := ⟨by
    obtain ⟨g1, g2⟩ := hg.setC 4 (by decide) (wrap64 (d.c 4 + 1))
    exact DevA.box ⟨f, ⟨im, imc, vu, vf, vw, g1⟩, g2⟩ (below_drew (Below.refl _ _))⟩
  have hfr := blk_frozen hg.blk 11
  have cc : w.cell? ⟨db, 11, none⟩ = some (.int .i64 (d.c 4)) := hg.at_ 11
  have FL := Aside0.mk (And.intro ok.fll ok.flk)
  have OPE : Aside0 (d.op 4 act = if d.fault 4 = 0 then (act (d.count 4), 0) else if d.fault 4 = 1 then ((d.count 4).flop, 5) else ((act (d.count 4)).flop, 5)) := ⟨rfl⟩
  obtain ⟨cv, hcv⟩ : ∃ cv, d.c 4 = cv := ⟨_, rfl⟩
  have HCV := Aside0.mk hcv
  rw [hcv] at S1 cc
  clear hg ok hcv
  go_enter Try.func48, Try.ntmps48
  go_upto_region 1 with (fail)
  refine start_ (n := 11) (S := fun w' => w'.cell? ⟨db, 11, none⟩ = some (.int .i64 cv)) (ds := [10]) #[F,F,F,F,F,F,F,F,F,F,F] (by kernel_rfl) rfl rfl (cc) (fun hHeld => ?_)
  refine pure_ (i := 0) (N := some 9) (v := ?_) (a' := ?_) #[T,F,F,F,F,F,F,F,F,F,F] rfl rfl (by kernel_rfl) (fun _ _ _ h => h) (Or.inl ⟨by rfl, ?_⟩) ?_ ?_
  rotate_left
  · intro w'
    go_simp
    with_reducible rfl
  rotate_left
  · simp only [Act.put, sA, s0_, sS, i64_w, i32_w]
    rfl
  refine pure_ (i := 1) (N := some 10) (v := ?_) (a' := ?_) #[T,T,F,F,F,F,F,F,F,F,F] rfl rfl (by kernel_rfl) (fun _ _ _ h => h) (Or.inl ⟨by rfl, ?_⟩) ?_ ?_
  rotate_left
  · intro w'
    go_simp
    with_reducible rfl
  rotate_left
  · simp only [Act.put, sA, s0_, sS, i64_w, i32_w]
    rfl
  refine pure_ (i := 2) (N := some 11) (v := ?_) (a' := ?_) #[T,T,T,F,F,F,F,F,F,F,F] rfl rfl (by kernel_rfl) (fun _ _ _ h => h) (Or.inl ⟨by rfl, ?_⟩) ?_ ?_
  rotate_left
  · intro w'
    go_simp
    with_reducible rfl
  rotate_left
  · simp only [Act.put, sA, s0_, sS, i64_w, i32_w]
    rfl
  refine pure_ (i := 3) (N := some 12) (v := ?_) (a' := ?_) #[T,T,T,T,F,F,F,F,F,F,F] rfl rfl (by kernel_rfl) (fun _ _ _ h => h) (Or.inl ⟨by rfl, ?_⟩) ?_ ?_
  rotate_left
  · intro w'
    go_simp
    with_reducible rfl
  rotate_left
  · simp only [Act.put, sA, s0_, sS, i64_w, i32_w]
    rfl
  refine pure_ (i := 4) (N := some 13) (v := ?_) (a' := ?_) #[T,T,T,T,T,F,F,F,F,F,F] rfl rfl (by kernel_rfl) (fun _ _ _ h => h) (Or.inl ⟨by rfl, ?_⟩) ?_ ?_
  rotate_left
  · intro w'
    go_simp
    with_reducible rfl
  rotate_left
  · simp only [Act.put, sA, s0_, sS, i64_w, i32_w]
    rfl
  refine take_ (i := 5) (N := some 14) (v := ?_) (a' := ?_) #[T,T,T,T,T,T,F,F,F,F,F] rfl rfl (by kernel_rfl) (fun _ _ _ h => h) (Or.inl ⟨by rfl, ?_⟩) hHeld ?_ ?_
  rotate_left
  · intro w' s0
    go_simp
    with_reducible rfl
  rotate_left
  · simp only [Act.put, sA, s0_, sS, i64_w, i32_w]
    rfl
  refine pure_ (i := 6) (N := some 15) (v := ?_) (a' := ?_) #[T,T,T,T,T,T,T,F,F,F,F] rfl rfl (by kernel_rfl) (fun _ _ _ h => h) (Or.inl ⟨by rfl, ?_⟩) ?_ ?_
  rotate_left
  · intro w'
    go_simp
    with_reducible rfl
  rotate_left
  · simp only [Act.put, sA, s0_, sS, i64_w, i32_w]
    rfl
  refine pure_ (i := 7) (N := some 16) (v := ?_) (a' := ?_) #[T,T,T,T,T,T,T,T,F,F,F] rfl rfl (by kernel_rfl) (fun _ _ _ h => h) (Or.inl ⟨by rfl, ?_⟩) ?_ ?_
  rotate_left
  · intro w'
    go_simp
    with_reducible rfl
  rotate_left
  · simp only [Act.put, sA, s0_, sS, i64_w, i32_w]
    rfl
  refine pure_ (i := 8) (N := some 17) (v := ?_) (a' := ?_) #[T,T,T,T,T,T,T,T,T,F,F] rfl rfl (by kernel_rfl) (fun _ _ _ h => h) (Or.inl ⟨by rfl, ?_⟩) ?_ ?_
  rotate_left
  · intro w'
    go_simp
    with_reducible rfl
  rotate_left
  · simp only [Act.put, sA, s0_, sS, i64_w, i32_w]
    rfl
  refine pure_ (i := 9) (N := some 18) (v := ?_) (a' := ?_) #[T,T,T,T,T,T,T,T,T,T,F] rfl rfl (by kernel_rfl) (fun _ _ _ h => h) (Or.inl ⟨by rfl, ?_⟩) ?_ ?_
  rotate_left
  · intro w'
    go_simp
    with_reducible rfl
  rotate_left
  · simp only [Act.put, sA, s0_, sS, i64_w, i32_w]
    rfl
  refine last_ (i := 10) (N := none) #[T,T,T,T,T,T,T,T,T,T,T] rfl rfl (by kernel_rfl) (by decide) (fun K hK => ?_)
  refine skip_ (w1 := ?_) (by rfl) rfl ?_ ?_
  rotate_left
  · go_simp
    rfl
  refine hK.out _ _ ?_
  clear hK K
  refine done_ (by kernel_rfl) ?_
  go_upto_region 2 with (fail)
  obtain ⟨w1, hw1⟩ : ∃ w1, (w.setCell ⟨db, 11, none⟩ (.int .i64 (wrap64 (cv + 1)))).drew = w1 := ⟨_, rfl⟩
  rw [hw1] at S1
  rw [hw1]
  clear hw1 cc hfr
  have GD : Aside0 (∃ Af cf, w1.cell? ⟨db, 6, none⟩ = some (.slice Af d.fl.length cf) ∧ k85.C w1 Af d.fl.length d.fl ∧ d.fl.length ≤ cf ∧ w1.cell? ⟨db, 11, none⟩ = some (.int .i64 (wrap64 (cv + 1)))) := ⟨by
    obtain ⟨f1, ⟨im1, imc1, vu1, vf1, vw1, g1⟩, m1⟩ := S1.out
    obtain ⟨Af, cf, ev, hle, hC⟩ := Kd.R_reads g1.fl
    subst ev
    refine ⟨Af, cf, g1.at_ 6, hC, hle, ?_⟩
    have e : (d.count 4).c 4 = wrap64 (cv + 1) := by rw [← HCV.out]; show (if (4 : Nat) = 4 then wrap64 (d.c 4 + 1) else d.c 4) = _; exact if_pos rfl
    rw [← e]
    exact g1.at_ 11⟩
  obtain ⟨Af, cf, c6, hC, hle, cc⟩ := GD.out
  have HFI : Aside0 (d.fault 4 = match findF d.fl 4 (wrap64 (cv + 1)) with | some f => f.f2 | none => 0) := ⟨by rw [← HCV.out]; rfl⟩
  obtain ⟨cn, hcn⟩ : ∃ cn, wrap64 (cv + 1) = cn := ⟨_, rfl⟩
  rw [hcn] at cc HFI
  have KF0 := fun (w' : World) (hb : Below w1.heap.size w1 w') => flash_faulty.calls (d.fl.length + 1) Af cf d.fl 4 cn _ _ _ _ w' (Kd.C_below hC hb) hle (faulty_eq d.fl 4 cn (Nat.lt_of_le_of_lt FL.out.1 (by decide)))
  obtain ⟨nf, hnf⟩ : ∃ nf, d.fl.length = nf := ⟨_, rfl⟩
  rw [hnf] at KF0 c6
  have HFD : Aside0 (∀ ft, findF d.fl 4 cn = some ft → ft.f2 = 1 ∨ ft.f2 = 2) := ⟨fun ft hF => FL.out.2 ft (List.mem_of_find?_eq_some hF)⟩
  clear GD hC hle hcn hnf FL
  cases hfind : findF d.fl 4 cn with
  | none =>
    rw [hfind] at KF0 HFI
    have HQ : Aside0 (d.op 4 act = (act (d.count 4), 0)) := ⟨by rw [OPE.out, HFI.out]; exact if_pos rfl⟩
    have KF := Aside0.mk (show ∀ (w' : World), Below w1.heap.size w1 w' → Calls Try.prog 67 #[.slice Af nf cf, .int .i64 4, .int .i64 cn] w' fun e w'_1 => e = .returned (.tuple #[.agg #[.int .i64 0, .int .i64 0, .int .i64 0], .bool false]) ∧ Below w'.heap.size w' w'_1 from KF0)
    clear KF0 hfind
    refine start_ (n := 18) (S := fun w' => w'.cell? ⟨db, 6, none⟩ = some (.slice Af nf cf) ∧ w'.cell? ⟨db, 11, none⟩ = some (.int .i64 cn)) (ds := [16]) #[F,F,F,F,F,F,F,F,F,F,F,F,F,F,F,F,F,F] (by kernel_rfl) rfl rfl (⟨c6, cc⟩) (fun hHeld => ?_)
    generalize hwd : w1.drew = wd at hHeld ⊢
    have BD : Aside0 (Below w1.heap.size w1 wd) := ⟨by rw [← hwd]; exact below_drew (Below.refl _ _)⟩
    clear hwd c6 cc
    obtain ⟨c6, cc⟩ := hHeld
    have hHeld : wd.cell? ⟨db, 6, none⟩ = some (.slice Af nf cf) ∧ wd.cell? ⟨db, 11, none⟩ = some (.int .i64 cn) := ⟨c6, cc⟩
    refine pure_ (i := 0) (N := some 20) (v := ?_) (a' := ?_) #[T,F,F,F,F,F,F,F,F,F,F,F,F,F,F,F,F,F] rfl rfl (by kernel_rfl) (fun _ _ _ h => h) (Or.inl ⟨by rfl, ?_⟩) ?_ ?_
    rotate_left
    · intro w'
      go_simp
      with_reducible rfl
    rotate_left
    · simp only [Act.put, sA, s0_, sS, i64_w, i32_w]
      rfl
    refine pure_ (i := 1) (N := some 21) (v := ?_) (a' := ?_) #[T,T,F,F,F,F,F,F,F,F,F,F,F,F,F,F,F,F] rfl rfl (by kernel_rfl) (fun _ _ _ h => h) (Or.inl ⟨by rfl, ?_⟩) ?_ ?_
    rotate_left
    · intro w'
      go_simp
      with_reducible rfl
    rotate_left
    · simp only [Act.put, sA, s0_, sS, i64_w, i32_w]
      rfl
    refine pure_ (i := 2) (N := some 22) (v := ?_) (a' := ?_) #[T,T,T,F,F,F,F,F,F,F,F,F,F,F,F,F,F,F] rfl rfl (by kernel_rfl) (fun _ _ _ h => h) (Or.inl ⟨by rfl, ?_⟩) ?_ ?_
    rotate_left
    · intro w'
      go_simp
      with_reducible rfl
    rotate_left
    · simp only [Act.put, sA, s0_, sS, i64_w, i32_w]
      rfl
    refine take_ (i := 3) (N := some 23) (v := ?_) (a' := ?_) #[T,T,T,T,F,F,F,F,F,F,F,F,F,F,F,F,F,F] rfl rfl (by kernel_rfl) (fun _ _ _ h => h) (Or.inl ⟨by rfl, ?_⟩) hHeld ?_ ?_
    rotate_left
    · intro w' s0
      obtain ⟨s1, s2⟩ := s0
      go_simp
      with_reducible rfl
    rotate_left
    · simp only [Act.put, sA, s0_, sS, i64_w, i32_w]
      rfl
    refine pure_ (i := 4) (N := some 24) (v := ?_) (a' := ?_) #[T,T,T,T,T,F,F,F,F,F,F,F,F,F,F,F,F,F] rfl rfl (by kernel_rfl) (fun _ _ _ h => h) (Or.inl ⟨by rfl, ?_⟩) ?_ ?_
    rotate_left
    · intro w'
      go_simp
      with_reducible rfl
    rotate_left
    · simp only [Act.put, sA, s0_, sS, i64_w, i32_w]
      rfl
    refine pure_ (i := 5) (N := some 25) (v := ?_) (a' := ?_) #[T,T,T,T,T,T,F,F,F,F,F,F,F,F,F,F,F,F] rfl rfl (by kernel_rfl) (fun _ _ _ h => h) (Or.inl ⟨by rfl, ?_⟩) ?_ ?_
    rotate_left
    · intro w'
      go_simp
      with_reducible rfl
    rotate_left
    · simp only [Act.put, sA, s0_, sS, i64_w, i32_w]
      rfl
    refine pure_ (i := 6) (N := some 26) (v := ?_) (a' := ?_) #[T,T,T,T,T,T,T,F,F,F,F,F,F,F,F,F,F,F] rfl rfl (by kernel_rfl) (fun _ _ _ h => h) (Or.inl ⟨by rfl, ?_⟩) ?_ ?_
    rotate_left
    · intro w'
      go_simp
      with_reducible rfl
    rotate_left
    · simp only [Act.put, sA, s0_, sS, i64_w, i32_w]
      rfl
    refine pure_ (i := 7) (N := some 27) (v := ?_) (a' := ?_) #[T,T,T,T,T,T,T,T,F,F,F,F,F,F,F,F,F,F] rfl rfl (by kernel_rfl) (fun _ _ _ h => h) (Or.inl ⟨by rfl, ?_⟩) ?_ ?_
    rotate_left
    · intro w'
      go_simp
      with_reducible rfl
    rotate_left
    · simp only [Act.put, sA, s0_, sS, i64_w, i32_w]
      rfl
    refine pure_ (i := 8) (N := some 28) (v := ?_) (a' := ?_) #[T,T,T,T,T,T,T,T,T,F,F,F,F,F,F,F,F,F] rfl rfl (by kernel_rfl) (fun _ _ _ h => h) (Or.inl ⟨by rfl, ?_⟩) ?_ ?_
    rotate_left
    · intro w'
      go_simp
      with_reducible rfl
    rotate_left
    · simp only [Act.put, sA, s0_, sS, i64_w, i32_w]
      rfl
    refine pure_ (i := 9) (N := some 29) (v := ?_) (a' := ?_) #[T,T,T,T,T,T,T,T,T,T,F,F,F,F,F,F,F,F] rfl rfl (by kernel_rfl) (fun _ _ _ h => h) (Or.inl ⟨by rfl, ?_⟩) ?_ ?_
    rotate_left
    · intro w'
      go_simp
      with_reducible rfl
    rotate_left
    · simp only [Act.put, sA, s0_, sS, i64_w, i32_w]
      rfl
    refine take_ (i := 10) (N := some 30) (v := ?_) (a' := ?_) #[T,T,T,T,T,T,T,T,T,T,T,F,F,F,F,F,F,F] rfl rfl (by kernel_rfl) (fun _ _ _ h => h) (Or.inl ⟨by rfl, ?_⟩) hHeld ?_ ?_
    rotate_left
    · intro w' s0
      obtain ⟨s1, s2⟩ := s0
      go_simp
      with_reducible rfl
    rotate_left
    · simp only [Act.put, sA, s0_, sS, i64_w, i32_w]
      rfl
    refine join_ (σ := Nat) 2 #[T,T,T,T,T,T,T,T,T,T,T,T,T,T,T,T,F,F] (fun s_ => [(31, .tuple #[.agg #[.int .i64 0, .int .i64 0, .int .i64 0], .bool false]), (7, .pointer (some ⟨s_, 0, none⟩)), (19, .tuple #[.agg #[.int .i64 0, .int .i64 0, .int .i64 0], .bool false]), (32, .agg #[.int .i64 0, .int .i64 0, .int .i64 0]), (33, .bool false)]) (fun s_ w' => Below wd.heap.size wd w' ∧ wd.heap.size ≤ s_ ∧ w'.heap[s_]? = some (.cells #[.int .i64 0, .int .i64 0, .int .i64 0] 85 (0, 0))) ?_ ?_
    rotate_left
    · intro hCont
      refine two_ (i := 11) (j := 15) (Ni := some 31) (Nj := some 7) #[T,T,T,T,T,T,T,T,T,T,T,T,F,F,F,F,F,F] #[T,T,T,T,T,T,T,T,T,T,T,F,F,F,F,T,F,F] rfl rfl rfl rfl (by kernel_rfl) (by decide) (by decide) (fun K hK => ?_) (fun K hK => ?_)
      · skip
        refine goes_ Try.func67 (by kernel_rfl) rfl #[.slice Af nf cf, .int .i64 4, .int .i64 cn] (by rfl) rfl rfl (by (try simp only [List.map_toArray, List.map_cons, List.map_nil]); first | done | rfl) ?_
        with_reducible refine (KF.out wd BD.out).mono ?_
        rintro e wq ⟨rfl, hq⟩
        refine ⟨_, rfl, ?_⟩
        refine hK.out _ _ (by exact ⟨pw_cell_below hq c6, pw_cell_below hq cc⟩) (fun hHeld => ?_)
        clear hK K
        refine norm_ (a' := ?_) ?_ ?_
        rotate_left
        · show Act.put _ (some 31) _ = _
          simp only [Act.put, sA, s0_, sS, i64_w, i32_w]
          rfl
        refine pure_ (i := 12) (N := some 19) (v := ?_) (a' := ?_) #[T,T,T,T,T,T,T,T,T,T,T,T,T,F,F,F,F,F] rfl rfl (by kernel_rfl) (fun _ _ _ h => h) (Or.inl ⟨by rfl, ?_⟩) ?_ ?_
        rotate_left
        · intro w'
          go_simp
          with_reducible rfl
        rotate_left
        · simp only [Act.put, sA, s0_, sS, i64_w, i32_w]
          rfl
        refine pure_ (i := 13) (N := some 32) (v := ?_) (a' := ?_) #[T,T,T,T,T,T,T,T,T,T,T,T,T,T,F,F,F,F] rfl rfl (by kernel_rfl) (fun _ _ _ h => h) (Or.inl ⟨by rfl, ?_⟩) ?_ ?_
        rotate_left
        · intro w'
          go_simp
          with_reducible rfl
        rotate_left
        · simp only [Act.put, sA, s0_, sS, i64_w, i32_w]
          rfl
        refine pure_ (i := 14) (N := some 33) (v := ?_) (a' := ?_) #[T,T,T,T,T,T,T,T,T,T,T,T,T,T,T,F,F,F] rfl rfl (by kernel_rfl) (fun _ _ _ h => h) (Or.inl ⟨by rfl, ?_⟩) ?_ ?_
        rotate_left
        · intro w'
          go_simp
          with_reducible rfl
        rotate_left
        · simp only [Act.put, sA, s0_, sS, i64_w, i32_w]
          rfl
        refine one_ (i := 15) (N := some 7) #[T,T,T,T,T,T,T,T,T,T,T,T,T,T,T,T,F,F] rfl rfl (by kernel_rfl) (by decide) (fun K hK => ?_)
        refine value_ (w1 := ?_) (v := ?_) (by rfl) rfl ?_ ?_
        rotate_left 2
        · go_simp
          constructor
          · rfl
          · rfl
        refine hK.out _ _ (by exact ⟨pw_cell_below (hq.alloc hq.size _) c6, pw_cell_below (hq.alloc hq.size _) cc⟩) (fun hHeld => ?_)
        clear hK K
        refine norm_ (a' := ?_) ?_ ?_
        rotate_left
        · show Act.put _ (some 7) _ = _
          simp only [Act.put, sA, s0_, sS, i64_w, i32_w]
          rfl
        exact norm_ (by simp only [putAll, Act.put, sA, s0_, sS]) (hCont wq.heap.size _ ⟨hq.alloc hq.size _, hq.size, blk_new wq _⟩)
      · skip
        refine value_ (w1 := ?_) (v := ?_) (by rfl) rfl ?_ ?_
        rotate_left 2
        · go_simp
          constructor
          · rfl
          · rfl
        refine hK.out _ _ (by exact ⟨pw_cell_below (below_alloc (Below.refl wd.heap.size wd) (.cells #[.int .i64 0, .int .i64 0, .int .i64 0] 85)) c6, pw_cell_below (below_alloc (Below.refl wd.heap.size wd) (.cells #[.int .i64 0, .int .i64 0, .int .i64 0] 85)) cc⟩) (fun hHeld => ?_)
        clear hK K
        refine norm_ (a' := ?_) ?_ ?_
        rotate_left
        · show Act.put _ (some 7) _ = _
          simp only [Act.put, sA, s0_, sS, i64_w, i32_w]
          rfl
        refine one_ (i := 11) (N := some 31) #[T,T,T,T,T,T,T,T,T,T,T,T,F,F,F,T,F,F] rfl rfl (by kernel_rfl) (by decide) (fun K hK => ?_)
        refine goes_ Try.func67 (by kernel_rfl) rfl #[.slice Af nf cf, .int .i64 4, .int .i64 cn] (by rfl) rfl rfl (by (try simp only [List.map_toArray, List.map_cons, List.map_nil]); first | done | rfl) ?_
        with_reducible refine (KF.out (wd.alloc (.cells #[.int .i64 0, .int .i64 0, .int .i64 0] 85)) (BD.out.alloc BD.out.size _)).mono ?_
        rintro e wq ⟨rfl, hq⟩
        refine ⟨_, rfl, ?_⟩
        have hq2 := (below_alloc (Below.refl wd.heap.size wd) (.cells #[.int .i64 0, .int .i64 0, .int .i64 0] 85)).trans (hq.mono (by simp))
        refine hK.out _ _ (by exact ⟨pw_cell_below hq2 c6, pw_cell_below hq2 cc⟩) (fun hHeld => ?_)
        clear hK K
        refine norm_ (a' := ?_) ?_ ?_
        rotate_left
        · show Act.put _ (some 31) _ = _
          simp only [Act.put, sA, s0_, sS, i64_w, i32_w]
          rfl
        refine pure_ (i := 12) (N := some 19) (v := ?_) (a' := ?_) #[T,T,T,T,T,T,T,T,T,T,T,T,T,F,F,T,F,F] rfl rfl (by kernel_rfl) (fun _ _ _ h => h) (Or.inl ⟨by rfl, ?_⟩) ?_ ?_
        rotate_left
        · intro w'
          go_simp
          with_reducible rfl
        rotate_left
        · simp only [Act.put, sA, s0_, sS, i64_w, i32_w]
          rfl
        refine pure_ (i := 13) (N := some 32) (v := ?_) (a' := ?_) #[T,T,T,T,T,T,T,T,T,T,T,T,T,T,F,T,F,F] rfl rfl (by kernel_rfl) (fun _ _ _ h => h) (Or.inl ⟨by rfl, ?_⟩) ?_ ?_
        rotate_left
        · intro w'
          go_simp
          with_reducible rfl
        rotate_left
        · simp only [Act.put, sA, s0_, sS, i64_w, i32_w]
          rfl
        refine pure_ (i := 14) (N := some 33) (v := ?_) (a' := ?_) #[T,T,T,T,T,T,T,T,T,T,T,T,T,T,T,T,F,F] rfl rfl (by kernel_rfl) (fun _ _ _ h => h) (Or.inl ⟨by rfl, ?_⟩) ?_ ?_
        rotate_left
        · intro w'
          go_simp
          with_reducible rfl
        rotate_left
        · simp only [Act.put, sA, s0_, sS, i64_w, i32_w]
          rfl
        exact norm_ (by simp only [putAll, Act.put, sA, s0_, sS]) (hCont wd.heap.size _ ⟨hq2, Nat.le_refl _, blk_below (blk_new wd _) hq⟩)
    intro bx w3 hF
    obtain ⟨hF1, hF2, hF3⟩ := hF
    have B3 := Aside0.mk hF1
    have S3 := Aside0.mk hF2
    have K3 := Aside0.mk hF3
    have j0 := blk_cell hF3 0
    have j1 := blk_cell hF3 1
    have j2 := blk_cell hF3 2
    have l0 := blk_frozen hF3 0
    have l1 := blk_frozen hF3 1
    have l2 := blk_frozen hF3 2
    clear hF1 hF2 hF3
    refine norm_ (a' := ?_) ?_ ?_
    rotate_left
    · simp only [putAll, Act.put, sA, s0_, sS]
      rfl
    refine last_ (i := 16) (N := none) #[T,T,T,T,T,T,T,T,T,T,T,T,T,T,T,T,T,F] rfl rfl (by kernel_rfl) (by decide) (fun K hK => ?_)
    refine skip_ (w1 := ?_) (by rfl) rfl ?_ ?_
    rotate_left
    · go_simp
      rfl
    refine hK.out _ _ ?_
    clear hK K
    refine pure_ (i := 17) (N := some 8) (v := ?_) (a' := ?_) #[T,T,T,T,T,T,T,T,T,T,T,T,T,T,T,T,T,T] rfl rfl (by kernel_rfl) (fun _ _ _ h => h) (Or.inl ⟨by rfl, ?_⟩) ?_ ?_
    rotate_left
    · intro w'
      go_simp
      with_reducible rfl
    rotate_left
    · simp only [Act.put, sA, s0_, sS, i64_w, i32_w]
      rfl
    refine done_ (by kernel_rfl) ?_
    obtain ⟨w4, hw4⟩ : ∃ w4, ((w3.setCell ⟨bx, 0, none⟩ (.int .i64 0)).setCell ⟨bx, 1, none⟩ (.int .i64 0)).setCell ⟨bx, 2, none⟩ (.int .i64 0) = w4 := ⟨_, rfl⟩
    rw [hw4]
    have S4 := Aside0.mk (S1.out.box (show Below w1.heap.size w1 w4 by rw [← hw4]; exact below3 (BD.out.trans (B3.out.mono BD.out.size)) (Nat.le_trans BD.out.size S3.out) _ _ _))
    clear hw4 c6 cc j0 j1 j2 l0 l1 l2
    go_wp2_with (go_at_call 54; refine (HA.out _ S4.out).mono ?_; rintro e w5 ⟨rfl, h5⟩; have S5 := Aside0.mk h5; clear h5)
    go_ret
    exact ⟨by rw [HQ.out]; rfl, by rw [HQ.out]; exact S5.out⟩
  | some ft =>
    rw [hfind] at KF0 HFI
    have HK := HFD.out ft hfind
    have HFK : Aside0 (d.fault 4 = ft.f2) := HFI
    have KF1 : ∀ (w' : World), Below w1.heap.size w1 w' → Calls Try.prog 67 #[.slice Af nf cf, .int .i64 4, .int .i64 cn] w' fun e w'_1 => e = .returned (.tuple #[.agg #[.int .i64 ft.f0, .int .i64 ft.f1, .int .i64 ft.f2], .bool true]) ∧ Below w'.heap.size w' w'_1 := KF0
    obtain ⟨g0, hg0⟩ : ∃ g0, ft.f0 = g0 := ⟨_, rfl⟩
    obtain ⟨g1, hg1⟩ : ∃ g1, ft.f1 = g1 := ⟨_, rfl⟩
    obtain ⟨g2, hg2⟩ : ∃ g2, ft.f2 = g2 := ⟨_, rfl⟩
    rw [hg0, hg1, hg2] at KF1
    rw [hg2] at HK HFK
    have KF := Aside0.mk KF1
    have HKK := Aside0.mk HK
    clear KF0 KF1 hfind hg0 hg1 hg2 HFI HK
    refine start_ (n := 18) (S := fun w' => w'.cell? ⟨db, 6, none⟩ = some (.slice Af nf cf) ∧ w'.cell? ⟨db, 11, none⟩ = some (.int .i64 cn)) (ds := [16]) #[F,F,F,F,F,F,F,F,F,F,F,F,F,F,F,F,F,F] (by kernel_rfl) rfl rfl (⟨c6, cc⟩) (fun hHeld => ?_)
    generalize hwd : w1.drew = wd at hHeld ⊢
    have BD : Aside0 (Below w1.heap.size w1 wd) := ⟨by rw [← hwd]; exact below_drew (Below.refl _ _)⟩
    clear hwd c6 cc
    obtain ⟨c6, cc⟩ := hHeld
    have hHeld : wd.cell? ⟨db, 6, none⟩ = some (.slice Af nf cf) ∧ wd.cell? ⟨db, 11, none⟩ = some (.int .i64 cn) := ⟨c6, cc⟩
    refine pure_ (i := 0) (N := some 20) (v := ?_) (a' := ?_) #[T,F,F,F,F,F,F,F,F,F,F,F,F,F,F,F,F,F] rfl rfl (by kernel_rfl) (fun _ _ _ h => h) (Or.inl ⟨by rfl, ?_⟩) ?_ ?_
    rotate_left
    · intro w'
      go_simp
      with_reducible rfl
    rotate_left
    · simp only [Act.put, sA, s0_, sS, i64_w, i32_w]
      rfl
    refine pure_ (i := 1) (N := some 21) (v := ?_) (a' := ?_) #[T,T,F,F,F,F,F,F,F,F,F,F,F,F,F,F,F,F] rfl rfl (by kernel_rfl) (fun _ _ _ h => h) (Or.inl ⟨by rfl, ?_⟩) ?_ ?_
    rotate_left
    · intro w'
      go_simp
      with_reducible rfl
    rotate_left
    · simp only [Act.put, sA, s0_, sS, i64_w, i32_w]
      rfl
    refine pure_ (i := 2) (N := some 22) (v := ?_) (a' := ?_) #[T,T,T,F,F,F,F,F,F,F,F,F,F,F,F,F,F,F] rfl rfl (by kernel_rfl) (fun _ _ _ h => h) (Or.inl ⟨by rfl, ?_⟩) ?_ ?_
    rotate_left
    · intro w'
      go_simp
      with_reducible rfl
    rotate_left
    · simp only [Act.put, sA, s0_, sS, i64_w, i32_w]
      rfl
    refine take_ (i := 3) (N := some 23) (v := ?_) (a' := ?_) #[T,T,T,T,F,F,F,F,F,F,F,F,F,F,F,F,F,F] rfl rfl (by kernel_rfl) (fun _ _ _ h => h) (Or.inl ⟨by rfl, ?_⟩) hHeld ?_ ?_
    rotate_left
    · intro w' s0
      obtain ⟨s1, s2⟩ := s0
      go_simp
      with_reducible rfl
    rotate_left
    · simp only [Act.put, sA, s0_, sS, i64_w, i32_w]
      rfl
    refine pure_ (i := 4) (N := some 24) (v := ?_) (a' := ?_) #[T,T,T,T,T,F,F,F,F,F,F,F,F,F,F,F,F,F] rfl rfl (by kernel_rfl) (fun _ _ _ h => h) (Or.inl ⟨by rfl, ?_⟩) ?_ ?_
    rotate_left
    · intro w'
      go_simp
      with_reducible rfl
    rotate_left
    · simp only [Act.put, sA, s0_, sS, i64_w, i32_w]
      rfl
    refine pure_ (i := 5) (N := some 25) (v := ?_) (a' := ?_) #[T,T,T,T,T,T,F,F,F,F,F,F,F,F,F,F,F,F] rfl rfl (by kernel_rfl) (fun _ _ _ h => h) (Or.inl ⟨by rfl, ?_⟩) ?_ ?_
    rotate_left
    · intro w'
      go_simp
      with_reducible rfl
    rotate_left
    · simp only [Act.put, sA, s0_, sS, i64_w, i32_w]
      rfl
    refine pure_ (i := 6) (N := some 26) (v := ?_) (a' := ?_) #[T,T,T,T,T,T,T,F,F,F,F,F,F,F,F,F,F,F] rfl rfl (by kernel_rfl) (fun _ _ _ h => h) (Or.inl ⟨by rfl, ?_⟩) ?_ ?_
    rotate_left
    · intro w'
      go_simp
      with_reducible rfl
    rotate_left
    · simp only [Act.put, sA, s0_, sS, i64_w, i32_w]
      rfl
    refine pure_ (i := 7) (N := some 27) (v := ?_) (a' := ?_) #[T,T,T,T,T,T,T,T,F,F,F,F,F,F,F,F,F,F] rfl rfl (by kernel_rfl) (fun _ _ _ h => h) (Or.inl ⟨by rfl, ?_⟩) ?_ ?_
    rotate_left
    · intro w'
      go_simp
      with_reducible rfl
    rotate_left
    · simp only [Act.put, sA, s0_, sS, i64_w, i32_w]
      rfl
    refine pure_ (i := 8) (N := some 28) (v := ?_) (a' := ?_) #[T,T,T,T,T,T,T,T,T,F,F,F,F,F,F,F,F,F] rfl rfl (by kernel_rfl) (fun _ _ _ h => h) (Or.inl ⟨by rfl, ?_⟩) ?_ ?_
    rotate_left
    · intro w'
      go_simp
      with_reducible rfl
    rotate_left
    · simp only [Act.put, sA, s0_, sS, i64_w, i32_w]
      rfl
    refine pure_ (i := 9) (N := some 29) (v := ?_) (a' := ?_) #[T,T,T,T,T,T,T,T,T,T,F,F,F,F,F,F,F,F] rfl rfl (by kernel_rfl) (fun _ _ _ h => h) (Or.inl ⟨by rfl, ?_⟩) ?_ ?_
    rotate_left
    · intro w'
      go_simp
      with_reducible rfl
    rotate_left
    · simp only [Act.put, sA, s0_, sS, i64_w, i32_w]
      rfl
    refine take_ (i := 10) (N := some 30) (v := ?_) (a' := ?_) #[T,T,T,T,T,T,T,T,T,T,T,F,F,F,F,F,F,F] rfl rfl (by kernel_rfl) (fun _ _ _ h => h) (Or.inl ⟨by rfl, ?_⟩) hHeld ?_ ?_
    rotate_left
    · intro w' s0
      obtain ⟨s1, s2⟩ := s0
      go_simp
      with_reducible rfl
    rotate_left
    · simp only [Act.put, sA, s0_, sS, i64_w, i32_w]
      rfl
    refine join_ (σ := Nat) 2 #[T,T,T,T,T,T,T,T,T,T,T,T,T,T,T,T,F,F] (fun s_ => [(31, .tuple #[.agg #[.int .i64 g0, .int .i64 g1, .int .i64 g2], .bool true]), (7, .pointer (some ⟨s_, 0, none⟩)), (19, .tuple #[.agg #[.int .i64 g0, .int .i64 g1, .int .i64 g2], .bool true]), (32, .agg #[.int .i64 g0, .int .i64 g1, .int .i64 g2]), (33, .bool true)]) (fun s_ w' => Below wd.heap.size wd w' ∧ wd.heap.size ≤ s_ ∧ w'.heap[s_]? = some (.cells #[.int .i64 0, .int .i64 0, .int .i64 0] 85 (0, 0))) ?_ ?_
    rotate_left
    · intro hCont
      refine two_ (i := 11) (j := 15) (Ni := some 31) (Nj := some 7) #[T,T,T,T,T,T,T,T,T,T,T,T,F,F,F,F,F,F] #[T,T,T,T,T,T,T,T,T,T,T,F,F,F,F,T,F,F] rfl rfl rfl rfl (by kernel_rfl) (by decide) (by decide) (fun K hK => ?_) (fun K hK => ?_)
      · skip
        refine goes_ Try.func67 (by kernel_rfl) rfl #[.slice Af nf cf, .int .i64 4, .int .i64 cn] (by rfl) rfl rfl (by (try simp only [List.map_toArray, List.map_cons, List.map_nil]); first | done | rfl) ?_
        with_reducible refine (KF.out wd BD.out).mono ?_
        rintro e wq ⟨rfl, hq⟩
        refine ⟨_, rfl, ?_⟩
        refine hK.out _ _ (by exact ⟨pw_cell_below hq c6, pw_cell_below hq cc⟩) (fun hHeld => ?_)
        clear hK K
        refine norm_ (a' := ?_) ?_ ?_
        rotate_left
        · show Act.put _ (some 31) _ = _
          simp only [Act.put, sA, s0_, sS, i64_w, i32_w]
          rfl
        refine pure_ (i := 12) (N := some 19) (v := ?_) (a' := ?_) #[T,T,T,T,T,T,T,T,T,T,T,T,T,F,F,F,F,F] rfl rfl (by kernel_rfl) (fun _ _ _ h => h) (Or.inl ⟨by rfl, ?_⟩) ?_ ?_
        rotate_left
        · intro w'
          go_simp
          with_reducible rfl
        rotate_left
        · simp only [Act.put, sA, s0_, sS, i64_w, i32_w]
          rfl
        refine pure_ (i := 13) (N := some 32) (v := ?_) (a' := ?_) #[T,T,T,T,T,T,T,T,T,T,T,T,T,T,F,F,F,F] rfl rfl (by kernel_rfl) (fun _ _ _ h => h) (Or.inl ⟨by rfl, ?_⟩) ?_ ?_
        rotate_left
        · intro w'
          go_simp
          with_reducible rfl
        rotate_left
        · simp only [Act.put, sA, s0_, sS, i64_w, i32_w]
          rfl
        refine pure_ (i := 14) (N := some 33) (v := ?_) (a' := ?_) #[T,T,T,T,T,T,T,T,T,T,T,T,T,T,T,F,F,F] rfl rfl (by kernel_rfl) (fun _ _ _ h => h) (Or.inl ⟨by rfl, ?_⟩) ?_ ?_
        rotate_left
        · intro w'
          go_simp
          with_reducible rfl
        rotate_left
        · simp only [Act.put, sA, s0_, sS, i64_w, i32_w]
          rfl
        refine one_ (i := 15) (N := some 7) #[T,T,T,T,T,T,T,T,T,T,T,T,T,T,T,T,F,F] rfl rfl (by kernel_rfl) (by decide) (fun K hK => ?_)
        refine value_ (w1 := ?_) (v := ?_) (by rfl) rfl ?_ ?_
        rotate_left 2
        · go_simp
          constructor
          · rfl
          · rfl
        refine hK.out _ _ (by exact ⟨pw_cell_below (hq.alloc hq.size _) c6, pw_cell_below (hq.alloc hq.size _) cc⟩) (fun hHeld => ?_)
        clear hK K
        refine norm_ (a' := ?_) ?_ ?_
        rotate_left
        · show Act.put _ (some 7) _ = _
          simp only [Act.put, sA, s0_, sS, i64_w, i32_w]
          rfl
        exact norm_ (by simp only [putAll, Act.put, sA, s0_, sS]) (hCont wq.heap.size _ ⟨hq.alloc hq.size _, hq.size, blk_new wq _⟩)
      · skip
        refine value_ (w1 := ?_) (v := ?_) (by rfl) rfl ?_ ?_
        rotate_left 2
        · go_simp
          constructor
          · rfl
          · rfl
        refine hK.out _ _ (by exact ⟨pw_cell_below (below_alloc (Below.refl wd.heap.size wd) (.cells #[.int .i64 0, .int .i64 0, .int .i64 0] 85)) c6, pw_cell_below (below_alloc (Below.refl wd.heap.size wd) (.cells #[.int .i64 0, .int .i64 0, .int .i64 0] 85)) cc⟩) (fun hHeld => ?_)
        clear hK K
        refine norm_ (a' := ?_) ?_ ?_
        rotate_left
        · show Act.put _ (some 7) _ = _
          simp only [Act.put, sA, s0_, sS, i64_w, i32_w]
          rfl
        refine one_ (i := 11) (N := some 31) #[T,T,T,T,T,T,T,T,T,T,T,T,F,F,F,T,F,F] rfl rfl (by kernel_rfl) (by decide) (fun K hK => ?_)
        refine goes_ Try.func67 (by kernel_rfl) rfl #[.slice Af nf cf, .int .i64 4, .int .i64 cn] (by rfl) rfl rfl (by (try simp only [List.map_toArray, List.map_cons, List.map_nil]); first | done | rfl) ?_
        with_reducible refine (KF.out (wd.alloc (.cells #[.int .i64 0, .int .i64 0, .int .i64 0] 85)) (BD.out.alloc BD.out.size _)).mono ?_
        rintro e wq ⟨rfl, hq⟩
        refine ⟨_, rfl, ?_⟩
        have hq2 := (below_alloc (Below.refl wd.heap.size wd) (.cells #[.int .i64 0, .int .i64 0, .int .i64 0] 85)).trans (hq.mono (by simp))
        refine hK.out _ _ (by exact ⟨pw_cell_below hq2 c6, pw_cell_below hq2 cc⟩) (fun hHeld => ?_)
        clear hK K
        refine norm_ (a' := ?_) ?_ ?_
        rotate_left
        · show Act.put _ (some 31) _ = _
          simp only [Act.put, sA, s0_, sS, i64_w, i32_w]
          rfl
        refine pure_ (i := 12) (N := some 19) (v := ?_) (a' := ?_) #[T,T,T,T,T,T,T,T,T,T,T,T,T,F,F,T,F,F] rfl rfl (by kernel_rfl) (fun _ _ _ h => h) (Or.inl ⟨by rfl, ?_⟩) ?_ ?_
        rotate_left
        · intro w'
          go_simp
          with_reducible rfl
        rotate_left
        · simp only [Act.put, sA, s0_, sS, i64_w, i32_w]
          rfl
        refine pure_ (i := 13) (N := some 32) (v := ?_) (a' := ?_) #[T,T,T,T,T,T,T,T,T,T,T,T,T,T,F,T,F,F] rfl rfl (by kernel_rfl) (fun _ _ _ h => h) (Or.inl ⟨by rfl, ?_⟩) ?_ ?_
        rotate_left
        · intro w'
          go_simp
          with_reducible rfl
        rotate_left
        · simp only [Act.put, sA, s0_, sS, i64_w, i32_w]
          rfl
        refine pure_ (i := 14) (N := some 33) (v := ?_) (a' := ?_) #[T,T,T,T,T,T,T,T,T,T,T,T,T,T,T,T,F,F] rfl rfl (by kernel_rfl) (fun _ _ _ h => h) (Or.inl ⟨by rfl, ?_⟩) ?_ ?_
        rotate_left
        · intro w'
          go_simp
          with_reducible rfl
        rotate_left
        · simp only [Act.put, sA, s0_, sS, i64_w, i32_w]
          rfl
        exact norm_ (by simp only [putAll, Act.put, sA, s0_, sS]) (hCont wd.heap.size _ ⟨hq2, Nat.le_refl _, blk_below (blk_new wd _) hq⟩)
    intro bx w3 hF
    obtain ⟨hF1, hF2, hF3⟩ := hF
    have B3 := Aside0.mk hF1
    have S3 := Aside0.mk hF2
    have K3 := Aside0.mk hF3
    have j0 := blk_cell hF3 0
    have j1 := blk_cell hF3 1
    have j2 := blk_cell hF3 2
    have l0 := blk_frozen hF3 0
    have l1 := blk_frozen hF3 1
    have l2 := blk_frozen hF3 2
    clear hF1 hF2 hF3
    refine norm_ (a' := ?_) ?_ ?_
    rotate_left
    · simp only [putAll, Act.put, sA, s0_, sS]
      rfl
    refine last_ (i := 16) (N := none) #[T,T,T,T,T,T,T,T,T,T,T,T,T,T,T,T,T,F] rfl rfl (by kernel_rfl) (by decide) (fun K hK => ?_)
    refine skip_ (w1 := ?_) (by rfl) rfl ?_ ?_
    rotate_left
    · go_simp
      rfl
    refine hK.out _ _ ?_
    clear hK K
    refine pure_ (i := 17) (N := some 8) (v := ?_) (a' := ?_) #[T,T,T,T,T,T,T,T,T,T,T,T,T,T,T,T,T,T] rfl rfl (by kernel_rfl) (fun _ _ _ h => h) (Or.inl ⟨by rfl, ?_⟩) ?_ ?_
    rotate_left
    · intro w'
      go_simp
      with_reducible rfl
    rotate_left
    · simp only [Act.put, sA, s0_, sS, i64_w, i32_w]
      rfl
    refine done_ (by kernel_rfl) ?_
    obtain ⟨w4, hw4⟩ : ∃ w4, ((w3.setCell ⟨bx, 0, none⟩ (.int .i64 g0)).setCell ⟨bx, 1, none⟩ (.int .i64 g1)).setCell ⟨bx, 2, none⟩ (.int .i64 g2) = w4 := ⟨_, rfl⟩
    rw [hw4]
    have S4 := Aside0.mk (S1.out.box (show Below w1.heap.size w1 w4 by rw [← hw4]; exact below3 (BD.out.trans (B3.out.mono BD.out.size)) (Nat.le_trans BD.out.size S3.out) _ _ _))
    have k2 : w4.cell? ⟨bx, 2, none⟩ = some (.int .i64 g2) := by rw [← hw4]; exact blk_cell (put3 K3.out _ _ _) 2
    clear hw4 c6 cc j0 j1 j2 l0 l1 l2
    rcases HKK.out with hk | hk
    · subst hk
      have HQ : Aside0 (d.op 4 act = ((d.count 4).flop, 5)) := ⟨by rw [OPE.out, HFK.out, if_neg (by decide)]; exact if_pos rfl⟩
      obtain ⟨g1, g2, g3⟩ := DevA.fail S4.out _ rfl
      have S6 := Aside0.mk g1
      obtain ⟨fa, hfa⟩ : ∃ fa, (d.count 4).failed = fa := ⟨_, rfl⟩
      rw [hfa] at S6 g2
      clear g1 hfa
      go_wp2
      go_ret
      exact ⟨by rw [HQ.out]; rfl, by rw [HQ.out]; exact S6.out⟩
    · subst hk
      have HQ : Aside0 (d.op 4 act = ((act (d.count 4)).flop, 5)) := ⟨by rw [OPE.out, HFK.out, if_neg (by decide)]; exact if_neg (by decide)⟩
      go_upto_region 5 with (go_at_call 54; refine (HA.out _ S4.out).mono ?_; rintro e w5 ⟨rfl, h5⟩; have S5 := Aside0.mk h5; clear h5)
      obtain ⟨g1, g2, g3⟩ := DevA.fail S5.out _ rfl
      have S6 := Aside0.mk g1
      obtain ⟨fa, hfa⟩ : ∃ fa, (act (d.count 4)).failed = fa := ⟨_, rfl⟩
      rw [hfa] at S6 g2
      clear g1 hfa k2
      go_wp2
      go_ret
      exact ⟨by rw [HQ.out]; rfl, by rw [HQ.out]; exact S6.out⟩
set_option maxHeartbeats 4000000 in
set_option maxRecDepth 100000 in
theorem op_49 {B : Nat} {f : Owner} {w : World} {db : Nat} {d : Dv} (h : DevX B f w db d) (ok : d.Ok) (act : Dv → Dv) (HA : Aside0 (∀ w1, DevA B f w db (d.count 1) w1 → Calls Try.prog 49 #[] w1 (fun e w2 => e = .returned (.tuple #[]) ∧ DevA B f w db (act (d.count 1)) w2))) :
    Calls Try.prog 48 #[.pointer (some ⟨db, 0, none⟩), .int .i64 1, .func (.func 49) #[] #[]] w (fun e w' => e = .returned (.int .i64 (d.op 1 act).2) ∧ DevA B f w db (d.op 1 act).1 w') := by
  obtain ⟨im, imc, vu, vf, vw, hg⟩ := h
  have S1 : Aside0 (DevA B f w db (d.count 1) (w.setCell ⟨db, 8, none⟩ (.int .i64 (wrap64 (d.c 1 + 1)))).drew) := ⟨by
    obtain ⟨g1, g2⟩ := hg.setC 1 (by decide) (wrap64 (d.c 1 + 1))
    exact DevA.box ⟨f, ⟨im, imc, vu, vf, vw, g1⟩, g2⟩ (below_drew (Below.refl _ _))⟩
  have hfr := blk_frozen hg.blk 8
  have cc : w.cell? ⟨db, 8, none⟩ = some (.int .i64 (d.c 1)) := hg.at_ 8
  have FL := Aside0.mk (And.intro ok.fll ok.flk)
  have OPE : Aside0 (d.op 1 act = if d.fault 1 = 0 then (act (d.count 1), 0) else if d.fault 1 = 1 then ((d.count 1).flop, 5) else ((act (d.count 1)).flop, 5)) := ⟨rfl⟩
  obtain ⟨cv, hcv⟩ : ∃ cv, d.c 1 = cv := ⟨_, rfl⟩
  have HCV := Aside0.mk hcv
  rw [hcv] at S1 cc
  clear hg ok hcv
  go_enter Try.func48, Try.ntmps48
  go_upto_region 1 with (fail)
  refine start_ (n := 11) (S := fun w' => w'.cell? ⟨db, 8, none⟩ = some (.int .i64 cv)) (ds := [10]) #[F,F,F,F,F,F,F,F,F,F,F] (by kernel_rfl) rfl rfl (cc) (fun hHeld => ?_)
  refine pure_ (i := 0) (N := some 9) (v := ?_) (a' := ?_) #[T,F,F,F,F,F,F,F,F,F,F] rfl rfl (by kernel_rfl) (fun _ _ _ h => h) (Or.inl ⟨by rfl, ?_⟩) ?_ ?_
  rotate_left
  · intro w'
    go_simp
    with_reducible rfl
  rotate_left
  · simp only [Act.put, sA, s0_, sS, i64_w, i32_w]
    rfl
  refine pure_ (i := 1) (N := some 10) (v := ?_) (a' := ?_) #[T,T,F,F,F,F,F,F,F,F,F] rfl rfl (by kernel_rfl) (fun _ _ _ h => h) (Or.inl ⟨by rfl, ?_⟩) ?_ ?_
  rotate_left
  · intro w'
    go_simp
    with_reducible rfl
  rotate_left
  · simp only [Act.put, sA, s0_, sS, i64_w, i32_w]
    rfl
  refine pure_ (i := 2) (N := some 11) (v := ?_) (a' := ?_) #[T,T,T,F,F,F,F,F,F,F,F] rfl rfl (by kernel_rfl) (fun _ _ _ h => h) (Or.inl ⟨by rfl, ?_⟩) ?_ ?_
  rotate_left
  · intro w'
    go_simp
    with_reducible rfl
  rotate_left
  · simp only [Act.put, sA, s0_, sS, i64_w, i32_w]
    rfl
  refine pure_ (i := 3) (N := some 12) (v := ?_) (a' := ?_) #[T,T,T,T,F,F,F,F,F,F,F] rfl rfl (by kernel_rfl) (fun _ _ _ h => h) (Or.inl ⟨by rfl, ?_⟩) ?_ ?_
  rotate_left
  · intro w'
    go_simp
    with_reducible rfl
  rotate_left
  · simp only [Act.put, sA, s0_, sS, i64_w, i32_w]
    rfl
  refine pure_ (i := 4) (N := some 13) (v := ?_) (a' := ?_) #[T,T,T,T,T,F,F,F,F,F,F] rfl rfl (by kernel_rfl) (fun _ _ _ h => h) (Or.inl ⟨by rfl, ?_⟩) ?_ ?_
  rotate_left
  · intro w'
    go_simp
    with_reducible rfl
  rotate_left
  · simp only [Act.put, sA, s0_, sS, i64_w, i32_w]
    rfl
  refine take_ (i := 5) (N := some 14) (v := ?_) (a' := ?_) #[T,T,T,T,T,T,F,F,F,F,F] rfl rfl (by kernel_rfl) (fun _ _ _ h => h) (Or.inl ⟨by rfl, ?_⟩) hHeld ?_ ?_
  rotate_left
  · intro w' s0
    go_simp
    with_reducible rfl
  rotate_left
  · simp only [Act.put, sA, s0_, sS, i64_w, i32_w]
    rfl
  refine pure_ (i := 6) (N := some 15) (v := ?_) (a' := ?_) #[T,T,T,T,T,T,T,F,F,F,F] rfl rfl (by kernel_rfl) (fun _ _ _ h => h) (Or.inl ⟨by rfl, ?_⟩) ?_ ?_
  rotate_left
  · intro w'
    go_simp
    with_reducible rfl
  rotate_left
  · simp only [Act.put, sA, s0_, sS, i64_w, i32_w]
    rfl
  refine pure_ (i := 7) (N := some 16) (v := ?_) (a' := ?_) #[T,T,T,T,T,T,T,T,F,F,F] rfl rfl (by kernel_rfl) (fun _ _ _ h => h) (Or.inl ⟨by rfl, ?_⟩) ?_ ?_
  rotate_left
  · intro w'
    go_simp
    with_reducible rfl
  rotate_left
  · simp only [Act.put, sA, s0_, sS, i64_w, i32_w]
    rfl
  refine pure_ (i := 8) (N := some 17) (v := ?_) (a' := ?_) #[T,T,T,T,T,T,T,T,T,F,F] rfl rfl (by kernel_rfl) (fun _ _ _ h => h) (Or.inl ⟨by rfl, ?_⟩) ?_ ?_
  rotate_left
  · intro w'
    go_simp
    with_reducible rfl
  rotate_left
  · simp only [Act.put, sA, s0_, sS, i64_w, i32_w]
    rfl
  refine pure_ (i := 9) (N := some 18) (v := ?_) (a' := ?_) #[T,T,T,T,T,T,T,T,T,T,F] rfl rfl (by kernel_rfl) (fun _ _ _ h => h) (Or.inl ⟨by rfl, ?_⟩) ?_ ?_
  rotate_left
  · intro w'
    go_simp
    with_reducible rfl
  rotate_left
  · simp only [Act.put, sA, s0_, sS, i64_w, i32_w]
    rfl
  refine last_ (i := 10) (N := none) #[T,T,T,T,T,T,T,T,T,T,T] rfl rfl (by kernel_rfl) (by decide) (fun K hK => ?_)
  refine skip_ (w1 := ?_) (by rfl) rfl ?_ ?_
  rotate_left
  · go_simp
    rfl
  refine hK.out _ _ ?_
  clear hK K
  refine done_ (by kernel_rfl) ?_
  go_upto_region 2 with (fail)
  obtain ⟨w1, hw1⟩ : ∃ w1, (w.setCell ⟨db, 8, none⟩ (.int .i64 (wrap64 (cv + 1)))).drew = w1 := ⟨_, rfl⟩
  rw [hw1] at S1
  rw [hw1]
  clear hw1 cc hfr
  have GD : Aside0 (∃ Af cf, w1.cell? ⟨db, 6, none⟩ = some (.slice Af d.fl.length cf) ∧ k85.C w1 Af d.fl.length d.fl ∧ d.fl.length ≤ cf ∧ w1.cell? ⟨db, 8, none⟩ = some (.int .i64 (wrap64 (cv + 1)))) := ⟨by
    obtain ⟨f1, ⟨im1, imc1, vu1, vf1, vw1, g1⟩, m1⟩ := S1.out
    obtain ⟨Af, cf, ev, hle, hC⟩ := Kd.R_reads g1.fl
    subst ev
    refine ⟨Af, cf, g1.at_ 6, hC, hle, ?_⟩
    have e : (d.count 1).c 1 = wrap64 (cv + 1) := by rw [← HCV.out]; show (if (1 : Nat) = 1 then wrap64 (d.c 1 + 1) else d.c 1) = _; exact if_pos rfl
    rw [← e]
    exact g1.at_ 8⟩
  obtain ⟨Af, cf, c6, hC, hle, cc⟩ := GD.out
  have HFI : Aside0 (d.fault 1 = match findF d.fl 1 (wrap64 (cv + 1)) with | some f => f.f2 | none => 0) := ⟨by rw [← HCV.out]; rfl⟩
  obtain ⟨cn, hcn⟩ : ∃ cn, wrap64 (cv + 1) = cn := ⟨_, rfl⟩
  rw [hcn] at cc HFI
  have KF0 := fun (w' : World) (hb : Below w1.heap.size w1 w') => flash_faulty.calls (d.fl.length + 1) Af cf d.fl 1 cn _ _ _ _ w' (Kd.C_below hC hb) hle (faulty_eq d.fl 1 cn (Nat.lt_of_le_of_lt FL.out.1 (by decide)))
  obtain ⟨nf, hnf⟩ : ∃ nf, d.fl.length = nf := ⟨_, rfl⟩
  rw [hnf] at KF0 c6
  have HFD : Aside0 (∀ ft, findF d.fl 1 cn = some ft → ft.f2 = 1 ∨ ft.f2 = 2) := ⟨fun ft hF => FL.out.2 ft (List.mem_of_find?_eq_some hF)⟩
  clear GD hC hle hcn hnf FL
  cases hfind : findF d.fl 1 cn with
  | none =>
    rw [hfind] at KF0 HFI
    have HQ : Aside0 (d.op 1 act = (act (d.count 1), 0)) := ⟨by rw [OPE.out, HFI.out]; exact if_pos rfl⟩
    have KF := Aside0.mk (show ∀ (w' : World), Below w1.heap.size w1 w' → Calls Try.prog 67 #[.slice Af nf cf, .int .i64 1, .int .i64 cn] w' fun e w'_1 => e = .returned (.tuple #[.agg #[.int .i64 0, .int .i64 0, .int .i64 0], .bool false]) ∧ Below w'.heap.size w' w'_1 from KF0)
    clear KF0 hfind
    refine start_ (n := 18) (S := fun w' => w'.cell? ⟨db, 6, none⟩ = some (.slice Af nf cf) ∧ w'.cell? ⟨db, 8, none⟩ = some (.int .i64 cn)) (ds := [16]) #[F,F,F,F,F,F,F,F,F,F,F,F,F,F,F,F,F,F] (by kernel_rfl) rfl rfl (⟨c6, cc⟩) (fun hHeld => ?_)
    generalize hwd : w1.drew = wd at hHeld ⊢
    have BD : Aside0 (Below w1.heap.size w1 wd) := ⟨by rw [← hwd]; exact below_drew (Below.refl _ _)⟩
    clear hwd c6 cc
    obtain ⟨c6, cc⟩ := hHeld
    have hHeld : wd.cell? ⟨db, 6, none⟩ = some (.slice Af nf cf) ∧ wd.cell? ⟨db, 8, none⟩ = some (.int .i64 cn) := ⟨c6, cc⟩
    refine pure_ (i := 0) (N := some 20) (v := ?_) (a' := ?_) #[T,F,F,F,F,F,F,F,F,F,F,F,F,F,F,F,F,F] rfl rfl (by kernel_rfl) (fun _ _ _ h => h) (Or.inl ⟨by rfl, ?_⟩) ?_ ?_
    rotate_left
    · intro w'
      go_simp
      with_reducible rfl
    rotate_left
    · simp only [Act.put, sA, s0_, sS, i64_w, i32_w]
      rfl
    refine pure_ (i := 1) (N := some 21) (v := ?_) (a' := ?_) #[T,T,F,F,F,F,F,F,F,F,F,F,F,F,F,F,F,F] rfl rfl (by kernel_rfl) (fun _ _ _ h => h) (Or.inl ⟨by rfl, ?_⟩) ?_ ?_
    rotate_left
    · intro w'
      go_simp
      with_reducible rfl
    rotate_left
    · simp only [Act.put, sA, s0_, sS, i64_w, i32_w]
      rfl
    refine pure_ (i := 2) (N := some 22) (v := ?_) (a' := ?_) #[T,T,T,F,F,F,F,F,F,F,F,F,F,F,F,F,F,F] rfl rfl (by kernel_rfl) (fun _ _ _ h => h) (Or.inl ⟨by rfl, ?_⟩) ?_ ?_
    rotate_left
    · intro w'
      go_simp
      with_reducible rfl
    rotate_left
    · simp only [Act.put, sA, s0_, sS, i64_w, i32_w]
      rfl
    refine take_ (i := 3) (N := some 23) (v := ?_) (a' := ?_) #[T,T,T,T,F,F,F,F,F,F,F,F,F,F,F,F,F,F] rfl rfl (by kernel_rfl) (fun _ _ _ h => h) (Or.inl ⟨by rfl, ?_⟩) hHeld ?_ ?_
    rotate_left
    · intro w' s0
      obtain ⟨s1, s2⟩ := s0
      go_simp
      with_reducible rfl
    rotate_left
    · simp only [Act.put, sA, s0_, sS, i64_w, i32_w]
      rfl
    refine pure_ (i := 4) (N := some 24) (v := ?_) (a' := ?_) #[T,T,T,T,T,F,F,F,F,F,F,F,F,F,F,F,F,F] rfl rfl (by kernel_rfl) (fun _ _ _ h => h) (Or.inl ⟨by rfl, ?_⟩) ?_ ?_
    rotate_left
    · intro w'
      go_simp
      with_reducible rfl
    rotate_left
    · simp only [Act.put, sA, s0_, sS, i64_w, i32_w]
      rfl
    refine pure_ (i := 5) (N := some 25) (v := ?_) (a' := ?_) #[T,T,T,T,T,T,F,F,F,F,F,F,F,F,F,F,F,F] rfl rfl (by kernel_rfl) (fun _ _ _ h => h) (Or.inl ⟨by rfl, ?_⟩) ?_ ?_
    rotate_left
    · intro w'
      go_simp
      with_reducible rfl
    rotate_left
    · simp only [Act.put, sA, s0_, sS, i64_w, i32_w]
      rfl
    refine pure_ (i := 6) (N := some 26) (v := ?_) (a' := ?_) #[T,T,T,T,T,T,T,F,F,F,F,F,F,F,F,F,F,F] rfl rfl (by kernel_rfl) (fun _ _ _ h => h) (Or.inl ⟨by rfl, ?_⟩) ?_ ?_
    rotate_left
    · intro w'
      go_simp
      with_reducible rfl
    rotate_left
    · simp only [Act.put, sA, s0_, sS, i64_w, i32_w]
      rfl
    refine pure_ (i := 7) (N := some 27) (v := ?_) (a' := ?_) #[T,T,T,T,T,T,T,T,F,F,F,F,F,F,F,F,F,F] rfl rfl (by kernel_rfl) (fun _ _ _ h => h) (Or.inl ⟨by rfl, ?_⟩) ?_ ?_
    rotate_left
    · intro w'
      go_simp
      with_reducible rfl
    rotate_left
    · simp only [Act.put, sA, s0_, sS, i64_w, i32_w]
      rfl
    refine pure_ (i := 8) (N := some 28) (v := ?_) (a' := ?_) #[T,T,T,T,T,T,T,T,T,F,F,F,F,F,F,F,F,F] rfl rfl (by kernel_rfl) (fun _ _ _ h => h) (Or.inl ⟨by rfl, ?_⟩) ?_ ?_
    rotate_left
    · intro w'
      go_simp
      with_reducible rfl
    rotate_left
    · simp only [Act.put, sA, s0_, sS, i64_w, i32_w]
      rfl
    refine pure_ (i := 9) (N := some 29) (v := ?_) (a' := ?_) #[T,T,T,T,T,T,T,T,T,T,F,F,F,F,F,F,F,F] rfl rfl (by kernel_rfl) (fun _ _ _ h => h) (Or.inl ⟨by rfl, ?_⟩) ?_ ?_
    rotate_left
    · intro w'
      go_simp
      with_reducible rfl
    rotate_left
    · simp only [Act.put, sA, s0_, sS, i64_w, i32_w]
      rfl
    refine take_ (i := 10) (N := some 30) (v := ?_) (a' := ?_) #[T,T,T,T,T,T,T,T,T,T,T,F,F,F,F,F,F,F] rfl rfl (by kernel_rfl) (fun _ _ _ h => h) (Or.inl ⟨by rfl, ?_⟩) hHeld ?_ ?_
    rotate_left
    · intro w' s0
      obtain ⟨s1, s2⟩ := s0
      go_simp
      with_reducible rfl
    rotate_left
    · simp only [Act.put, sA, s0_, sS, i64_w, i32_w]
      rfl
    refine join_ (σ := Nat) 2 #[T,T,T,T,T,T,T,T,T,T,T,T,T,T,T,T,F,F] (fun s_ => [(31, .tuple #[.agg #[.int .i64 0, .int .i64 0, .int .i64 0], .bool false]), (7, .pointer (some ⟨s_, 0, none⟩)), (19, .tuple #[.agg #[.int .i64 0, .int .i64 0, .int .i64 0], .bool false]), (32, .agg #[.int .i64 0, .int .i64 0, .int .i64 0]), (33, .bool false)]) (fun s_ w' => Below wd.heap.size wd w' ∧ wd.heap.size ≤ s_ ∧ w'.heap[s_]? = some (.cells #[.int .i64 0, .int .i64 0, .int .i64 0] 85 (0, 0))) ?_ ?_
    rotate_left
    · intro hCont
      refine two_ (i := 11) (j := 15) (Ni := some 31) (Nj := some 7) #[T,T,T,T,T,T,T,T,T,T,T,T,F,F,F,F,F,F] #[T,T,T,T,T,T,T,T,T,T,T,F,F,F,F,T,F,F] rfl rfl rfl rfl (by kernel_rfl) (by decide) (by decide) (fun K hK => ?_) (fun K hK => ?_)
      · skip
        refine goes_ Try.func67 (by kernel_rfl) rfl #[.slice Af nf cf, .int .i64 1, .int .i64 cn] (by rfl) rfl rfl (by (try simp only [List.map_toArray, List.map_cons, List.map_nil]); first | done | rfl) ?_
        with_reducible refine (KF.out wd BD.out).mono ?_
        rintro e wq ⟨rfl, hq⟩
        refine ⟨_, rfl, ?_⟩
        refine hK.out _ _ (by exact ⟨pw_cell_below hq c6, pw_cell_below hq cc⟩) (fun hHeld => ?_)
        clear hK K
        refine norm_ (a' := ?_) ?_ ?_
        rotate_left
        · show Act.put _ (some 31) _ = _
          simp only [Act.put, sA, s0_, sS, i64_w, i32_w]
          rfl
        refine pure_ (i := 12) (N := some 19) (v := ?_) (a' := ?_) #[T,T,T,T,T,T,T,T,T,T,T,T,T,F,F,F,F,F] rfl rfl (by kernel_rfl) (fun _ _ _ h => h) (Or.inl ⟨by rfl, ?_⟩) ?_ ?_
        rotate_left
        · intro w'
          go_simp
          with_reducible rfl
        rotate_left
        · simp only [Act.put, sA, s0_, sS, i64_w, i32_w]
          rfl
        refine pure_ (i := 13) (N := some 32) (v := ?_) (a' := ?_) #[T,T,T,T,T,T,T,T,T,T,T,T,T,T,F,F,F,F] rfl rfl (by kernel_rfl) (fun _ _ _ h => h) (Or.inl ⟨by rfl, ?_⟩) ?_ ?_
        rotate_left
        · intro w'
          go_simp
          with_reducible rfl
        rotate_left
        · simp only [Act.put, sA, s0_, sS, i64_w, i32_w]
          rfl
        refine pure_ (i := 14) (N := some 33) (v := ?_) (a' := ?_) #[T,T,T,T,T,T,T,T,T,T,T,T,T,T,T,F,F,F] rfl rfl (by kernel_rfl) (fun _ _ _ h => h) (Or.inl ⟨by rfl, ?_⟩) ?_ ?_
        rotate_left
        · intro w'
          go_simp
          with_reducible rfl
        rotate_left
        · simp only [Act.put, sA, s0_, sS, i64_w, i32_w]
          rfl
        refine one_ (i := 15) (N := some 7) #[T,T,T,T,T,T,T,T,T,T,T,T,T,T,T,T,F,F] rfl rfl (by kernel_rfl) (by decide) (fun K hK => ?_)
        refine value_ (w1 := ?_) (v := ?_) (by rfl) rfl ?_ ?_
        rotate_left 2
        · go_simp
          constructor
          · rfl
          · rfl
        refine hK.out _ _ (by exact ⟨pw_cell_below (hq.alloc hq.size _) c6, pw_cell_below (hq.alloc hq.size _) cc⟩) (fun hHeld => ?_)
        clear hK K
        refine norm_ (a' := ?_) ?_ ?_
        rotate_left
        · show Act.put _ (some 7) _ = _
          simp only [Act.put, sA, s0_, sS, i64_w, i32_w]
          rfl
        exact norm_ (by simp only [putAll, Act.put, sA, s0_, sS]) (hCont wq.heap.size _ ⟨hq.alloc hq.size _, hq.size, blk_new wq _⟩)
      · skip
        refine value_ (w1 := ?_) (v := ?_) (by rfl) rfl ?_ ?_
        rotate_left 2
        · go_simp
          constructor
          · rfl
          · rfl
        refine hK.out _ _ (by exact ⟨pw_cell_below (below_alloc (Below.refl wd.heap.size wd) (.cells #[.int .i64 0, .int .i64 0, .int .i64 0] 85)) c6, pw_cell_below (below_alloc (Below.refl wd.heap.size wd) (.cells #[.int .i64 0, .int .i64 0, .int .i64 0] 85)) cc⟩) (fun hHeld => ?_)
        clear hK K
        refine norm_ (a' := ?_) ?_ ?_
        rotate_left
        · show Act.put _ (some 7) _ = _
          simp only [Act.put, sA, s0_, sS, i64_w, i32_w]
          rfl
        refine one_ (i := 11) (N := some 31) #[T,T,T,T,T,T,T,T,T,T,T,T,F,F,F,T,F,F] rfl rfl (by kernel_rfl) (by decide) (fun K hK => ?_)
        refine goes_ Try.func67 (by kernel_rfl) rfl #[.slice Af nf cf, .int .i64 1, .int .i64 cn] (by rfl) rfl rfl (by (try simp only [List.map_toArray, List.map_cons, List.map_nil]); first | done | rfl) ?_
        with_reducible refine (KF.out (wd.alloc (.cells #[.int .i64 0, .int .i64 0, .int .i64 0] 85)) (BD.out.alloc BD.out.size _)).mono ?_
        rintro e wq ⟨rfl, hq⟩
        refine ⟨_, rfl, ?_⟩
        have hq2 := (below_alloc (Below.refl wd.heap.size wd) (.cells #[.int .i64 0, .int .i64 0, .int .i64 0] 85)).trans (hq.mono (by simp))
        refine hK.out _ _ (by exact ⟨pw_cell_below hq2 c6, pw_cell_below hq2 cc⟩) (fun hHeld => ?_)
        clear hK K
        refine norm_ (a' := ?_) ?_ ?_
        rotate_left
        · show Act.put _ (some 31) _ = _
          simp only [Act.put, sA, s0_, sS, i64_w, i32_w]
          rfl
        refine pure_ (i := 12) (N := some 19) (v := ?_) (a' := ?_) #[T,T,T,T,T,T,T,T,T,T,T,T,T,F,F,T,F,F] rfl rfl (by kernel_rfl) (fun _ _ _ h => h) (Or.inl ⟨by rfl, ?_⟩) ?_ ?_
        rotate_left
        · intro w'
          go_simp
          with_reducible rfl
        rotate_left
        · simp only [Act.put, sA, s0_, sS, i64_w, i32_w]
          rfl
        refine pure_ (i := 13) (N := some 32) (v := ?_) (a' := ?_) #[T,T,T,T,T,T,T,T,T,T,T,T,T,T,F,T,F,F] rfl rfl (by kernel_rfl) (fun _ _ _ h => h) (Or.inl ⟨by rfl, ?_⟩) ?_ ?_
        rotate_left
        · intro w'
          go_simp
          with_reducible rfl
        rotate_left
        · simp only [Act.put, sA, s0_, sS, i64_w, i32_w]
          rfl
        refine pure_ (i := 14) (N := some 33) (v := ?_) (a' := ?_) #[T,T,T,T,T,T,T,T,T,T,T,T,T,T,T,T,F,F] rfl rfl (by kernel_rfl) (fun _ _ _ h => h) (Or.inl ⟨by rfl, ?_⟩) ?_ ?_
        rotate_left
        · intro w'
          go_simp
          with_reducible rfl
        rotate_left
        · simp only [Act.put, sA, s0_, sS, i64_w, i32_w]
          rfl
        exact norm_ (by simp only [putAll, Act.put, sA, s0_, sS]) (hCont wd.heap.size _ ⟨hq2, Nat.le_refl _, blk_below (blk_new wd _) hq⟩)
    intro bx w3 hF
    obtain ⟨hF1, hF2, hF3⟩ := hF
    have B3 := Aside0.mk hF1
    have S3 := Aside0.mk hF2
    have K3 := Aside0.mk hF3
    have j0 := blk_cell hF3 0
    have j1 := blk_cell hF3 1
    have j2 := blk_cell hF3 2
    have l0 := blk_frozen hF3 0
    have l1 := blk_frozen hF3 1
    have l2 := blk_frozen hF3 2
    clear hF1 hF2 hF3
    refine norm_ (a' := ?_) ?_ ?_
    rotate_left
    · simp only [putAll, Act.put, sA, s0_, sS]
      rfl
    refine last_ (i := 16) (N := none) #[T,T,T,T,T,T,T,T,T,T,T,T,T,T,T,T,T,F] rfl rfl (by kernel_rfl) (by decide) (fun K hK => ?_)
    refine skip_ (w1 := ?_) (by rfl) rfl ?_ ?_
    rotate_left
    · go_simp
      rfl
    refine hK.out _ _ ?_
    clear hK K
    refine pure_ (i := 17) (N := some 8) (v := ?_) (a' := ?_) #[T,T,T,T,T,T,T,T,T,T,T,T,T,T,T,T,T,T] rfl rfl (by kernel_rfl) (fun _ _ _ h => h) (Or.inl ⟨by rfl, ?_⟩) ?_ ?_
    rotate_left
    · intro w'
      go_simp
      with_reducible rfl
    rotate_left
    · simp only [Act.put, sA, s0_, sS, i64_w, i32_w]
      rfl
    refine done_ (by kernel_rfl) ?_
    obtain ⟨w4, hw4⟩ : ∃ w4, ((w3.setCell ⟨bx, 0, none⟩ (.int .i64 0)).setCell ⟨bx, 1, none⟩ (.int .i64 0)).setCell ⟨bx, 2, none⟩ (.int .i64 0) = w4 := ⟨_, rfl⟩
    rw [hw4]
    have S4 := Aside0.mk (S1.out.box (show Below w1.heap.size w1 w4 by rw [← hw4]; exact below3 (BD.out.trans (B3.out.mono BD.out.size)) (Nat.le_trans BD.out.size S3.out) _ _ _))
    clear hw4 c6 cc j0 j1 j2 l0 l1 l2
    go_wp2_with (go_at_call 49; refine (HA.out _ S4.out).mono ?_; rintro e w5 ⟨rfl, h5⟩; have S5 := Aside0.mk h5; clear h5)
    go_ret
    exact ⟨by rw [HQ.out]; rfl, by rw [HQ.out]; exact S5.out⟩
  | some ft =>
    rw [hfind] at KF0 HFI
    have HK := HFD.out ft hfind
    have HFK : Aside0 (d.fault 1 = ft.f2) := HFI
    have KF1 : ∀ (w' : World), Below w1.heap.size w1 w' → Calls Try.prog 67 #[.slice Af nf cf, .int .i64 1, .int .i64 cn] w' fun e w'_1 => e = .returned (.tuple #[.agg #[.int .i64 ft.f0, .int .i64 ft.f1, .int .i64 ft.f2], .bool true]) ∧ Below w'.heap.size w' w'_1 := KF0
    obtain ⟨g0, hg0⟩ : ∃ g0, ft.f0 = g0 := ⟨_, rfl⟩
    obtain ⟨g1, hg1⟩ : ∃ g1, ft.f1 = g1 := ⟨_, rfl⟩
    obtain ⟨g2, hg2⟩ : ∃ g2, ft.f2 = g2 := ⟨_, rfl⟩
    rw [hg0, hg1, hg2] at KF1
    rw [hg2] at HK HFK
    have KF := Aside0.mk KF1
    have HKK := Aside0.mk HK
    clear KF0 KF1 hfind hg0 hg1 hg2 HFI HK
    refine start_ (n := 18) (S := fun w' => w'.cell? ⟨db, 6, none⟩ = some (.slice Af nf cf) ∧ w'.cell? ⟨db, 8, none⟩ = some (.int .i64 cn)) (ds := [16]) #[F,F,F,F,F,F,F,F,F,F,F,F,F,F,F,F,F,F] (by kernel_rfl) rfl rfl (⟨c6, cc⟩) (fun hHeld => ?_)
    generalize hwd : w1.drew = wd at hHeld ⊢
    have BD : Aside0 (Below w1.heap.size w1 wd) := ⟨by rw [← hwd]; exact below_drew (Below.refl _ _)⟩
    clear hwd c6 cc
    obtain ⟨c6, cc⟩ := hHeld
    have hHeld : wd.cell? ⟨db, 6, none⟩ = some (.slice Af nf cf) ∧ wd.cell? ⟨db, 8, none⟩ = some (.int .i64 cn) := ⟨c6, cc⟩
    refine pure_ (i := 0) (N := some 20) (v := ?_) (a' := ?_) #[T,F,F,F,F,F,F,F,F,F,F,F,F,F,F,F,F,F] rfl rfl (by kernel_rfl) (fun _ _ _ h => h) (Or.inl ⟨by rfl, ?_⟩) ?_ ?_
    rotate_left
    · intro w'
      go_simp
      with_reducible rfl
    rotate_left
    · simp only [Act.put, sA, s0_, sS, i64_w, i32_w]
      rfl
    refine pure_ (i := 1) (N := some 21) (v := ?_) (a' := ?_) #[T,T,F,F,F,F,F,F,F,F,F,F,F,F,F,F,F,F] rfl rfl (by kernel_rfl) (fun _ _ _ h => h) (Or.inl ⟨by rfl, ?_⟩) ?_ ?_
    rotate_left
    · intro w'
      go_simp
      with_reducible rfl
    rotate_left
    · simp only [Act.put, sA, s0_, sS, i64_w, i32_w]
      rfl
    refine pure_ (i := 2) (N := some 22) (v := ?_) (a' := ?_) #[T,T,T,F,F,F,F,F,F,F,F,F,F,F,F,F,F,F] rfl rfl (by kernel_rfl) (fun _ _ _ h => h) (Or.inl ⟨by rfl, ?_⟩) ?_ ?_
    rotate_left
    · intro w'
      go_simp
      with_reducible rfl
    rotate_left
    · simp only [Act.put, sA, s0_, sS, i64_w, i32_w]
      rfl
    refine take_ (i := 3) (N := some 23) (v := ?_) (a' := ?_) #[T,T,T,T,F,F,F,F,F,F,F,F,F,F,F,F,F,F] rfl rfl (by kernel_rfl) (fun _ _ _ h => h) (Or.inl ⟨by rfl, ?_⟩) hHeld ?_ ?_
    rotate_left
    · intro w' s0
      obtain ⟨s1, s2⟩ := s0
      go_simp
      with_reducible rfl
    rotate_left
    · simp only [Act.put, sA, s0_, sS, i64_w, i32_w]
      rfl
    refine pure_ (i := 4) (N := some 24) (v := ?_) (a' := ?_) #[T,T,T,T,T,F,F,F,F,F,F,F,F,F,F,F,F,F] rfl rfl (by kernel_rfl) (fun _ _ _ h => h) (Or.inl ⟨by rfl, ?_⟩) ?_ ?_
    rotate_left
    · intro w'
      go_simp
      with_reducible rfl
    rotate_left
    · simp only [Act.put, sA, s0_, sS, i64_w, i32_w]
      rfl
    refine pure_ (i := 5) (N := some 25) (v := ?_) (a' := ?_) #[T,T,T,T,T,T,F,F,F,F,F,F,F,F,F,F,F,F] rfl rfl (by kernel_rfl) (fun _ _ _ h => h) (Or.inl ⟨by rfl, ?_⟩) ?_ ?_
    rotate_left
    · intro w'
      go_simp
      with_reducible rfl
    rotate_left
    · simp only [Act.put, sA, s0_, sS, i64_w, i32_w]
      rfl
    refine pure_ (i := 6) (N := some 26) (v := ?_) (a' := ?_) #[T,T,T,T,T,T,T,F,F,F,F,F,F,F,F,F,F,F] rfl rfl (by kernel_rfl) (fun _ _ _ h => h) (Or.inl ⟨by rfl, ?_⟩) ?_ ?_
    rotate_left
    · intro w'
      go_simp
      with_reducible rfl
    rotate_left
    · simp only [Act.put, sA, s0_, sS, i64_w, i32_w]
      rfl
    refine pure_ (i := 7) (N := some 27) (v := ?_) (a' := ?_) #[T,T,T,T,T,T,T,T,F,F,F,F,F,F,F,F,F,F] rfl rfl (by kernel_rfl) (fun _ _ _ h => h) (Or.inl ⟨by rfl, ?_⟩) ?_ ?_
    rotate_left
    · intro w'
      go_simp
      with_reducible rfl
    rotate_left
    · simp only [Act.put, sA, s0_, sS, i64_w, i32_w]
      rfl
    refine pure_ (i := 8) (N := some 28) (v := ?_) (a' := ?_) #[T,T,T,T,T,T,T,T,T,F,F,F,F,F,F,F,F,F] rfl rfl (by kernel_rfl) (fun _ _ _ h => h) (Or.inl ⟨by rfl, ?_⟩) ?_ ?_
    rotate_left
    · intro w'
      go_simp
      with_reducible rfl
    rotate_left
    · simp only [Act.put, sA, s0_, sS, i64_w, i32_w]
      rfl
    refine pure_ (i := 9) (N := some 29) (v := ?_) (a' := ?_) #[T,T,T,T,T,T,T,T,T,T,F,F,F,F,F,F,F,F] rfl rfl (by kernel_rfl) (fun _ _ _ h => h) (Or.inl ⟨by rfl, ?_⟩) ?_ ?_
    rotate_left
    · intro w'
      go_simp
      with_reducible rfl
    rotate_left
    · simp only [Act.put, sA, s0_, sS, i64_w, i32_w]
      rfl
    refine take_ (i := 10) (N := some 30) (v := ?_) (a' := ?_) #[T,T,T,T,T,T,T,T,T,T,T,F,F,F,F,F,F,F] rfl rfl (by kernel_rfl) (fun _ _ _ h => h) (Or.inl ⟨by rfl, ?_⟩) hHeld ?_ ?_
    rotate_left
    · intro w' s0
      obtain ⟨s1, s2⟩ := s0
      go_simp
      with_reducible rfl
    rotate_left
    · simp only [Act.put, sA, s0_, sS, i64_w, i32_w]
      rfl
    refine join_ (σ := Nat) 2 #[T,T,T,T,T,T,T,T,T,T,T,T,T,T,T,T,F,F] (fun s_ => [(31, .tuple #[.agg #[.int .i64 g0, .int .i64 g1, .int .i64 g2], .bool true]), (7, .pointer (some ⟨s_, 0, none⟩)), (19, .tuple #[.agg #[.int .i64 g0, .int .i64 g1, .int .i64 g2], .bool true]), (32, .agg #[.int .i64 g0, .int .i64 g1, .int .i64 g2]), (33, .bool true)]) (fun s_ w' => Below wd.heap.size wd w' ∧ wd.heap.size ≤ s_ ∧ w'.heap[s_]? = some (.cells #[.int .i64 0, .int .i64 0, .int .i64 0] 85 (0, 0))) ?_ ?_
    rotate_left
    · intro hCont
      refine two_ (i := 11) (j := 15) (Ni := some 31) (Nj := some 7) #[T,T,T,T,T,T,T,T,T,T,T,T,F,F,F,F,F,F] #[T,T,T,T,T,T,T,T,T,T,T,F,F,F,F,T,F,F] rfl rfl rfl rfl (by kernel_rfl) (by decide) (by decide) (fun K hK => ?_) (fun K hK => ?_)
      · skip
        refine goes_ Try.func67 (by kernel_rfl) rfl #[.slice Af nf cf, .int .i64 1, .int .i64 cn] (by rfl) rfl rfl (by (try simp only [List.map_toArray, List.map_cons, List.map_nil]); first | done | rfl) ?_
        with_reducible refine (KF.out wd BD.out).mono ?_
        rintro e wq ⟨rfl, hq⟩
        refine ⟨_, rfl, ?_⟩
        refine hK.out _ _ (by exact ⟨pw_cell_below hq c6, pw_cell_below hq cc⟩) (fun hHeld => ?_)
        clear hK K
        refine norm_ (a' := ?_) ?_ ?_
        rotate_left
        · show Act.put _ (some 31) _ = _
          simp only [Act.put, sA, s0_, sS, i64_w, i32_w]
          rfl
        refine pure_ (i := 12) (N := some 19) (v := ?_) (a' := ?_) #[T,T,T,T,T,T,T,T,T,T,T,T,T,F,F,F,F,F] rfl rfl (by kernel_rfl) (fun _ _ _ h => h) (Or.inl ⟨by rfl, ?_⟩) ?_ ?_
        rotate_left
        · intro w'
          go_simp
          with_reducible rfl
        rotate_left
        · simp only [Act.put, sA, s0_, sS, i64_w, i32_w]
          rfl
        refine pure_ (i := 13) (N := some 32) (v := ?_) (a' := ?_) #[T,T,T,T,T,T,T,T,T,T,T,T,T,T,F,F,F,F] rfl rfl (by kernel_rfl) (fun _ _ _ h => h) (Or.inl ⟨by rfl, ?_⟩) ?_ ?_
        rotate_left
        · intro w'
          go_simp
          with_reducible rfl
        rotate_left
        · simp only [Act.put, sA, s0_, sS, i64_w, i32_w]
          rfl
        refine pure_ (i := 14) (N := some 33) (v := ?_) (a' := ?_) #[T,T,T,T,T,T,T,T,T,T,T,T,T,T,T,F,F,F] rfl rfl (by kernel_rfl) (fun _ _ _ h => h) (Or.inl ⟨by rfl, ?_⟩) ?_ ?_
        rotate_left
        · intro w'
          go_simp
          with_reducible rfl
        rotate_left
        · simp only [Act.put, sA, s0_, sS, i64_w, i32_w]
          rfl
        refine one_ (i := 15) (N := some 7) #[T,T,T,T,T,T,T,T,T,T,T,T,T,T,T,T,F,F] rfl rfl (by kernel_rfl) (by decide) (fun K hK => ?_)
        refine value_ (w1 := ?_) (v := ?_) (by rfl) rfl ?_ ?_
        rotate_left 2
        · go_simp
          constructor
          · rfl
          · rfl
        refine hK.out _ _ (by exact ⟨pw_cell_below (hq.alloc hq.size _) c6, pw_cell_below (hq.alloc hq.size _) cc⟩) (fun hHeld => ?_)
        clear hK K
        refine norm_ (a' := ?_) ?_ ?_
        rotate_left
        · show Act.put _ (some 7) _ = _
          simp only [Act.put, sA, s0_, sS, i64_w, i32_w]
          rfl
        exact norm_ (by simp only [putAll, Act.put, sA, s0_, sS]) (hCont wq.heap.size _ ⟨hq.alloc hq.size _, hq.size, blk_new wq _⟩)
      · skip
        refine value_ (w1 := ?_) (v := ?_) (by rfl) rfl ?_ ?_
        rotate_left 2
        · go_simp
          constructor
          · rfl
          · rfl
        refine hK.out _ _ (by exact ⟨pw_cell_below (below_alloc (Below.refl wd.heap.size wd) (.cells #[.int .i64 0, .int .i64 0, .int .i64 0] 85)) c6, pw_cell_below (below_alloc (Below.refl wd.heap.size wd) (.cells #[.int .i64 0, .int .i64 0, .int .i64 0] 85)) cc⟩) (fun hHeld => ?_)
        clear hK K
        refine norm_ (a' := ?_) ?_ ?_
        rotate_left
        · show Act.put _ (some 7) _ = _
          simp only [Act.put, sA, s0_, sS, i64_w, i32_w]
          rfl
        refine one_ (i := 11) (N := some 31) #[T,T,T,T,T,T,T,T,T,T,T,T,F,F,F,T,F,F] rfl rfl (by kernel_rfl) (by decide) (fun K hK => ?_)
        refine goes_ Try.func67 (by kernel_rfl) rfl #[.slice Af nf cf, .int .i64 1, .int .i64 cn] (by rfl) rfl rfl (by (try simp only [List.map_toArray, List.map_cons, List.map_nil]); first | done | rfl) ?_
        with_reducible refine (KF.out (wd.alloc (.cells #[.int .i64 0, .int .i64 0, .int .i64 0] 85)) (BD.out.alloc BD.out.size _)).mono ?_
        rintro e wq ⟨rfl, hq⟩
        refine ⟨_, rfl, ?_⟩
        have hq2 := (below_alloc (Below.refl wd.heap.size wd) (.cells #[.int .i64 0, .int .i64 0, .int .i64 0] 85)).trans (hq.mono (by simp))
        refine hK.out _ _ (by exact ⟨pw_cell_below hq2 c6, pw_cell_below hq2 cc⟩) (fun hHeld => ?_)
        clear hK K
        refine norm_ (a' := ?_) ?_ ?_
        rotate_left
        · show Act.put _ (some 31) _ = _
          simp only [Act.put, sA, s0_, sS, i64_w, i32_w]
          rfl
        refine pure_ (i := 12) (N := some 19) (v := ?_) (a' := ?_) #[T,T,T,T,T,T,T,T,T,T,T,T,T,F,F,T,F,F] rfl rfl (by kernel_rfl) (fun _ _ _ h => h) (Or.inl ⟨by rfl, ?_⟩) ?_ ?_
        rotate_left
        · intro w'
          go_simp
          with_reducible rfl
        rotate_left
        · simp only [Act.put, sA, s0_, sS, i64_w, i32_w]
          rfl
        refine pure_ (i := 13) (N := some 32) (v := ?_) (a' := ?_) #[T,T,T,T,T,T,T,T,T,T,T,T,T,T,F,T,F,F] rfl rfl (by kernel_rfl) (fun _ _ _ h => h) (Or.inl ⟨by rfl, ?_⟩) ?_ ?_
        rotate_left
        · intro w'
          go_simp
          with_reducible rfl
        rotate_left
        · simp only [Act.put, sA, s0_, sS, i64_w, i32_w]
          rfl
        refine pure_ (i := 14) (N := some 33) (v := ?_) (a' := ?_) #[T,T,T,T,T,T,T,T,T,T,T,T,T,T,T,T,F,F] rfl rfl (by kernel_rfl) (fun _ _ _ h => h) (Or.inl ⟨by rfl, ?_⟩) ?_ ?_
        rotate_left
        · intro w'
          go_simp
          with_reducible rfl
        rotate_left
        · simp only [Act.put, sA, s0_, sS, i64_w, i32_w]
          rfl
        exact norm_ (by simp only [putAll, Act.put, sA, s0_, sS]) (hCont wd.heap.size _ ⟨hq2, Nat.le_refl _, blk_below (blk_new wd _) hq⟩)
    intro bx w3 hF
    obtain ⟨hF1, hF2, hF3⟩ := hF
    have B3 := Aside0.mk hF1
    have S3 := Aside0.mk hF2
    have K3 := Aside0.mk hF3
    have j0 := blk_cell hF3 0
    have j1 := blk_cell hF3 1
    have j2 := blk_cell hF3 2
    have l0 := blk_frozen hF3 0
    have l1 := blk_frozen hF3 1
    have l2 := blk_frozen hF3 2
    clear hF1 hF2 hF3
    refine norm_ (a' := ?_) ?_ ?_
    rotate_left
    · simp only [putAll, Act.put, sA, s0_, sS]
      rfl
    refine last_ (i := 16) (N := none) #[T,T,T,T,T,T,T,T,T,T,T,T,T,T,T,T,T,F] rfl rfl (by kernel_rfl) (by decide) (fun K hK => ?_)
    refine skip_ (w1 := ?_) (by rfl) rfl ?_ ?_
    rotate_left
    · go_simp
      rfl
    refine hK.out _ _ ?_
    clear hK K
    refine pure_ (i := 17) (N := some 8) (v := ?_) (a' := ?_) #[T,T,T,T,T,T,T,T,T,T,T,T,T,T,T,T,T,T] rfl rfl (by kernel_rfl) (fun _ _ _ h => h) (Or.inl ⟨by rfl, ?_⟩) ?_ ?_
    rotate_left
    · intro w'
      go_simp
      with_reducible rfl
    rotate_left
    · simp only [Act.put, sA, s0_, sS, i64_w, i32_w]
      rfl
    refine done_ (by kernel_rfl) ?_
    obtain ⟨w4, hw4⟩ : ∃ w4, ((w3.setCell ⟨bx, 0, none⟩ (.int .i64 g0)).setCell ⟨bx, 1, none⟩ (.int .i64 g1)).setCell ⟨bx, 2, none⟩ (.int .i64 g2) = w4 := ⟨_, rfl⟩
    rw [hw4]
    have S4 := Aside0.mk (S1.out.box (show Below w1.heap.size w1 w4 by rw [← hw4]; exact below3 (BD.out.trans (B3.out.mono BD.out.size)) (Nat.le_trans BD.out.size S3.out) _ _ _))
    have k2 : w4.cell? ⟨bx, 2, none⟩ = some (.int .i64 g2) := by rw [← hw4]; exact blk_cell (put3 K3.out _ _ _) 2
    clear hw4 c6 cc j0 j1 j2 l0 l1 l2
    rcases HKK.out with hk | hk
    · subst hk
      have HQ : Aside0 (d.op 1 act = ((d.count 1).flop, 5)) := ⟨by rw [OPE.out, HFK.out, if_neg (by decide)]; exact if_pos rfl⟩
      obtain ⟨g1, g2, g3⟩ := DevA.fail S4.out _ rfl
      have S6 := Aside0.mk g1
      obtain ⟨fa, hfa⟩ : ∃ fa, (d.count 1).failed = fa := ⟨_, rfl⟩
      rw [hfa] at S6 g2
      clear g1 hfa
      go_wp2
      go_ret
      exact ⟨by rw [HQ.out]; rfl, by rw [HQ.out]; exact S6.out⟩
    · subst hk
      have HQ : Aside0 (d.op 1 act = ((act (d.count 1)).flop, 5)) := ⟨by rw [OPE.out, HFK.out, if_neg (by decide)]; exact if_neg (by decide)⟩
      go_upto_region 5 with (go_at_call 49; refine (HA.out _ S4.out).mono ?_; rintro e w5 ⟨rfl, h5⟩; have S5 := Aside0.mk h5; clear h5)
      obtain ⟨g1, g2, g3⟩ := DevA.fail S5.out _ rfl
      have S6 := Aside0.mk g1
      obtain ⟨fa, hfa⟩ : ∃ fa, (act (d.count 1)).failed = fa := ⟨_, rfl⟩
      rw [hfa] at S6 g2
      clear g1 hfa k2
      go_wp2
      go_ret
      exact ⟨by rw [HQ.out]; rfl, by rw [HQ.out]; exact S6.out⟩
set_option maxHeartbeats 4000000 in
set_option maxRecDepth 100000 in
theorem op_62 {B : Nat} {f : Owner} {w : World} {db : Nat} {d : Dv} {bd bn bs : Addr} (h : DevX B f w db d) (ok : d.Ok) (act : Dv → Dv) (HA : Aside0 (∀ w1, DevA B f w db (d.count 2) w1 → Calls Try.prog 62 #[.pointer (some bd), .pointer (some bn), .pointer (some bs)] w1 (fun e w2 => e = .returned (.tuple #[]) ∧ DevA B f w db (act (d.count 2)) w2))) :
    Calls Try.prog 48 #[.pointer (some ⟨db, 0, none⟩), .int .i64 2, .func (.func 62) #[] #[.pointer (some bd), .pointer (some bn), .pointer (some bs)]] w (fun e w' => e = .returned (.int .i64 (d.op 2 act).2) ∧ DevA B f w db (d.op 2 act).1 w') := by
  obtain ⟨im, imc, vu, vf, vw, hg⟩ := h
  have S1 : Aside0 (DevA B f w db (d.count 2) (w.setCell ⟨db, 9, none⟩ (.int .i64 (wrap64 (d.c 2 + 1)))).drew) := ⟨by
    obtain ⟨g1, g2⟩ := hg.setC 2 (by decide) (wrap64 (d.c 2 + 1))
    exact DevA.box ⟨f, ⟨im, imc, vu, vf, vw, g1⟩, g2⟩ (below_drew (Below.refl _ _))⟩
  have hfr := blk_frozen hg.blk 9
  have cc : w.cell? ⟨db, 9, none⟩ = some (.int .i64 (d.c 2)) := hg.at_ 9
  have FL := Aside0.mk (And.intro ok.fll ok.flk)
  have OPE : Aside0 (d.op 2 act = if d.fault 2 = 0 then (act (d.count 2), 0) else if d.fault 2 = 1 then ((d.count 2).flop, 5) else ((act (d.count 2)).flop, 5)) := ⟨rfl⟩
  obtain ⟨cv, hcv⟩ : ∃ cv, d.c 2 = cv := ⟨_, rfl⟩
  have HCV := Aside0.mk hcv
  rw [hcv] at S1 cc
  clear hg ok hcv
  go_enter Try.func48, Try.ntmps48
  go_upto_region 1 with (fail)
  refine start_ (n := 11) (S := fun w' => w'.cell? ⟨db, 9, none⟩ = some (.int .i64 cv)) (ds := [10]) #[F,F,F,F,F,F,F,F,F,F,F] (by kernel_rfl) rfl rfl (cc) (fun hHeld => ?_)
  refine pure_ (i := 0) (N := some 9) (v := ?_) (a' := ?_) #[T,F,F,F,F,F,F,F,F,F,F] rfl rfl (by kernel_rfl) (fun _ _ _ h => h) (Or.inl ⟨by rfl, ?_⟩) ?_ ?_
  rotate_left
  · intro w'
    go_simp
    with_reducible rfl
  rotate_left
  · simp only [Act.put, sA, s0_, sS, i64_w, i32_w]
    rfl
  refine pure_ (i := 1) (N := some 10) (v := ?_) (a' := ?_) #[T,T,F,F,F,F,F,F,F,F,F] rfl rfl (by kernel_rfl) (fun _ _ _ h => h) (Or.inl ⟨by rfl, ?_⟩) ?_ ?_
  rotate_left
  · intro w'
    go_simp
    with_reducible rfl
  rotate_left
  · simp only [Act.put, sA, s0_, sS, i64_w, i32_w]
    rfl
  refine pure_ (i := 2) (N := some 11) (v := ?_) (a' := ?_) #[T,T,T,F,F,F,F,F,F,F,F] rfl rfl (by kernel_rfl) (fun _ _ _ h => h) (Or.inl ⟨by rfl, ?_⟩) ?_ ?_
  rotate_left
  · intro w'
    go_simp
    with_reducible rfl
  rotate_left
  · simp only [Act.put, sA, s0_, sS, i64_w, i32_w]
    rfl
  refine pure_ (i := 3) (N := some 12) (v := ?_) (a' := ?_) #[T,T,T,T,F,F,F,F,F,F,F] rfl rfl (by kernel_rfl) (fun _ _ _ h => h) (Or.inl ⟨by rfl, ?_⟩) ?_ ?_
  rotate_left
  · intro w'
    go_simp
    with_reducible rfl
  rotate_left
  · simp only [Act.put, sA, s0_, sS, i64_w, i32_w]
    rfl
  refine pure_ (i := 4) (N := some 13) (v := ?_) (a' := ?_) #[T,T,T,T,T,F,F,F,F,F,F] rfl rfl (by kernel_rfl) (fun _ _ _ h => h) (Or.inl ⟨by rfl, ?_⟩) ?_ ?_
  rotate_left
  · intro w'
    go_simp
    with_reducible rfl
  rotate_left
  · simp only [Act.put, sA, s0_, sS, i64_w, i32_w]
    rfl
  refine take_ (i := 5) (N := some 14) (v := ?_) (a' := ?_) #[T,T,T,T,T,T,F,F,F,F,F] rfl rfl (by kernel_rfl) (fun _ _ _ h => h) (Or.inl ⟨by rfl, ?_⟩) hHeld ?_ ?_
  rotate_left
  · intro w' s0
    go_simp
    with_reducible rfl
  rotate_left
  · simp only [Act.put, sA, s0_, sS, i64_w, i32_w]
    rfl
  refine pure_ (i := 6) (N := some 15) (v := ?_) (a' := ?_) #[T,T,T,T,T,T,T,F,F,F,F] rfl rfl (by kernel_rfl) (fun _ _ _ h => h) (Or.inl ⟨by rfl, ?_⟩) ?_ ?_
  rotate_left
  · intro w'
    go_simp
    with_reducible rfl
  rotate_left
  · simp only [Act.put, sA, s0_, sS, i64_w, i32_w]
    rfl
  refine pure_ (i := 7) (N := some 16) (v := ?_) (a' := ?_) #[T,T,T,T,T,T,T,T,F,F,F] rfl rfl (by kernel_rfl) (fun _ _ _ h => h) (Or.inl ⟨by rfl, ?_⟩) ?_ ?_
  rotate_left
  · intro w'
    go_simp
    with_reducible rfl
  rotate_left
  · simp only [Act.put, sA, s0_, sS, i64_w, i32_w]
    rfl
  refine pure_ (i := 8) (N := some 17) (v := ?_) (a' := ?_) #[T,T,T,T,T,T,T,T,T,F,F] rfl rfl (by kernel_rfl) (fun _ _ _ h => h) (Or.inl ⟨by rfl, ?_⟩) ?_ ?_
  rotate_left
  · intro w'
    go_simp
    with_reducible rfl
  rotate_left
  · simp only [Act.put, sA, s0_, sS, i64_w, i32_w]
    rfl
  refine pure_ (i := 9) (N := some 18) (v := ?_) (a' := ?_) #[T,T,T,T,T,T,T,T,T,T,F] rfl rfl (by kernel_rfl) (fun _ _ _ h => h) (Or.inl ⟨by rfl, ?_⟩) ?_ ?_
  rotate_left
  · intro w'
    go_simp
    with_reducible rfl
  rotate_left
  · simp only [Act.put, sA, s0_, sS, i64_w, i32_w]
    rfl
  refine last_ (i := 10) (N := none) #[T,T,T,T,T,T,T,T,T,T,T] rfl rfl (by kernel_rfl) (by decide) (fun K hK => ?_)
  refine skip_ (w1 := ?_) (by rfl) rfl ?_ ?_
  rotate_left
  · go_simp
    rfl
  refine hK.out _ _ ?_
  clear hK K
  refine done_ (by kernel_rfl) ?_
  go_upto_region 2 with (fail)
  obtain ⟨w1, hw1⟩ : ∃ w1, (w.setCell ⟨db, 9, none⟩ (.int .i64 (wrap64 (cv + 1)))).drew = w1 := ⟨_, rfl⟩
  rw [hw1] at S1
  rw [hw1]
  clear hw1 cc hfr
  have GD : Aside0 (∃ Af cf, w1.cell? ⟨db, 6, none⟩ = some (.slice Af d.fl.length cf) ∧ k85.C w1 Af d.fl.length d.fl ∧ d.fl.length ≤ cf ∧ w1.cell? ⟨db, 9, none⟩ = some (.int .i64 (wrap64 (cv + 1)))) := ⟨by
    obtain ⟨f1, ⟨im1, imc1, vu1, vf1, vw1, g1⟩, m1⟩ := S1.out
    obtain ⟨Af, cf, ev, hle, hC⟩ := Kd.R_reads g1.fl
    subst ev
    refine ⟨Af, cf, g1.at_ 6, hC, hle, ?_⟩
    have e : (d.count 2).c 2 = wrap64 (cv + 1) := by rw [← HCV.out]; show (if (2 : Nat) = 2 then wrap64 (d.c 2 + 1) else d.c 2) = _; exact if_pos rfl
    rw [← e]
    exact g1.at_ 9⟩
  obtain ⟨Af, cf, c6, hC, hle, cc⟩ := GD.out
  have HFI : Aside0 (d.fault 2 = match findF d.fl 2 (wrap64 (cv + 1)) with | some f => f.f2 | none => 0) := ⟨by rw [← HCV.out]; rfl⟩
  obtain ⟨cn, hcn⟩ : ∃ cn, wrap64 (cv + 1) = cn := ⟨_, rfl⟩
  rw [hcn] at cc HFI
  have KF0 := fun (w' : World) (hb : Below w1.heap.size w1 w') => flash_faulty.calls (d.fl.length + 1) Af cf d.fl 2 cn _ _ _ _ w' (Kd.C_below hC hb) hle (faulty_eq d.fl 2 cn (Nat.lt_of_le_of_lt FL.out.1 (by decide)))
  obtain ⟨nf, hnf⟩ : ∃ nf, d.fl.length = nf := ⟨_, rfl⟩
  rw [hnf] at KF0 c6
  have HFD : Aside0 (∀ ft, findF d.fl 2 cn = some ft → ft.f2 = 1 ∨ ft.f2 = 2) := ⟨fun ft hF => FL.out.2 ft (List.mem_of_find?_eq_some hF)⟩
  clear GD hC hle hcn hnf FL
  cases hfind : findF d.fl 2 cn with
  | none =>
    rw [hfind] at KF0 HFI
    have HQ : Aside0 (d.op 2 act = (act (d.count 2), 0)) := ⟨by rw [OPE.out, HFI.out]; exact if_pos rfl⟩
    have KF := Aside0.mk (show ∀ (w' : World), Below w1.heap.size w1 w' → Calls Try.prog 67 #[.slice Af nf cf, .int .i64 2, .int .i64 cn] w' fun e w'_1 => e = .returned (.tuple #[.agg #[.int .i64 0, .int .i64 0, .int .i64 0], .bool false]) ∧ Below w'.heap.size w' w'_1 from KF0)
    clear KF0 hfind
    refine start_ (n := 18) (S := fun w' => w'.cell? ⟨db, 6, none⟩ = some (.slice Af nf cf) ∧ w'.cell? ⟨db, 9, none⟩ = some (.int .i64 cn)) (ds := [16]) #[F,F,F,F,F,F,F,F,F,F,F,F,F,F,F,F,F,F] (by kernel_rfl) rfl rfl (⟨c6, cc⟩) (fun hHeld => ?_)
    generalize hwd : w1.drew = wd at hHeld ⊢
    have BD : Aside0 (Below w1.heap.size w1 wd) := ⟨by rw [← hwd]; exact below_drew (Below.refl _ _)⟩
    clear hwd c6 cc
    obtain ⟨c6, cc⟩ := hHeld
    have hHeld : wd.cell? ⟨db, 6, none⟩ = some (.slice Af nf cf) ∧ wd.cell? ⟨db, 9, none⟩ = some (.int .i64 cn) := ⟨c6, cc⟩
    refine pure_ (i := 0) (N := some 20) (v := ?_) (a' := ?_) #[T,F,F,F,F,F,F,F,F,F,F,F,F,F,F,F,F,F] rfl rfl (by kernel_rfl) (fun _ _ _ h => h) (Or.inl ⟨by rfl, ?_⟩) ?_ ?_
    rotate_left
    · intro w'
      go_simp
      with_reducible rfl
    rotate_left
    · simp only [Act.put, sA, s0_, sS, i64_w, i32_w]
      rfl
    refine pure_ (i := 1) (N := some 21) (v := ?_) (a' := ?_) #[T,T,F,F,F,F,F,F,F,F,F,F,F,F,F,F,F,F] rfl rfl (by kernel_rfl) (fun _ _ _ h => h) (Or.inl ⟨by rfl, ?_⟩) ?_ ?_
    rotate_left
    · intro w'
      go_simp
      with_reducible rfl
    rotate_left
    · simp only [Act.put, sA, s0_, sS, i64_w, i32_w]
      rfl
    refine pure_ (i := 2) (N := some 22) (v := ?_) (a' := ?_) #[T,T,T,F,F,F,F,F,F,F,F,F,F,F,F,F,F,F] rfl rfl (by kernel_rfl) (fun _ _ _ h => h) (Or.inl ⟨by rfl, ?_⟩) ?_ ?_
    rotate_left
    · intro w'
      go_simp
      with_reducible rfl
    rotate_left
    · simp only [Act.put, sA, s0_, sS, i64_w, i32_w]
      rfl
    refine take_ (i := 3) (N := some 23) (v := ?_) (a' := ?_) #[T,T,T,T,F,F,F,F,F,F,F,F,F,F,F,F,F,F] rfl rfl (by kernel_rfl) (fun _ _ _ h => h) (Or.inl ⟨by rfl, ?_⟩) hHeld ?_ ?_
    rotate_left
    · intro w' s0
      obtain ⟨s1, s2⟩ := s0
      go_simp
      with_reducible rfl
    rotate_left
    · simp only [Act.put, sA, s0_, sS, i64_w, i32_w]
      rfl
    refine pure_ (i := 4) (N := some 24) (v := ?_) (a' := ?_) #[T,T,T,T,T,F,F,F,F,F,F,F,F,F,F,F,F,F] rfl rfl (by kernel_rfl) (fun _ _ _ h => h) (Or.inl ⟨by rfl, ?_⟩) ?_ ?_
    rotate_left
    · intro w'
      go_simp
      with_reducible rfl
    rotate_left
    · simp only [Act.put, sA, s0_, sS, i64_w, i32_w]
      rfl
    refine pure_ (i := 5) (N := some 25) (v := ?_) (a' := ?_) #[T,T,T,T,T,T,F,F,F,F,F,F,F,F,F,F,F,F] rfl rfl (by kernel_rfl) (fun _ _ _ h => h) (Or.inl ⟨by rfl, ?_⟩) ?_ ?_
    rotate_left
    · intro w'
      go_simp
      with_reducible rfl
    rotate_left
    · simp only [Act.put, sA, s0_, sS, i64_w, i32_w]
      rfl
    refine pure_ (i := 6) (N := some 26) (v := ?_) (a' := ?_) #[T,T,T,T,T,T,T,F,F,F,F,F,F,F,F,F,F,F] rfl rfl (by kernel_rfl) (fun _ _ _ h => h) (Or.inl ⟨by rfl, ?_⟩) ?_ ?_
    rotate_left
    · intro w'
      go_simp
      with_reducible rfl
    rotate_left
    · simp only [Act.put, sA, s0_, sS, i64_w, i32_w]
      rfl
    refine pure_ (i := 7) (N := some 27) (v := ?_) (a' := ?_) #[T,T,T,T,T,T,T,T,F,F,F,F,F,F,F,F,F,F] rfl rfl (by kernel_rfl) (fun _ _ _ h => h) (Or.inl ⟨by rfl, ?_⟩) ?_ ?_
    rotate_left
    · intro w'
      go_simp
      with_reducible rfl
    rotate_left
    · simp only [Act.put, sA, s0_, sS, i64_w, i32_w]
      rfl
    refine pure_ (i := 8) (N := some 28) (v := ?_) (a' := ?_) #[T,T,T,T,T,T,T,T,T,F,F,F,F,F,F,F,F,F] rfl rfl (by kernel_rfl) (fun _ _ _ h => h) (Or.inl ⟨by rfl, ?_⟩) ?_ ?_
    rotate_left
    · intro w'
      go_simp
      with_reducible rfl
    rotate_left
    · simp only [Act.put, sA, s0_, sS, i64_w, i32_w]
      rfl
    refine pure_ (i := 9) (N := some 29) (v := ?_) (a' := ?_) #[T,T,T,T,T,T,T,T,T,T,F,F,F,F,F,F,F,F] rfl rfl (by kernel_rfl) (fun _ _ _ h => h) (Or.inl ⟨by rfl, ?_⟩) ?_ ?_
    rotate_left
    · intro w'
      go_simp
      with_reducible rfl
    rotate_left
    · simp only [Act.put, sA, s0_, sS, i64_w, i32_w]
      rfl
    refine take_ (i := 10) (N := some 30) (v := ?_) (a' := ?_) #[T,T,T,T,T,T,T,T,T,T,T,F,F,F,F,F,F,F] rfl rfl (by kernel_rfl) (fun _ _ _ h => h) (Or.inl ⟨by rfl, ?_⟩) hHeld ?_ ?_
    rotate_left
    · intro w' s0
      obtain ⟨s1, s2⟩ := s0
      go_simp
      with_reducible rfl
    rotate_left
    · simp only [Act.put, sA, s0_, sS, i64_w, i32_w]
      rfl
    refine join_ (σ := Nat) 2 #[T,T,T,T,T,T,T,T,T,T,T,T,T,T,T,T,F,F] (fun s_ => [(31, .tuple #[.agg #[.int .i64 0, .int .i64 0, .int .i64 0], .bool false]), (7, .pointer (some ⟨s_, 0, none⟩)), (19, .tuple #[.agg #[.int .i64 0, .int .i64 0, .int .i64 0], .bool false]), (32, .agg #[.int .i64 0, .int .i64 0, .int .i64 0]), (33, .bool false)]) (fun s_ w' => Below wd.heap.size wd w' ∧ wd.heap.size ≤ s_ ∧ w'.heap[s_]? = some (.cells #[.int .i64 0, .int .i64 0, .int .i64 0] 85 (0, 0))) ?_ ?_
    rotate_left
    · intro hCont
      refine two_ (i := 11) (j := 15) (Ni := some 31) (Nj := some 7) #[T,T,T,T,T,T,T,T,T,T,T,T,F,F,F,F,F,F] #[T,T,T,T,T,T,T,T,T,T,T,F,F,F,F,T,F,F] rfl rfl rfl rfl (by kernel_rfl) (by decide) (by decide) (fun K hK => ?_) (fun K hK => ?_)
      · skip
        refine goes_ Try.func67 (by kernel_rfl) rfl #[.slice Af nf cf, .int .i64 2, .int .i64 cn] (by rfl) rfl rfl (by (try simp only [List.map_toArray, List.map_cons, List.map_nil]); first | done | rfl) ?_
        with_reducible refine (KF.out wd BD.out).mono ?_
        rintro e wq ⟨rfl, hq⟩
        refine ⟨_, rfl, ?_⟩
        refine hK.out _ _ (by exact ⟨pw_cell_below hq c6, pw_cell_below hq cc⟩) (fun hHeld => ?_)
        clear hK K
        refine norm_ (a' := ?_) ?_ ?_
        rotate_left
        · show Act.put _ (some 31) _ = _
          simp only [Act.put, sA, s0_, sS, i64_w, i32_w]
          rfl
        refine pure_ (i := 12) (N := some 19) (v := ?_) (a' := ?_) #[T,T,T,T,T,T,T,T,T,T,T,T,T,F,F,F,F,F] rfl rfl (by kernel_rfl) (fun _ _ _ h => h) (Or.inl ⟨by rfl, ?_⟩) ?_ ?_
        rotate_left
        · intro w'
          go_simp
          with_reducible rfl
        rotate_left
        · simp only [Act.put, sA, s0_, sS, i64_w, i32_w]
          rfl
        refine pure_ (i := 13) (N := some 32) (v := ?_) (a' := ?_) #[T,T,T,T,T,T,T,T,T,T,T,T,T,T,F,F,F,F] rfl rfl (by kernel_rfl) (fun _ _ _ h => h) (Or.inl ⟨by rfl, ?_⟩) ?_ ?_
        rotate_left
        · intro w'
          go_simp
          with_reducible rfl
        rotate_left
        · simp only [Act.put, sA, s0_, sS, i64_w, i32_w]
          rfl
        refine pure_ (i := 14) (N := some 33) (v := ?_) (a' := ?_) #[T,T,T,T,T,T,T,T,T,T,T,T,T,T,T,F,F,F] rfl rfl (by kernel_rfl) (fun _ _ _ h => h) (Or.inl ⟨by rfl, ?_⟩) ?_ ?_
        rotate_left
        · intro w'
          go_simp
          with_reducible rfl
        rotate_left
        · simp only [Act.put, sA, s0_, sS, i64_w, i32_w]
          rfl
        refine one_ (i := 15) (N := some 7) #[T,T,T,T,T,T,T,T,T,T,T,T,T,T,T,T,F,F] rfl rfl (by kernel_rfl) (by decide) (fun K hK => ?_)
        refine value_ (w1 := ?_) (v := ?_) (by rfl) rfl ?_ ?_
        rotate_left 2
        · go_simp
          constructor
          · rfl
          · rfl
        refine hK.out _ _ (by exact ⟨pw_cell_below (hq.alloc hq.size _) c6, pw_cell_below (hq.alloc hq.size _) cc⟩) (fun hHeld => ?_)
        clear hK K
        refine norm_ (a' := ?_) ?_ ?_
        rotate_left
        · show Act.put _ (some 7) _ = _
          simp only [Act.put, sA, s0_, sS, i64_w, i32_w]
          rfl
        exact norm_ (by simp only [putAll, Act.put, sA, s0_, sS]) (hCont wq.heap.size _ ⟨hq.alloc hq.size _, hq.size, blk_new wq _⟩)
      · skip
        refine value_ (w1 := ?_) (v := ?_) (by rfl) rfl ?_ ?_
        rotate_left 2
        · go_simp
          constructor
          · rfl
          · rfl
        refine hK.out _ _ (by exact ⟨pw_cell_below (below_alloc (Below.refl wd.heap.size wd) (.cells #[.int .i64 0, .int .i64 0, .int .i64 0] 85)) c6, pw_cell_below (below_alloc (Below.refl wd.heap.size wd) (.cells #[.int .i64 0, .int .i64 0, .int .i64 0] 85)) cc⟩) (fun hHeld => ?_)
        clear hK K
        refine norm_ (a' := ?_) ?_ ?_
        rotate_left
        · show Act.put _ (some 7) _ = _
          simp only [Act.put, sA, s0_, sS, i64_w, i32_w]
          rfl
        refine one_ (i := 11) (N := some 31) #[T,T,T,T,T,T,T,T,T,T,T,T,F,F,F,T,F,F] rfl rfl (by kernel_rfl) (by decide) (fun K hK => ?_)
        refine goes_ Try.func67 (by kernel_rfl) rfl #[.slice Af nf cf, .int .i64 2, .int .i64 cn] (by rfl) rfl rfl (by (try simp only [List.map_toArray, List.map_cons, List.map_nil]); first | done | rfl) ?_
        with_reducible refine (KF.out (wd.alloc (.cells #[.int .i64 0, .int .i64 0, .int .i64 0] 85)) (BD.out.alloc BD.out.size _)).mono ?_
        rintro e wq ⟨rfl, hq⟩
        refine ⟨_, rfl, ?_⟩
        have hq2 := (below_alloc (Below.refl wd.heap.size wd) (.cells #[.int .i64 0, .int .i64 0, .int .i64 0] 85)).trans (hq.mono (by simp))
        refine hK.out _ _ (by exact ⟨pw_cell_below hq2 c6, pw_cell_below hq2 cc⟩) (fun hHeld => ?_)
        clear hK K
        refine norm_ (a' := ?_) ?_ ?_
        rotate_left
        · show Act.put _ (some 31) _ = _
          simp only [Act.put, sA, s0_, sS, i64_w, i32_w]
          rfl
        refine pure_ (i := 12) (N := some 19) (v := ?_) (a' := ?_) #[T,T,T,T,T,T,T,T,T,T,T,T,T,F,F,T,F,F] rfl rfl (by kernel_rfl) (fun _ _ _ h => h) (Or.inl ⟨by rfl, ?_⟩) ?_ ?_
        rotate_left
        · intro w'
          go_simp
          with_reducible rfl
        rotate_left
        · simp only [Act.put, sA, s0_, sS, i64_w, i32_w]
          rfl
        refine pure_ (i := 13) (N := some 32) (v := ?_) (a' := ?_) #[T,T,T,T,T,T,T,T,T,T,T,T,T,T,F,T,F,F] rfl rfl (by kernel_rfl) (fun _ _ _ h => h) (Or.inl ⟨by rfl, ?_⟩) ?_ ?_
        rotate_left
        · intro w'
          go_simp
          with_reducible rfl
        rotate_left
        · simp only [Act.put, sA, s0_, sS, i64_w, i32_w]
          rfl
        refine pure_ (i := 14) (N := some 33) (v := ?_) (a' := ?_) #[T,T,T,T,T,T,T,T,T,T,T,T,T,T,T,T,F,F] rfl rfl (by kernel_rfl) (fun _ _ _ h => h) (Or.inl ⟨by rfl, ?_⟩) ?_ ?_
        rotate_left
        · intro w'
          go_simp
          with_reducible rfl
        rotate_left
        · simp only [Act.put, sA, s0_, sS, i64_w, i32_w]
          rfl
        exact norm_ (by simp only [putAll, Act.put, sA, s0_, sS]) (hCont wd.heap.size _ ⟨hq2, Nat.le_refl _, blk_below (blk_new wd _) hq⟩)
    intro bx w3 hF
    obtain ⟨hF1, hF2, hF3⟩ := hF
    have B3 := Aside0.mk hF1
    have S3 := Aside0.mk hF2
    have K3 := Aside0.mk hF3
    have j0 := blk_cell hF3 0
    have j1 := blk_cell hF3 1
    have j2 := blk_cell hF3 2
    have l0 := blk_frozen hF3 0
    have l1 := blk_frozen hF3 1
    have l2 := blk_frozen hF3 2
    clear hF1 hF2 hF3
    refine norm_ (a' := ?_) ?_ ?_
    rotate_left
    · simp only [putAll, Act.put, sA, s0_, sS]
      rfl
    refine last_ (i := 16) (N := none) #[T,T,T,T,T,T,T,T,T,T,T,T,T,T,T,T,T,F] rfl rfl (by kernel_rfl) (by decide) (fun K hK => ?_)
    refine skip_ (w1 := ?_) (by rfl) rfl ?_ ?_
    rotate_left
    · go_simp
      rfl
    refine hK.out _ _ ?_
    clear hK K
    refine pure_ (i := 17) (N := some 8) (v := ?_) (a' := ?_) #[T,T,T,T,T,T,T,T,T,T,T,T,T,T,T,T,T,T] rfl rfl (by kernel_rfl) (fun _ _ _ h => h) (Or.inl ⟨by rfl, ?_⟩) ?_ ?_
    rotate_left
    · intro w'
      go_simp
      with_reducible rfl
    rotate_left
    · simp only [Act.put, sA, s0_, sS, i64_w, i32_w]
      rfl
    refine done_ (by kernel_rfl) ?_
    obtain ⟨w4, hw4⟩ : ∃ w4, ((w3.setCell ⟨bx, 0, none⟩ (.int .i64 0)).setCell ⟨bx, 1, none⟩ (.int .i64 0)).setCell ⟨bx, 2, none⟩ (.int .i64 0) = w4 := ⟨_, rfl⟩
    rw [hw4]
    have S4 := Aside0.mk (S1.out.box (show Below w1.heap.size w1 w4 by rw [← hw4]; exact below3 (BD.out.trans (B3.out.mono BD.out.size)) (Nat.le_trans BD.out.size S3.out) _ _ _))
    clear hw4 c6 cc j0 j1 j2 l0 l1 l2
    go_wp2_with (go_at_call 62; refine (HA.out _ S4.out).mono ?_; rintro e w5 ⟨rfl, h5⟩; have S5 := Aside0.mk h5; clear h5)
    go_ret
    exact ⟨by rw [HQ.out]; rfl, by rw [HQ.out]; exact S5.out⟩
  | some ft =>
    rw [hfind] at KF0 HFI
    have HK := HFD.out ft hfind
    have HFK : Aside0 (d.fault 2 = ft.f2) := HFI
    have KF1 : ∀ (w' : World), Below w1.heap.size w1 w' → Calls Try.prog 67 #[.slice Af nf cf, .int .i64 2, .int .i64 cn] w' fun e w'_1 => e = .returned (.tuple #[.agg #[.int .i64 ft.f0, .int .i64 ft.f1, .int .i64 ft.f2], .bool true]) ∧ Below w'.heap.size w' w'_1 := KF0
    obtain ⟨g0, hg0⟩ : ∃ g0, ft.f0 = g0 := ⟨_, rfl⟩
    obtain ⟨g1, hg1⟩ : ∃ g1, ft.f1 = g1 := ⟨_, rfl⟩
    obtain ⟨g2, hg2⟩ : ∃ g2, ft.f2 = g2 := ⟨_, rfl⟩
    rw [hg0, hg1, hg2] at KF1
    rw [hg2] at HK HFK
    have KF := Aside0.mk KF1
    have HKK := Aside0.mk HK
    clear KF0 KF1 hfind hg0 hg1 hg2 HFI HK
    refine start_ (n := 18) (S := fun w' => w'.cell? ⟨db, 6, none⟩ = some (.slice Af nf cf) ∧ w'.cell? ⟨db, 9, none⟩ = some (.int .i64 cn)) (ds := [16]) #[F,F,F,F,F,F,F,F,F,F,F,F,F,F,F,F,F,F] (by kernel_rfl) rfl rfl (⟨c6, cc⟩) (fun hHeld => ?_)
    generalize hwd : w1.drew = wd at hHeld ⊢
    have BD : Aside0 (Below w1.heap.size w1 wd) := ⟨by rw [← hwd]; exact below_drew (Below.refl _ _)⟩
    clear hwd c6 cc
    obtain ⟨c6, cc⟩ := hHeld
    have hHeld : wd.cell? ⟨db, 6, none⟩ = some (.slice Af nf cf) ∧ wd.cell? ⟨db, 9, none⟩ = some (.int .i64 cn) := ⟨c6, cc⟩
    refine pure_ (i := 0) (N := some 20) (v := ?_) (a' := ?_) #[T,F,F,F,F,F,F,F,F,F,F,F,F,F,F,F,F,F] rfl rfl (by kernel_rfl) (fun _ _ _ h => h) (Or.inl ⟨by rfl, ?_⟩) ?_ ?_
    rotate_left
    · intro w'
      go_simp
      with_reducible rfl
    rotate_left
    · simp only [Act.put, sA, s0_, sS, i64_w, i32_w]
      rfl
    refine pure_ (i := 1) (N := some 21) (v := ?_) (a' := ?_) #[T,T,F,F,F,F,F,F,F,F,F,F,F,F,F,F,F,F] rfl rfl (by kernel_rfl) (fun _ _ _ h => h) (Or.inl ⟨by rfl, ?_⟩) ?_ ?_
    rotate_left
    · intro w'
      go_simp
      with_reducible rfl
    rotate_left
    · simp only [Act.put, sA, s0_, sS, i64_w, i32_w]
      rfl
    refine pure_ (i := 2) (N := some 22) (v := ?_) (a' := ?_) #[T,T,T,F,F,F,F,F,F,F,F,F,F,F,F,F,F,F] rfl rfl (by kernel_rfl) (fun _ _ _ h => h) (Or.inl ⟨by rfl, ?_⟩) ?_ ?_
    rotate_left
    · intro w'
      go_simp
      with_reducible rfl
    rotate_left
    · simp only [Act.put, sA, s0_, sS, i64_w, i32_w]
      rfl
    refine take_ (i := 3) (N := some 23) (v := ?_) (a' := ?_) #[T,T,T,T,F,F,F,F,F,F,F,F,F,F,F,F,F,F] rfl rfl (by kernel_rfl) (fun _ _ _ h => h) (Or.inl ⟨by rfl, ?_⟩) hHeld ?_ ?_
    rotate_left
    · intro w' s0
      obtain ⟨s1, s2⟩ := s0
      go_simp
      with_reducible rfl
    rotate_left
    · simp only [Act.put, sA, s0_, sS, i64_w, i32_w]
      rfl
    refine pure_ (i := 4) (N := some 24) (v := ?_) (a' := ?_) #[T,T,T,T,T,F,F,F,F,F,F,F,F,F,F,F,F,F] rfl rfl (by kernel_rfl) (fun _ _ _ h => h) (Or.inl ⟨by rfl, ?_⟩) ?_ ?_
    rotate_left
    · intro w'
      go_simp
      with_reducible rfl
    rotate_left
    · simp only [Act.put, sA, s0_, sS, i64_w, i32_w]
      rfl
    refine pure_ (i := 5) (N := some 25) (v := ?_) (a' := ?_) #[T,T,T,T,T,T,F,F,F,F,F,F,F,F,F,F,F,F] rfl rfl (by kernel_rfl) (fun _ _ _ h => h) (Or.inl ⟨by rfl, ?_⟩) ?_ ?_
    rotate_left
    · intro w'
      go_simp
      with_reducible rfl
    rotate_left
    · simp only [Act.put, sA, s0_, sS, i64_w, i32_w]
      rfl
    refine pure_ (i := 6) (N := some 26) (v := ?_) (a' := ?_) #[T,T,T,T,T,T,T,F,F,F,F,F,F,F,F,F,F,F] rfl rfl (by kernel_rfl) (fun _ _ _ h => h) (Or.inl ⟨by rfl, ?_⟩) ?_ ?_
    rotate_left
    · intro w'
      go_simp
      with_reducible rfl
    rotate_left
    · simp only [Act.put, sA, s0_, sS, i64_w, i32_w]
      rfl
    refine pure_ (i := 7) (N := some 27) (v := ?_) (a' := ?_) #[T,T,T,T,T,T,T,T,F,F,F,F,F,F,F,F,F,F] rfl rfl (by kernel_rfl) (fun _ _ _ h => h) (Or.inl ⟨by rfl, ?_⟩) ?_ ?_
    rotate_left
    · intro w'
      go_simp
      with_reducible rfl
    rotate_left
    · simp only [Act.put, sA, s0_, sS, i64_w, i32_w]
      rfl
    refine pure_ (i := 8) (N := some 28) (v := ?_) (a' := ?_) #[T,T,T,T,T,T,T,T,T,F,F,F,F,F,F,F,F,F] rfl rfl (by kernel_rfl) (fun _ _ _ h => h) (Or.inl ⟨by rfl, ?_⟩) ?_ ?_
    rotate_left
    · intro w'
      go_simp
      with_reducible rfl
    rotate_left
    · simp only [Act.put, sA, s0_, sS, i64_w, i32_w]
      rfl
    refine pure_ (i := 9) (N := some 29) (v := ?_) (a' := ?_) #[T,T,T,T,T,T,T,T,T,T,F,F,F,F,F,F,F,F] rfl rfl (by kernel_rfl) (fun _ _ _ h => h) (Or.inl ⟨by rfl, ?_⟩) ?_ ?_
    rotate_left
    · intro w'
      go_simp
      with_reducible rfl
    rotate_left
    · simp only [Act.put, sA, s0_, sS, i64_w, i32_w]
      rfl
    refine take_ (i := 10) (N := some 30) (v := ?_) (a' := ?_) #[T,T,T,T,T,T,T,T,T,T,T,F,F,F,F,F,F,F] rfl rfl (by kernel_rfl) (fun _ _ _ h => h) (Or.inl ⟨by rfl, ?_⟩) hHeld ?_ ?_
    rotate_left
    · intro w' s0
      obtain ⟨s1, s2⟩ := s0
      go_simp
      with_reducible rfl
    rotate_left
    · simp only [Act.put, sA, s0_, sS, i64_w, i32_w]
      rfl
    refine join_ (σ := Nat) 2 #[T,T,T,T,T,T,T,T,T,T,T,T,T,T,T,T,F,F] (fun s_ => [(31, .tuple #[.agg #[.int .i64 g0, .int .i64 g1, .int .i64 g2], .bool true]), (7, .pointer (some ⟨s_, 0, none⟩)), (19, .tuple #[.agg #[.int .i64 g0, .int .i64 g1, .int .i64 g2], .bool true]), (32, .agg #[.int .i64 g0, .int .i64 g1, .int .i64 g2]), (33, .bool true)]) (fun s_ w' => Below wd.heap.size wd w' ∧ wd.heap.size ≤ s_ ∧ w'.heap[s_]? = some (.cells #[.int .i64 0, .int .i64 0, .int .i64 0] 85 (0, 0))) ?_ ?_
    rotate_left
    · intro hCont
      refine two_ (i := 11) (j := 15) (Ni := some 31) (Nj := some 7) #[T,T,T,T,T,T,T,T,T,T,T,T,F,F,F,F,F,F] #[T,T,T,T,T,T,T,T,T,T,T,F,F,F,F,T,F,F] rfl rfl rfl rfl (by kernel_rfl) (by decide) (by decide) (fun K hK => ?_) (fun K hK => ?_)
      · skip
        refine goes_ Try.func67 (by kernel_rfl) rfl #[.slice Af nf cf, .int .i64 2, .int .i64 cn] (by rfl) rfl rfl (by (try simp only [List.map_toArray, List.map_cons, List.map_nil]); first | done | rfl) ?_
        with_reducible refine (KF.out wd BD.out).mono ?_
        rintro e wq ⟨rfl, hq⟩
        refine ⟨_, rfl, ?_⟩
        refine hK.out _ _ (by exact ⟨pw_cell_below hq c6, pw_cell_below hq cc⟩) (fun hHeld => ?_)
        clear hK K
        refine norm_ (a' := ?_) ?_ ?_
        rotate_left
        · show Act.put _ (some 31) _ = _
          simp only [Act.put, sA, s0_, sS, i64_w, i32_w]
          rfl
        refine pure_ (i := 12) (N := some 19) (v := ?_) (a' := ?_) #[T,T,T,T,T,T,T,T,T,T,T,T,T,F,F,F,F,F] rfl rfl (by kernel_rfl) (fun _ _ _ h => h) (Or.inl ⟨by rfl, ?_⟩) ?_ ?_
        rotate_left
        · intro w'
          go_simp
          with_reducible rfl
        rotate_left
        · simp only [Act.put, sA, s0_, sS, i64_w, i32_w]
          rfl
        refine pure_ (i := 13) (N := some 32) (v := ?_) (a' := ?_) #[T,T,T,T,T,T,T,T,T,T,T,T,T,T,F,F,F,F] rfl rfl (by kernel_rfl) (fun _ _ _ h => h) (Or.inl ⟨by rfl, ?_⟩) ?_ ?_
        rotate_left
        · intro w'
          go_simp
          with_reducible rfl
        rotate_left
        · simp only [Act.put, sA, s0_, sS, i64_w, i32_w]
          rfl
        refine pure_ (i := 14) (N := some 33) (v := ?_) (a' := ?_) #[T,T,T,T,T,T,T,T,T,T,T,T,T,T,T,F,F,F] rfl rfl (by kernel_rfl) (fun _ _ _ h => h) (Or.inl ⟨by rfl, ?_⟩) ?_ ?_
        rotate_left
        · intro w'
          go_simp
          with_reducible rfl
        rotate_left
        · simp only [Act.put, sA, s0_, sS, i64_w, i32_w]
          rfl
        refine one_ (i := 15) (N := some 7) #[T,T,T,T,T,T,T,T,T,T,T,T,T,T,T,T,F,F] rfl rfl (by kernel_rfl) (by decide) (fun K hK => ?_)
        refine value_ (w1 := ?_) (v := ?_) (by rfl) rfl ?_ ?_
        rotate_left 2
        · go_simp
          constructor
          · rfl
          · rfl
        refine hK.out _ _ (by exact ⟨pw_cell_below (hq.alloc hq.size _) c6, pw_cell_below (hq.alloc hq.size _) cc⟩) (fun hHeld => ?_)
        clear hK K
        refine norm_ (a' := ?_) ?_ ?_
        rotate_left
        · show Act.put _ (some 7) _ = _
          simp only [Act.put, sA, s0_, sS, i64_w, i32_w]
          rfl
        exact norm_ (by simp only [putAll, Act.put, sA, s0_, sS]) (hCont wq.heap.size _ ⟨hq.alloc hq.size _, hq.size, blk_new wq _⟩)
      · skip
        refine value_ (w1 := ?_) (v := ?_) (by rfl) rfl ?_ ?_
        rotate_left 2
        · go_simp
          constructor
          · rfl
          · rfl
        refine hK.out _ _ (by exact ⟨pw_cell_below (below_alloc (Below.refl wd.heap.size wd) (.cells #[.int .i64 0, .int .i64 0, .int .i64 0] 85)) c6, pw_cell_below (below_alloc (Below.refl wd.heap.size wd) (.cells #[.int .i64 0, .int .i64 0, .int .i64 0] 85)) cc⟩) (fun hHeld => ?_)
        clear hK K
        refine norm_ (a' := ?_) ?_ ?_
        rotate_left
        · show Act.put _ (some 7) _ = _
          simp only [Act.put, sA, s0_, sS, i64_w, i32_w]
          rfl
        refine one_ (i := 11) (N := some 31) #[T,T,T,T,T,T,T,T,T,T,T,T,F,F,F,T,F,F] rfl rfl (by kernel_rfl) (by decide) (fun K hK => ?_)
        refine goes_ Try.func67 (by kernel_rfl) rfl #[.slice Af nf cf, .int .i64 2, .int .i64 cn] (by rfl) rfl rfl (by (try simp only [List.map_toArray, List.map_cons, List.map_nil]); first | done | rfl) ?_
        with_reducible refine (KF.out (wd.alloc (.cells #[.int .i64 0, .int .i64 0, .int .i64 0] 85)) (BD.out.alloc BD.out.size _)).mono ?_
        rintro e wq ⟨rfl, hq⟩
        refine ⟨_, rfl, ?_⟩
        have hq2 := (below_alloc (Below.refl wd.heap.size wd) (.cells #[.int .i64 0, .int .i64 0, .int .i64 0] 85)).trans (hq.mono (by simp))
        refine hK.out _ _ (by exact ⟨pw_cell_below hq2 c6, pw_cell_below hq2 cc⟩) (fun hHeld => ?_)
        clear hK K
        refine norm_ (a' := ?_) ?_ ?_
        rotate_left
        · show Act.put _ (some 31) _ = _
          simp only [Act.put, sA, s0_, sS, i64_w, i32_w]
          rfl
        refine pure_ (i := 12) (N := some 19) (v := ?_) (a' := ?_) #[T,T,T,T,T,T,T,T,T,T,T,T,T,F,F,T,F,F] rfl rfl (by kernel_rfl) (fun _ _ _ h => h) (Or.inl ⟨by rfl, ?_⟩) ?_ ?_
        rotate_left
        · intro w'
          go_simp
          with_reducible rfl
        rotate_left
        · simp only [Act.put, sA, s0_, sS, i64_w, i32_w]
          rfl
        refine pure_ (i := 13) (N := some 32) (v := ?_) (a' := ?_) #[T,T,T,T,T,T,T,T,T,T,T,T,T,T,F,T,F,F] rfl rfl (by kernel_rfl) (fun _ _ _ h => h) (Or.inl ⟨by rfl, ?_⟩) ?_ ?_
        rotate_left
        · intro w'
          go_simp
          with_reducible rfl
        rotate_left
        · simp only [Act.put, sA, s0_, sS, i64_w, i32_w]
          rfl
        refine pure_ (i := 14) (N := some 33) (v := ?_) (a' := ?_) #[T,T,T,T,T,T,T,T,T,T,T,T,T,T,T,T,F,F] rfl rfl (by kernel_rfl) (fun _ _ _ h => h) (Or.inl ⟨by rfl, ?_⟩) ?_ ?_
        rotate_left
        · intro w'
          go_simp
          with_reducible rfl
        rotate_left
        · simp only [Act.put, sA, s0_, sS, i64_w, i32_w]
          rfl
        exact norm_ (by simp only [putAll, Act.put, sA, s0_, sS]) (hCont wd.heap.size _ ⟨hq2, Nat.le_refl _, blk_below (blk_new wd _) hq⟩)
    intro bx w3 hF
    obtain ⟨hF1, hF2, hF3⟩ := hF
    have B3 := Aside0.mk hF1
    have S3 := Aside0.mk hF2
    have K3 := Aside0.mk hF3
    have j0 := blk_cell hF3 0
    have j1 := blk_cell hF3 1
    have j2 := blk_cell hF3 2
    have l0 := blk_frozen hF3 0
    have l1 := blk_frozen hF3 1
    have l2 := blk_frozen hF3 2
    clear hF1 hF2 hF3
    refine norm_ (a' := ?_) ?_ ?_
    rotate_left
    · simp only [putAll, Act.put, sA, s0_, sS]
      rfl
    refine last_ (i := 16) (N := none) #[T,T,T,T,T,T,T,T,T,T,T,T,T,T,T,T,T,F] rfl rfl (by kernel_rfl) (by decide) (fun K hK => ?_)
    refine skip_ (w1 := ?_) (by rfl) rfl ?_ ?_
    rotate_left
    · go_simp
      rfl
    refine hK.out _ _ ?_
    clear hK K
    refine pure_ (i := 17) (N := some 8) (v := ?_) (a' := ?_) #[T,T,T,T,T,T,T,T,T,T,T,T,T,T,T,T,T,T] rfl rfl (by kernel_rfl) (fun _ _ _ h => h) (Or.inl ⟨by rfl, ?_⟩) ?_ ?_
    rotate_left
    · intro w'
      go_simp
      with_reducible rfl
    rotate_left
    · simp only [Act.put, sA, s0_, sS, i64_w, i32_w]
      rfl
    refine done_ (by kernel_rfl) ?_
    obtain ⟨w4, hw4⟩ : ∃ w4, ((w3.setCell ⟨bx, 0, none⟩ (.int .i64 g0)).setCell ⟨bx, 1, none⟩ (.int .i64 g1)).setCell ⟨bx, 2, none⟩ (.int .i64 g2) = w4 := ⟨_, rfl⟩
    rw [hw4]
    have S4 := Aside0.mk (S1.out.box (show Below w1.heap.size w1 w4 by rw [← hw4]; exact below3 (BD.out.trans (B3.out.mono BD.out.size)) (Nat.le_trans BD.out.size S3.out) _ _ _))
    have k2 : w4.cell? ⟨bx, 2, none⟩ = some (.int .i64 g2) := by rw [← hw4]; exact blk_cell (put3 K3.out _ _ _) 2
    clear hw4 c6 cc j0 j1 j2 l0 l1 l2
    rcases HKK.out with hk | hk
    · subst hk
      have HQ : Aside0 (d.op 2 act = ((d.count 2).flop, 5)) := ⟨by rw [OPE.out, HFK.out, if_neg (by decide)]; exact if_pos rfl⟩
      obtain ⟨g1, g2, g3⟩ := DevA.fail S4.out _ rfl
      have S6 := Aside0.mk g1
      obtain ⟨fa, hfa⟩ : ∃ fa, (d.count 2).failed = fa := ⟨_, rfl⟩
      rw [hfa] at S6 g2
      clear g1 hfa
      go_wp2
      go_ret
      exact ⟨by rw [HQ.out]; rfl, by rw [HQ.out]; exact S6.out⟩
    · subst hk
      have HQ : Aside0 (d.op 2 act = ((act (d.count 2)).flop, 5)) := ⟨by rw [OPE.out, HFK.out, if_neg (by decide)]; exact if_neg (by decide)⟩
      go_upto_region 5 with (go_at_call 62; refine (HA.out _ S4.out).mono ?_; rintro e w5 ⟨rfl, h5⟩; have S5 := Aside0.mk h5; clear h5)
      obtain ⟨g1, g2, g3⟩ := DevA.fail S5.out _ rfl
      have S6 := Aside0.mk g1
      obtain ⟨fa, hfa⟩ : ∃ fa, (act (d.count 2)).failed = fa := ⟨_, rfl⟩
      rw [hfa] at S6 g2
      clear g1 hfa k2
      go_wp2
      go_ret
      exact ⟨by rw [HQ.out]; rfl, by rw [HQ.out]; exact S6.out⟩
end Go.Proofs.Ytnkbebdgkidbjaa.Flash
