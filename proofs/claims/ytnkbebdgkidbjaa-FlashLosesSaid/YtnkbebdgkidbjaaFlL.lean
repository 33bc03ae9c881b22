/- Fork.
   No condition. -/
import Derived.Test.YtnkbebdgkidbjaaFlK
import Derived.ArgAppend
import Derived.BigRegion
import Derived.Deep.QuietTactic
import Derived.BigQuiet
import Derived.Deep.RegionHeld3
import Derived.ChangeAlike
import Derived.RegionTactic
import Derived.Deep.DeepCutAuto
import Derived.Deep.CutBlock
import Derived.Deep.RegionLaw
import Derived.StillTailTactics
import Derived.WalkSpells
import Derived.Lib.SliceRun
import Derived.Laws.CopyRow
import Derived.Lib.SlBuf
import Derived.Lib.MakeNoZero
import Derived.Laws.BitsLemmas
import Derived.Lib.Bytes
import Derived.Lib.SlBytesConst
namespace Go.Proofs.Ytnkbebdgkidbjaa.Flash
open Go.Proofs.Ytnkbebdgkidbjaa.QFlashPlays
open Go.RowKit Go.Proofs.YtnkbebdgkidbjaaW.PrintWords Go.Proofs.YtnkbebdgkidbjaaW.PrintLast Go.Proofs.YtnkbebdgkidbjaaW.PrintMore
attribute [local go_sem] max2_int min2_int max_two min_two   -- for this text's walks alone
set_option linter.unusedVariables false
set_option linter.unusedSimpArgs false
/-! ### Fork -/
theorem open_row'' {w : World} {B L : Nat} {ok : Nat → Prop} {v : Value} {l : List Int} (h : (Kd.int .u8).R 5 w B ok v l) (hl : l.length = L) (h1 : 1 ≤ L) : ∃ g c, v = .slice (some ⟨g, 0, none⟩) L c := by
  obtain ⟨_, hn | ⟨g, cap', cur, e, _⟩⟩ := Kd.own_of_R h
  · rw [hl] at hn; exact absurd hn.2 (by omega)
  · rw [hl] at e; exact ⟨g, _, e⟩
def ForkSt (w : World) (d : Dv) (en : Ending) (w' : World) : Prop :=
  ∃ b, en = .returned (.pointer (some ⟨b, 0, none⟩)) ∧ Below w.heap.size w w' ∧ w.heap.size ≤ b ∧ ∀ (B : Nat) (f : Owner), B ≤ w.heap.size → DevX B (owns f w.heap.size b) w' b d
section
variable {B : Nat} {f : Owner} {w : World} {db : Nat} {d : Dv}
set_option maxHeartbeats 4000000 in
set_option maxRecDepth 100000 in
theorem fork_walk (h : DevX B f w db d) (ok : d.Ok) (hul : d.un.length ≤ 17592186044415) : Calls Try.prog 27 #[.pointer (some ⟨db, 0, none⟩)] w (ForkSt w d) := by
  have KM := Aside0.mk (h.made ok)
  have OK := Aside0.mk ok
  obtain ⟨im, imc, vu, vf, vw, hg⟩ := h
  have HG := Aside0.mk hg
  obtain ⟨Au, cu, eu, hleu, hCu⟩ := Kd.R_reads hg.un
  obtain ⟨Af, cf, ef, hlef, hCf⟩ := Kd.R_reads hg.fl
  obtain ⟨Aw, cw, ew, hlew, hCw⟩ := Kd.R_reads hg.wr
  subst eu ef ew
  have hcap : d.b.length ≤ imc := by obtain ⟨cs, _, h2, _, _⟩ := hg.img; exact h2
  have hl : d.b.length ≤ 1048576 := by rw [ok.len]; exact ok.sz
  have hc := hg.img.cut 0 d.b.length (by omega) (by omega)
  have e : cutOf d.b 0 d.b.length = d.b := by unfold cutOf; rw [List.drop_zero, List.take_length]
  rw [e] at hc
  have K0 := Aside0.mk (fun (w' : World) (hb : Below w.heap.size w w') => clone40 (c := imc) (Kd.C_below hc hb) hcap (by omega))
  have K1 := Aside0.mk (fun (w' : World) (hb : Below w.heap.size w w') => clone41 (c := cu) (Kd.C_below hCu hb) hleu (by omega))
  have K2 := Aside0.mk (fun (w' : World) (hb : Below w.heap.size w w') => clone43 (c := cf) (Kd.C_below hCf hb) hlef (by have := ok.fll; omega))
  have K3 := Aside0.mk (fun (w' : World) (hb : Below w.heap.size w w') => clone41 (c := cw) (Kd.C_below hCw hb) hlew (by have := ok.wl; have := ok.r2; omega))
  obtain ⟨L, hL⟩ : ∃ L, d.b.length = L := ⟨_, rfl⟩
  obtain ⟨nu, hnu⟩ : ∃ nu, d.un.length = nu := ⟨_, rfl⟩
  obtain ⟨nf, hnf⟩ : ∃ nf, d.fl.length = nf := ⟨_, rfl⟩
  obtain ⟨nw, hnw⟩ : ∃ nw, d.wear.length = nw := ⟨_, rfl⟩
  have HL := Aside0.mk (And.intro hL (And.intro hnu (And.intro hnf hnw)))
  have HL1 : Aside0 (1 ≤ L) := ⟨by rw [← hL]; exact DevG.pos ok⟩
  rw [hL] at K0
  rw [hnu] at K1
  rw [hnf] at K2
  rw [hnw] at K3
  have blk := hg.blk
  rw [hL, hnu, hnf, hnw] at blk
  have DB := Aside0.mk blk
  have d0 := blk_cell blk 0
  have d1 := blk_cell blk 1
  have d2 := blk_cell blk 2
  have d3 := blk_cell blk 3
  have d4 := blk_cell blk 4
  have d5 := blk_cell blk 5
  have d6 := blk_cell blk 6
  have d7 := blk_cell blk 7
  have d8 := blk_cell blk 8
  have d9 := blk_cell blk 9
  have d10 := blk_cell blk 10
  have d11 := blk_cell blk 11
  have d12 := blk_cell blk 12
  have d13 := blk_cell blk 13
  obtain ⟨w1, hw1⟩ : ∃ w1, w.alloc (.cells #[.int .i64 d.p, .int .i64 d.s, .int .i64 d.r, .int .i64 d.a, .slice (some ⟨im, 0, none⟩) L imc, .slice Au nu cu, .slice Af nf cf, .int .i64 (d.c 0), .int .i64 (d.c 1), .int .i64 (d.c 2), .int .i64 (d.c 3), .int .i64 (d.c 4), .int .i64 d.failed, .slice Aw nw cw] 78) = w1 := ⟨_, rfl⟩
  have B1 : Aside0 (Below w.heap.size w w1) := ⟨by rw [← hw1]; exact below_alloc (Below.refl _ _) _⟩
  have KK1 : Aside0 (w1.heap[w.heap.size]? = some (.cells #[.int .i64 d.p, .int .i64 d.s, .int .i64 d.r, .int .i64 d.a, .slice (some ⟨im, 0, none⟩) L imc, .slice Au nu cu, .slice Af nf cf, .int .i64 (d.c 0), .int .i64 (d.c 1), .int .i64 (d.c 2), .int .i64 (d.c 3), .int .i64 (d.c 4), .int .i64 d.failed, .slice Aw nw cw] 78 (0, 0))) := ⟨by rw [← hw1]; exact blk_new w _⟩
  clear ok hul hg hleu hCu hlef hCf hlew hCw hcap hl hc e hL hnu hnf hnw blk
  go_enter Try.func27, Try.ntmps27
  go_upto_region 4 with (go_at_call 39; refine KM.out.mono ?_; rintro e w' ⟨rfl, rfl⟩)
  try rw [hw1]
  clear hw1 d0 d1 d2 d3 d7 d8 d9 d10 d11 d12
  obtain ⟨nb, hnb⟩ : ∃ nb, w.heap.size = nb := ⟨_, rfl⟩
  have HNB := Aside0.mk hnb
  rw [hnb] at KK1
  rw [hnb]
  replace d4 := pw_cell_below B1.out d4
  replace d5 := pw_cell_below B1.out d5
  replace d6 := pw_cell_below B1.out d6
  replace d13 := pw_cell_below B1.out d13
  clear hnb
  refine start_ (n := 28) (S := fun w' => w'.cell? ⟨db, 4, none⟩ = some (.slice (some ⟨im, 0, none⟩) L imc) ∧ w'.cell? ⟨db, 5, none⟩ = some (.slice Au nu cu) ∧ w'.cell? ⟨db, 6, none⟩ = some (.slice Af nf cf) ∧ w'.cell? ⟨db, 13, none⟩ = some (.slice Aw nw cw)) (ds := [21, 23, 25, 27]) #[F,F,F,F,F,F,F,F,F,F,F,F,F,F,F,F,F,F,F,F,F,F,F,F,F,F,F,F] (by kernel_rfl) rfl rfl (⟨d4, d5, d6, d13⟩) (fun hHeld => ?_)
  generalize hwd : w1.drew = wd at hHeld ⊢
  have BD : Aside0 (Below w1.heap.size w1 wd) := ⟨by rw [← hwd]; exact below_drew (Below.refl _ _)⟩
  clear hwd
  refine pure_ (i := 0) (N := some 10) (v := ?_) (a' := ?_) #[T,F,F,F,F,F,F,F,F,F,F,F,F,F,F,F,F,F,F,F,F,F,F,F,F,F,F,F] rfl rfl (by kernel_rfl) (fun _ _ _ h => h) (Or.inl ⟨by rfl, ?_⟩) ?_ ?_
  rotate_left
  · intro w'
    go_simp
    with_reducible rfl
  rotate_left
  · simp only [Act.put, sA, s0_, sS, i64_w, i32_w]
    rfl
  refine pure_ (i := 1) (N := some 11) (v := ?_) (a' := ?_) #[T,T,F,F,F,F,F,F,F,F,F,F,F,F,F,F,F,F,F,F,F,F,F,F,F,F,F,F] rfl rfl (by kernel_rfl) (fun _ _ _ h => h) (Or.inl ⟨by rfl, ?_⟩) ?_ ?_
  rotate_left
  · intro w'
    go_simp
    with_reducible rfl
  rotate_left
  · simp only [Act.put, sA, s0_, sS, i64_w, i32_w]
    rfl
  refine pure_ (i := 2) (N := some 12) (v := ?_) (a' := ?_) #[T,T,T,F,F,F,F,F,F,F,F,F,F,F,F,F,F,F,F,F,F,F,F,F,F,F,F,F] rfl rfl (by kernel_rfl) (fun _ _ _ h => h) (Or.inl ⟨by rfl, ?_⟩) ?_ ?_
  rotate_left
  · intro w'
    go_simp
    with_reducible rfl
  rotate_left
  · simp only [Act.put, sA, s0_, sS, i64_w, i32_w]
    rfl
  refine take_ (i := 3) (N := some 13) (v := ?_) (a' := ?_) #[T,T,T,T,F,F,F,F,F,F,F,F,F,F,F,F,F,F,F,F,F,F,F,F,F,F,F,F] rfl rfl (by kernel_rfl) (fun _ _ _ h => h) (Or.inl ⟨by rfl, ?_⟩) hHeld ?_ ?_
  rotate_left
  · intro w' s0
    obtain ⟨s1, s2, s3, s4⟩ := s0
    go_simp
    with_reducible rfl
  rotate_left
  · simp only [Act.put, sA, s0_, sS, i64_w, i32_w]
    rfl
  refine pure_ (i := 5) (N := some 15) (v := ?_) (a' := ?_) #[T,T,T,T,F,T,F,F,F,F,F,F,F,F,F,F,F,F,F,F,F,F,F,F,F,F,F,F] rfl rfl (by kernel_rfl) (fun _ _ _ h => h) (Or.inl ⟨by rfl, ?_⟩) ?_ ?_
  rotate_left
  · intro w'
    go_simp
    with_reducible rfl
  rotate_left
  · simp only [Act.put, sA, s0_, sS, i64_w, i32_w]
    rfl
  refine pure_ (i := 6) (N := some 16) (v := ?_) (a' := ?_) #[T,T,T,T,F,T,T,F,F,F,F,F,F,F,F,F,F,F,F,F,F,F,F,F,F,F,F,F] rfl rfl (by kernel_rfl) (fun _ _ _ h => h) (Or.inl ⟨by rfl, ?_⟩) ?_ ?_
  rotate_left
  · intro w'
    go_simp
    with_reducible rfl
  rotate_left
  · simp only [Act.put, sA, s0_, sS, i64_w, i32_w]
    rfl
  refine pure_ (i := 7) (N := some 17) (v := ?_) (a' := ?_) #[T,T,T,T,F,T,T,T,F,F,F,F,F,F,F,F,F,F,F,F,F,F,F,F,F,F,F,F] rfl rfl (by kernel_rfl) (fun _ _ _ h => h) (Or.inl ⟨by rfl, ?_⟩) ?_ ?_
  rotate_left
  · intro w'
    go_simp
    with_reducible rfl
  rotate_left
  · simp only [Act.put, sA, s0_, sS, i64_w, i32_w]
    rfl
  refine take_ (i := 8) (N := some 18) (v := ?_) (a' := ?_) #[T,T,T,T,F,T,T,T,T,F,F,F,F,F,F,F,F,F,F,F,F,F,F,F,F,F,F,F] rfl rfl (by kernel_rfl) (fun _ _ _ h => h) (Or.inl ⟨by rfl, ?_⟩) hHeld ?_ ?_
  rotate_left
  · intro w' s0
    obtain ⟨s1, s2, s3, s4⟩ := s0
    go_simp
    with_reducible rfl
  rotate_left
  · simp only [Act.put, sA, s0_, sS, i64_w, i32_w]
    rfl
  refine pure_ (i := 10) (N := some 20) (v := ?_) (a' := ?_) #[T,T,T,T,F,T,T,T,T,F,T,F,F,F,F,F,F,F,F,F,F,F,F,F,F,F,F,F] rfl rfl (by kernel_rfl) (fun _ _ _ h => h) (Or.inl ⟨by rfl, ?_⟩) ?_ ?_
  rotate_left
  · intro w'
    go_simp
    with_reducible rfl
  rotate_left
  · simp only [Act.put, sA, s0_, sS, i64_w, i32_w]
    rfl
  refine pure_ (i := 11) (N := some 21) (v := ?_) (a' := ?_) #[T,T,T,T,F,T,T,T,T,F,T,T,F,F,F,F,F,F,F,F,F,F,F,F,F,F,F,F] rfl rfl (by kernel_rfl) (fun _ _ _ h => h) (Or.inl ⟨by rfl, ?_⟩) ?_ ?_
  rotate_left
  · intro w'
    go_simp
    with_reducible rfl
  rotate_left
  · simp only [Act.put, sA, s0_, sS, i64_w, i32_w]
    rfl
  refine pure_ (i := 12) (N := some 22) (v := ?_) (a' := ?_) #[T,T,T,T,F,T,T,T,T,F,T,T,T,F,F,F,F,F,F,F,F,F,F,F,F,F,F,F] rfl rfl (by kernel_rfl) (fun _ _ _ h => h) (Or.inl ⟨by rfl, ?_⟩) ?_ ?_
  rotate_left
  · intro w'
    go_simp
    with_reducible rfl
  rotate_left
  · simp only [Act.put, sA, s0_, sS, i64_w, i32_w]
    rfl
  refine take_ (i := 13) (N := some 23) (v := ?_) (a' := ?_) #[T,T,T,T,F,T,T,T,T,F,T,T,T,T,F,F,F,F,F,F,F,F,F,F,F,F,F,F] rfl rfl (by kernel_rfl) (fun _ _ _ h => h) (Or.inl ⟨by rfl, ?_⟩) hHeld ?_ ?_
  rotate_left
  · intro w' s0
    obtain ⟨s1, s2, s3, s4⟩ := s0
    go_simp
    with_reducible rfl
  rotate_left
  · simp only [Act.put, sA, s0_, sS, i64_w, i32_w]
    rfl
  refine pure_ (i := 15) (N := some 25) (v := ?_) (a' := ?_) #[T,T,T,T,F,T,T,T,T,F,T,T,T,T,F,T,F,F,F,F,F,F,F,F,F,F,F,F] rfl rfl (by kernel_rfl) (fun _ _ _ h => h) (Or.inl ⟨by rfl, ?_⟩) ?_ ?_
  rotate_left
  · intro w'
    go_simp
    with_reducible rfl
  rotate_left
  · simp only [Act.put, sA, s0_, sS, i64_w, i32_w]
    rfl
  refine pure_ (i := 16) (N := some 26) (v := ?_) (a' := ?_) #[T,T,T,T,F,T,T,T,T,F,T,T,T,T,F,T,T,F,F,F,F,F,F,F,F,F,F,F] rfl rfl (by kernel_rfl) (fun _ _ _ h => h) (Or.inl ⟨by rfl, ?_⟩) ?_ ?_
  rotate_left
  · intro w'
    go_simp
    with_reducible rfl
  rotate_left
  · simp only [Act.put, sA, s0_, sS, i64_w, i32_w]
    rfl
  refine pure_ (i := 17) (N := some 27) (v := ?_) (a' := ?_) #[T,T,T,T,F,T,T,T,T,F,T,T,T,T,F,T,T,T,F,F,F,F,F,F,F,F,F,F] rfl rfl (by kernel_rfl) (fun _ _ _ h => h) (Or.inl ⟨by rfl, ?_⟩) ?_ ?_
  rotate_left
  · intro w'
    go_simp
    with_reducible rfl
  rotate_left
  · simp only [Act.put, sA, s0_, sS, i64_w, i32_w]
    rfl
  refine take_ (i := 18) (N := some 28) (v := ?_) (a' := ?_) #[T,T,T,T,F,T,T,T,T,F,T,T,T,T,F,T,T,T,T,F,F,F,F,F,F,F,F,F] rfl rfl (by kernel_rfl) (fun _ _ _ h => h) (Or.inl ⟨by rfl, ?_⟩) hHeld ?_ ?_
  rotate_left
  · intro w' s0
    obtain ⟨s1, s2, s3, s4⟩ := s0
    go_simp
    with_reducible rfl
  rotate_left
  · simp only [Act.put, sA, s0_, sS, i64_w, i32_w]
    rfl
  refine one_ (i := 4) (N := some 14) #[T,T,T,T,T,T,T,T,T,F,T,T,T,T,F,T,T,T,T,F,F,F,F,F,F,F,F,F] rfl rfl (by kernel_rfl) (by decide) (fun K hK => ?_)
  refine goes_ Try.func40 (by kernel_rfl) rfl #[.slice (some ⟨im, 0, none⟩) L imc] (by rfl) rfl rfl (by (try simp only [List.map_toArray, List.map_cons, List.map_nil]); first | done | rfl) ?_
  with_reducible refine (K0.out wd (B1.out.trans (BD.out.mono B1.out.size))).mono ?_
  rintro e wa ⟨v, rfl, hR, hb⟩
  refine ⟨_, rfl, ?_⟩
  obtain ⟨gi, ci, ev⟩ := open_row'' hR HL.out.1 HL1.out
  subst ev
  have Ra := Aside0.mk hR
  have Ba := Aside0.mk (BD.out.trans (hb.mono BD.out.size))
  clear hR hb
  refine hK.out _ _ (by exact ⟨pw_cell_below Ba.out d4, pw_cell_below Ba.out d5, pw_cell_below Ba.out d6, pw_cell_below Ba.out d13⟩) (fun hHeld => ?_)
  clear hK K
  refine norm_ (a' := ?_) ?_ ?_
  rotate_left
  · show Act.put _ (some 14) _ = _
    simp only [Act.put, sA, s0_, sS, i64_w, i32_w]
    rfl
  refine one_ (i := 9) (N := some 19) #[T,T,T,T,T,T,T,T,T,T,T,T,T,T,F,T,T,T,T,F,F,F,F,F,F,F,F,F] rfl rfl (by kernel_rfl) (by decide) (fun K hK => ?_)
  refine goes_ Try.func41 (by kernel_rfl) rfl #[.slice Au nu cu] (by rfl) rfl rfl (by (try simp only [List.map_toArray, List.map_cons, List.map_nil]); first | done | rfl) ?_
  with_reducible refine (K1.out wa (B1.out.trans (Ba.out.mono B1.out.size))).mono ?_
  rintro e wb ⟨v, rfl, hR, hb⟩
  refine ⟨_, rfl, ?_⟩
  obtain ⟨Ab, cb, ev⟩ := Kd.R_slice hR
  rw [HL.out.2.1] at ev
  subst ev
  have Rb := Aside0.mk hR
  have Bb := Aside0.mk (Ba.out.trans (hb.mono Ba.out.size))
  have Bab := Aside0.mk hb
  clear hR hb
  refine hK.out _ _ (by exact ⟨pw_cell_below Bb.out d4, pw_cell_below Bb.out d5, pw_cell_below Bb.out d6, pw_cell_below Bb.out d13⟩) (fun hHeld => ?_)
  clear hK K
  refine norm_ (a' := ?_) ?_ ?_
  rotate_left
  · show Act.put _ (some 19) _ = _
    simp only [Act.put, sA, s0_, sS, i64_w, i32_w]
    rfl
  refine one_ (i := 14) (N := some 24) #[T,T,T,T,T,T,T,T,T,T,T,T,T,T,T,T,T,T,T,F,F,F,F,F,F,F,F,F] rfl rfl (by kernel_rfl) (by decide) (fun K hK => ?_)
  refine goes_ Try.func43 (by kernel_rfl) rfl #[.slice Af nf cf] (by rfl) rfl rfl (by (try simp only [List.map_toArray, List.map_cons, List.map_nil]); first | done | rfl) ?_
  with_reducible refine (K2.out wb (B1.out.trans (Bb.out.mono B1.out.size))).mono ?_
  rintro e wc ⟨v, rfl, hR, hb⟩
  refine ⟨_, rfl, ?_⟩
  obtain ⟨Ac, cc, ev⟩ := Kd.R_slice hR
  rw [HL.out.2.2.1] at ev
  subst ev
  have Rc := Aside0.mk hR
  have Bc := Aside0.mk (Bb.out.trans (hb.mono Bb.out.size))
  have Bbc := Aside0.mk hb
  clear hR hb
  refine hK.out _ _ (by exact ⟨pw_cell_below Bc.out d4, pw_cell_below Bc.out d5, pw_cell_below Bc.out d6, pw_cell_below Bc.out d13⟩) (fun hHeld => ?_)
  clear hK K
  refine norm_ (a' := ?_) ?_ ?_
  rotate_left
  · show Act.put _ (some 24) _ = _
    simp only [Act.put, sA, s0_, sS, i64_w, i32_w]
    rfl
  refine one_ (i := 19) (N := some 29) #[T,T,T,T,T,T,T,T,T,T,T,T,T,T,T,T,T,T,T,T,F,F,F,F,F,F,F,F] rfl rfl (by kernel_rfl) (by decide) (fun K hK => ?_)
  refine goes_ Try.func41 (by kernel_rfl) rfl #[.slice Aw nw cw] (by rfl) rfl rfl (by (try simp only [List.map_toArray, List.map_cons, List.map_nil]); first | done | rfl) ?_
  with_reducible refine (K3.out wc (B1.out.trans (Bc.out.mono B1.out.size))).mono ?_
  rintro e we ⟨v, rfl, hR, hb⟩
  refine ⟨_, rfl, ?_⟩
  obtain ⟨Ae, ce, ev⟩ := Kd.R_slice hR
  rw [HL.out.2.2.2] at ev
  subst ev
  have Re := Aside0.mk hR
  have Be := Aside0.mk (Bc.out.trans (hb.mono Bc.out.size))
  have Bce := Aside0.mk hb
  have Bae := Aside0.mk (Bab.out.trans ((Bbc.out.trans (Bce.out.mono Bbc.out.size)).mono Bab.out.size))
  clear hR hb
  refine hK.out _ _ (by exact ⟨pw_cell_below Be.out d4, pw_cell_below Be.out d5, pw_cell_below Be.out d6, pw_cell_below Be.out d13⟩) (fun hHeld => ?_)
  clear hK K
  refine norm_ (a' := ?_) ?_ ?_
  rotate_left
  · show Act.put _ (some 29) _ = _
    simp only [Act.put, sA, s0_, sS, i64_w, i32_w]
    rfl
  have kk := blk_below KK1.out Be.out
  have y4 := blk_cell kk 4
  have l4 := blk_frozen kk 4
  have y5 := blk_cell kk 5
  have l5 := blk_frozen kk 5
  have y6 := blk_cell kk 6
  have l6 := blk_frozen kk 6
  have y13 := blk_cell kk 13
  have l13 := blk_frozen kk 13
  have KE := Aside0.mk kk
  clear kk
  refine pure_ (i := 20) (N := some 30) (v := ?_) (a' := ?_) #[T,T,T,T,T,T,T,T,T,T,T,T,T,T,T,T,T,T,T,T,T,F,F,F,F,F,F,F] rfl rfl (by kernel_rfl) (fun _ _ _ h => h) (Or.inl ⟨by rfl, ?_⟩) ?_ ?_
  rotate_left
  · intro w'
    go_simp
    with_reducible rfl
  rotate_left
  · simp only [Act.put, sA, s0_, sS, i64_w, i32_w]
    rfl
  refine last_ (i := 21) (N := none) #[T,T,T,T,T,T,T,T,T,T,T,T,T,T,T,T,T,T,T,T,T,T,F,F,F,F,F,F] rfl rfl (by kernel_rfl) (by decide) (fun K hK => ?_)
  refine skip_ (w1 := ?_) (by rfl) rfl ?_ ?_
  rotate_left
  · go_simp
    rfl
  refine hK.out _ _ ?_
  clear hK K
  refine pure_ (i := 22) (N := some 31) (v := ?_) (a' := ?_) #[T,T,T,T,T,T,T,T,T,T,T,T,T,T,T,T,T,T,T,T,T,T,T,F,F,F,F,F] rfl rfl (by kernel_rfl) (fun _ _ _ h => h) (Or.inl ⟨by rfl, ?_⟩) ?_ ?_
  rotate_left
  · intro w'
    go_simp
    with_reducible rfl
  rotate_left
  · simp only [Act.put, sA, s0_, sS, i64_w, i32_w]
    rfl
  refine last_ (i := 23) (N := none) #[T,T,T,T,T,T,T,T,T,T,T,T,T,T,T,T,T,T,T,T,T,T,T,T,F,F,F,F] rfl rfl (by kernel_rfl) (by decide) (fun K hK => ?_)
  refine skip_ (w1 := ?_) (by rfl) rfl ?_ ?_
  rotate_left
  · go_simp
    rfl
  refine hK.out _ _ ?_
  clear hK K
  refine pure_ (i := 24) (N := some 32) (v := ?_) (a' := ?_) #[T,T,T,T,T,T,T,T,T,T,T,T,T,T,T,T,T,T,T,T,T,T,T,T,T,F,F,F] rfl rfl (by kernel_rfl) (fun _ _ _ h => h) (Or.inl ⟨by rfl, ?_⟩) ?_ ?_
  rotate_left
  · intro w'
    go_simp
    with_reducible rfl
  rotate_left
  · simp only [Act.put, sA, s0_, sS, i64_w, i32_w]
    rfl
  refine last_ (i := 25) (N := none) #[T,T,T,T,T,T,T,T,T,T,T,T,T,T,T,T,T,T,T,T,T,T,T,T,T,T,F,F] rfl rfl (by kernel_rfl) (by decide) (fun K hK => ?_)
  refine skip_ (w1 := ?_) (by rfl) rfl ?_ ?_
  rotate_left
  · go_simp
    rfl
  refine hK.out _ _ ?_
  clear hK K
  refine pure_ (i := 26) (N := some 33) (v := ?_) (a' := ?_) #[T,T,T,T,T,T,T,T,T,T,T,T,T,T,T,T,T,T,T,T,T,T,T,T,T,T,T,F] rfl rfl (by kernel_rfl) (fun _ _ _ h => h) (Or.inl ⟨by rfl, ?_⟩) ?_ ?_
  rotate_left
  · intro w'
    go_simp
    with_reducible rfl
  rotate_left
  · simp only [Act.put, sA, s0_, sS, i64_w, i32_w]
    rfl
  refine last_ (i := 27) (N := none) #[T,T,T,T,T,T,T,T,T,T,T,T,T,T,T,T,T,T,T,T,T,T,T,T,T,T,T,T] rfl rfl (by kernel_rfl) (by decide) (fun K hK => ?_)
  refine skip_ (w1 := ?_) (by rfl) rfl ?_ ?_
  rotate_left
  · go_simp
    rfl
  refine hK.out _ _ ?_
  clear hK K
  refine done_ (by kernel_rfl) ?_
  clear hHeld d4 d5 d6 d13 y4 y5 y6 y13 l4 l5 l6 l13
  go_wp2
  go_ret
  have q1 := blk_put KE.out 4 (.slice (some ⟨gi, 0, none⟩) L ci) rfl
  have q2 := blk_put q1 5 (.slice Ab nu cb) rfl
  have q3 := blk_put q2 6 (.slice Ac nf cc) rfl
  have q4 := blk_put q3 13 (.slice Ae nw ce) rfl
  have hnb : w.heap.size ≤ nb := by rw [HNB.out]; exact Nat.le_refl _
  have b1 := B1.out
  have sz1 : w.heap.size ≤ wd.heap.size := Nat.le_trans b1.size BD.out.size
  have szb : w.heap.size ≤ wb.heap.size := Nat.le_trans b1.size Bb.out.size
  have sza : w.heap.size ≤ wa.heap.size := Nat.le_trans b1.size Ba.out.size
  have szc : w.heap.size ≤ wc.heap.size := Nat.le_trans b1.size Bc.out.size
  have ball : Below w.heap.size w we := b1.trans (Be.out.mono b1.size)
  obtain ⟨i1, i2, i3, _⟩ := im_of_R Ra.out
  have hgn : gi ≠ nb := by
    have h2 : Im we gi ci d.b := (i1.below (Bae.out))
    obtain ⟨cs, hI, _⟩ := h2
    exact blk_ne hI KE.out (by decide)
  refine ⟨nb, rfl, (((ball.setCell (p := ⟨nb, 4, none⟩) hnb _).setCell (p := ⟨nb, 5, none⟩) hnb _).setCell (p := ⟨nb, 6, none⟩) hnb _).setCell (p := ⟨nb, 13, none⟩) hnb _, hnb, fun B f hB => ⟨gi, ci, .slice Ab nu cb, .slice Ac nf cc, .slice Ae nw ce, ?_⟩⟩
  have rows : ∀ {α : Type} {k : Kd α} {e : Nat} {v : Value} {xs : List α}, (∀ q, q ∈ e :: k.E → q ≠ 78) → k.R e we w.heap.size (fun q => w.heap.size ≤ q) v xs → k.R e ((((we.setCell ⟨nb, 4, none⟩ (.slice (some ⟨gi, 0, none⟩) L ci)).setCell ⟨nb, 5, none⟩ (.slice Ab nu cb)).setCell ⟨nb, 6, none⟩ (.slice Ac nf cc)).setCell ⟨nb, 13, none⟩ (.slice Ae nw ce)) B (fun k => owns f w.heap.size nb k = nb) v xs := fun h78 hr =>
    Kd.R_mono (Kd.R_lower (Kd.R_set (Kd.R_set (Kd.R_set (Kd.R_set hr KE.out h78 4 _) q1 h78 5 _) q2 h78 6 _) q3 h78 13 _) hB) (fun k hk => owns_new _ _ _ _ hk)
  exact
    { blk := by rw [HL.out.1]; exact q4
      own := owns_new _ _ _ _ hnb
      base := Nat.le_trans hB hnb
      img := (i1.below Bae.out).keep (by rw [Below.heap_setCell _ ⟨nb, 13, none⟩ _ gi hgn, Below.heap_setCell _ ⟨nb, 6, none⟩ _ gi hgn, Below.heap_setCell _ ⟨nb, 5, none⟩ _ gi hgn, Below.heap_setCell _ ⟨nb, 4, none⟩ _ gi hgn])
      imo := owns_new _ _ _ _ (Nat.le_trans sz1 i2)
      imb := Nat.le_trans hB (Nat.le_trans sz1 i2)
      un := rows (by decide) (Kd.R_mono (Kd.R_lower (Kd.R_below (Kd.R_below Rb.out Bbc.out) Bce.out) sza) (fun k hk => Nat.le_trans sza hk))
      fl := rows (by decide) (Kd.R_mono (Kd.R_lower (Kd.R_below Rc.out Bce.out) szb) (fun k hk => Nat.le_trans szb hk))
      wr := rows (by decide) (Kd.R_mono (Kd.R_lower Re.out szc) (fun k hk => Nat.le_trans szc hk))
      ne := fun k h1 h2 => by
        have e1 := (Kd.R_bound Rb.out).1 k h1
        have e2 := (Kd.R_bound Re.out).1 k h2
        have := Bbc.out.size
        have h3 := e1.2.2.1
        have h4 := e2.1
        omega }
end
end Go.Proofs.Ytnkbebdgkidbjaa.Flash
