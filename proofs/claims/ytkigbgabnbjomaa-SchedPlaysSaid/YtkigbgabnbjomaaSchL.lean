/- A step of the document's runner, its call begun.
   No condition. -/
import Derived.Test.YtkigbgabnbjomaaSchJ
import Derived.ArgAppend
import Derived.BigRegion
import Derived.Deep.QuietTactic
import Derived.BigQuiet
import Derived.Deep.RegionHeld3
import Derived.ChangeAlike
import Derived.RegionTactic
import Derived.Deep.DeepCutAuto
import Derived.Deep.CutBlock
import Derived.Deep.RegionLaw
import Derived.StillTailTactics
import Derived.WalkSpells
import Derived.Lib.SliceRun
namespace Go.Proofs.Ytkigbgabnbjomaa.Sched
open Go.Proofs.Ytkigbgabnbjomaa.PSchedPlays
open Go.RowKit Go.Proofs.YtkigbgabnbjomaaW.PrintWords Go.Proofs.YtkigbgabnbjomaaW.PrintLast Go.Proofs.YtkigbgabnbjomaaW.PrintMore
attribute [local go_sem] max2_int min2_int max_two min_two   -- for this text's walks alone
set_option linter.unusedVariables false
set_option linter.unusedSimpArgs false
set_option maxHeartbeats 8000000 in
set_option maxRecDepth 100000 in
theorem docstepGff {W w : World} {f : Owner} {xb : Nat} {x : X} {ev : Value} {ga gt gw ca ct cw c : Nat} {A : Option Addr} {calls : List (List (List S26))} (h : DocG W.heap.size f w xb x (.slice A x.n c) ev ga gt gw ca ct cw) (hI : Is calls x) (hC : (Kd.slice 22 (Kd.slice 26 k26)).C W A calls.length calls) (hW : Below W.heap.size W w) (ok : x.Ok) (p : Int) (hp : x.pickable p = true) (t : Nat) (ht : x.who p = t) {d0 d1 : Bool} {wk : List Int} (hd : x.told t = ⟨d0, d1, wk⟩) (hd0 : d0 = false) (hd1 : d1 = false)
    (hf : x.taken t ≠ 0) :
    Calls Try.prog 30 #[.pointer (some ⟨xb, 0, none⟩), .int .i64 p] w (DocPicked W.heap.size f w xb (x.step t) t A c ga gt gw ca ct cw) := by
  have hwho := who_lt x p hp
  rw [ht] at hwho
  have HW := Aside0.mk hW
  have HDD := Aside0.mk (And.intro hd0 hd1)
  clear hd0 hd1
  have HR := Aside0.mk (ready44 h hI hC hW ok.n16)
  obtain ⟨ad, A0, c0, ea, z0, Cz⟩ := calls_at hI hC (Below.refl _ _) t hwho.1
  subst ea
  obtain ⟨ad0, A1, c1, ea0, y0, hl1, Cy⟩ := at_L4 Cz (x.at_ t : Int) (by omega) (by have := hwho.2.1; omega)
  subst ea0
  obtain ⟨turns, htn⟩ : ∃ turns, rd_L4 (calls.getD t []) (x.at_ t : Int) = turns := ⟨_, rfl⟩
  rw [htn] at y0 hl1 Cy
  simp only [Int.toNat_natCast] at y0
  have hproc : x.proc t (x.at_ t) = some turns := by
    have hlen : x.at_ t < (calls.getD t []).length := by rw [← hI.len]; exact hwho.2.1
    have e : (calls.getD t [])[x.at_ t]? = some turns := by
      rw [← htn]
      generalize calls.getD t [] = cl at hlen ⊢
      simp only [rd_L4, Int.toNat_natCast]
      rw [List.getD_eq_getElem?_getD, List.getElem?_eq_getElem hlen]
      rfl
    rw [hI.proc]
    exact e
  have htold : pTurn turns (x.taken t) = ⟨d0, d1, wk⟩ := by
    rw [← hd]
    unfold X.told
    rw [hproc]
  have htk : x.taken t ≤ 140737488355328 := by
    have h1 := ok.taken_lt t hwho.1 hwho.2.1
    rw [hproc] at h1
    have h2 := (ok.short t _ turns hwho.1 hproc).1
    have h3 : stepsOf (some turns) = if turns.length = 0 then 1 else turns.length := rfl
    rw [h3] at h1
    split at h1 <;> omega
  have KT := Aside0.mk (fun (w6 : World) (hb : Below W.heap.size W w6) => (show Calls Try.prog 13 #[.slice A1 turns.length c1, .int .i64 (x.taken t : Int)] w6 (TurnedW W w6 ⟨d0, d1, wk⟩) from by
    rw [← htold]
    exact turn_walkW Cy hb (x.taken t) (by omega)))
  obtain ⟨tl, htl⟩ : ∃ tl, turns.length = tl := ⟨_, rfl⟩
  rw [htl] at KT y0
  have HATC : Aside0 (x.at_ t < x.len t ∧ x.n ≤ 16 ∧ x.len t ≤ 256) := ⟨⟨hwho.2.1, ok.n16, ok.len256 t hwho.1⟩⟩
  have HZ := Aside0.mk (And.intro z0 y0)
  have HEV : Aside0 ((x.events.length + 2) * 32 ≤ 140737488355328) := ⟨by have := ok.few_le; omega⟩
  have HD := Aside0.mk hd
  have H := Aside0.mk h
  have HWHO := Aside0.mk hwho
  have HF := Aside0.mk hf
  have HTK := Aside0.mk htk
  obtain ⟨m, hm⟩ : ∃ m, x.ready.length = m := ⟨_, rfl⟩
  have HM := Aside0.mk hm
  have hm16 : m ≤ 16 := by
    rw [← hm]
    have h1 : x.ready.length ≤ (List.range x.n).length := List.length_filter_le _ _
    rw [List.length_range] at h1
    have := ok.n16
    omega
  unfold X.pickable at hp
  simp only [Bool.and_eq_true, Bool.not_eq_true', beq_eq_false_iff_ne, ne_eq, decide_eq_true_eq] at hp
  obtain ⟨⟨h0, h1⟩, h2⟩ := hp
  have hm0 : 0 < m := by omega
  have hm0' : ¬ m = 0 := by omega
  have hm0'' : ((m : Int) == 0) = false := by rw [beq0]; simpa using hm0'
  obtain ⟨q, rfl⟩ : ∃ q : Nat, p = (q : Int) := ⟨p.toNat, by omega⟩
  have g1 : decide ((q : Int) < 0) = false := decide_eq_false (by omega)
  have g2 : decide ((2147483647 : Int) < (q : Int)) = false := decide_eq_false (by omega)
  have hq1 : (q : Int) ≤ 2147483647 := h1
  have hqm : q % m < m := Nat.mod_lt _ hm0
  obtain ⟨i, hi⟩ : ∃ i, q % m = i := ⟨_, rfl⟩
  rw [hi] at hqm
  have em : (q : Int) % (m : Int) = (i : Int) := by rw [← hi]; rfl
  have et : (q : Int).tmod (m : Int) = (i : Int) := by rw [← hi]; rfl
  have HTV : Aside0 ((ints x.ready).getD i 0 = (t : Int)) := ⟨by
    have h3 : x.ready.getD ((q : Int).toNat % x.ready.length) 0 = t := ht
    rw [hm, Int.toNat_natCast, hi] at h3
    rw [← h3]
    unfold ints
    rw [List.getD_eq_getElem?_getD, List.getElem?_map, List.getD_eq_getElem?_getD, List.getElem?_eq_getElem (by rw [hm]; exact hqm)]
    rfl⟩
  have HI := Aside0.mk hqm
  clear hi h ok hm h2 ht hwho hW hI hC Cz Cy hl1 htn hproc htold htk htl z0 y0 hd hf
  go_enter Try.func30, Try.ntmps30
  go_upto_region 5 with (go_at_call 44; refine HR.out.mono ?_; rintro e w1 ⟨v, rfl, hR, hb⟩; obtain ⟨A1', c1', hv⟩ := Kd.R_slice hR; rw [len_ints, HM.out] at hv; subst hv; obtain ⟨ad1, ea, x1⟩ := (Kd.reads_of_C (d := 0) (R_C hR).1).at_ (i : Int) (by omega) (by have := HI.out; omega); subst ea; simp only [Int.toNat_natCast, rdOf, HTV.out] at x1; have B1 := Aside0.mk hb; clear hR hb)
  clear x1 em et g1 g2 hm0 hm0' hm0'' hq1 h0 h1 hqm hm16
  have HC_ : Aside0 (DocG W.heap.size f w1 xb x (.slice (some ad) x.n c) ev ga gt gw ca ct cw) := ⟨H.out.below B1.out⟩
  have HM1 : Aside0 (Mv W.heap.size (· = xb) f w f w1) := ⟨Mv.of_below B1.out HW.out.size (fun _ _ => rfl)⟩
  have q2 := HC_.out.c2
  obtain ⟨qt, _⟩ := HC_.out.tk_c t HWHO.out.1
  have htn : t < x.n := HWHO.out.1
  have htn2 : (t : Int) < (x.n : Int) := by omega
  have ix0 : decide ((t : Int) < (x.n : Int)) = true := decide_eq_true (by have := HWHO.out.1; omega)
  obtain ⟨tk, htk⟩ : ∃ tk, x.taken t = tk := ⟨_, rfl⟩
  have gtk : ((tk : Int) == 0) = false := by rw [beq0]; have := HF.out; rw [htk] at this; simpa using this
  have gtk2 : ¬ tk = 0 := by have := HF.out; rw [htk] at this; exact this
  rw [htk] at qt
  go_upto_region 7 with (fail)
  obtain ⟨w5, hw5⟩ : ∃ w5, w1 = w5 := ⟨_, rfl⟩
  rw [hw5]
  have HX5 : Aside0 (DocG W.heap.size f w5 xb { x with events := x.events ++ x.begins t } (.slice (some ad) x.n c) ev ga gt gw ca ct cw ∧ Mv W.heap.size (· = xb) f w f w5) := ⟨by
    have e : x.begins t = [] := by unfold X.begins; rw [if_neg HF.out]
    rw [e, List.append_nil, ← hw5]
    exact ⟨HC_.out, HM1.out⟩⟩
  obtain ⟨f5, HX5⟩ : ∃ f5, Aside0 (DocG W.heap.size f5 w5 xb { x with events := x.events ++ x.begins t } (.slice (some ad) x.n c) ev ga gt gw ca ct cw ∧ Mv W.heap.size (· = xb) f w f5 w5) := ⟨f, HX5⟩
  clear hw5 qt q2 gtk gtk2 htk
  clear HC_ HM1 HR
  have BW5 : Aside0 (Below W.heap.size W w5) := ⟨HW.out.trans (HX5.out.2.below.mono (Nat.le_refl _))⟩
  have q0 : w5.cell? ⟨xb, 0, none⟩ = some (.slice (some ad) x.n c) := HX5.out.1.c0
  have q1 : w5.cell? ⟨xb, 1, none⟩ = some (.slice (some ⟨ga, 0, none⟩) x.n ca) := HX5.out.1.c1
  have q2 : w5.cell? ⟨xb, 2, none⟩ = some (.slice (some ⟨gt, 0, none⟩) x.n ct) := HX5.out.1.c2
  have q3 : w5.cell? ⟨ga, t, none⟩ = some (.int .i64 (x.at_ t : Int)) := (HX5.out.1.at_c t HWHO.out.1).1
  have q4 : w5.cell? ⟨gt, t, none⟩ = some (.int .i64 (x.taken t : Int)) := (HX5.out.1.tk_c t HWHO.out.1).1
  have q5 := pw_cell_below BW5.out HZ.out.1
  have q6 := pw_cell_below BW5.out HZ.out.2
  have hat : x.at_ t < x.len t := HATC.out.1
  have hat2 : (x.at_ t : Int) < (x.len t : Int) := by omega
  have ix1 : decide ((x.at_ t : Int) < (x.len t : Int)) = true := decide_eq_true (by have := HATC.out.1; omega)
  refine start_ (n := 26) (S := fun w' => w'.cell? ⟨xb, 0, none⟩ = some (.slice (some ad) x.n c) ∧ w'.cell? ⟨xb, 1, none⟩ = some (.slice (some ⟨ga, 0, none⟩) x.n ca) ∧ w'.cell? ⟨xb, 2, none⟩ = some (.slice (some ⟨gt, 0, none⟩) x.n ct) ∧ w'.cell? ⟨ga, t, none⟩ = some (.int .i64 (x.at_ t : Int)) ∧ w'.cell? ⟨gt, t, none⟩ = some (.int .i64 (x.taken t : Int)) ∧ w'.cell? (ad.add t) = some (.slice (some ad0) (x.len t) c0) ∧ w'.cell? (ad0.add (x.at_ t)) = some (.slice A1 tl c1)) (ds := [25]) #[F,F,F,F,F,F,F,F,F,F,F,F,F,F,F,F,F,F,F,F,F,F,F,F,F,F] (by kernel_rfl) rfl rfl (⟨q0, q1, q2, q3, q4, q5, q6⟩) (fun hHeld => ?_)
  generalize hwd : w5.drew = wd at hHeld ⊢
  have BD : Aside0 (Below w5.heap.size w5 wd) := ⟨by rw [← hwd]; exact below_drew (Below.refl _ _)⟩
  clear q0 q1 q2 q3 q4 q5 q6 hwd
  obtain ⟨q0, q1, q2, q3, q4, q5, q6⟩ := hHeld
  have hHeld : wd.cell? ⟨xb, 0, none⟩ = some (.slice (some ad) x.n c) ∧ wd.cell? ⟨xb, 1, none⟩ = some (.slice (some ⟨ga, 0, none⟩) x.n ca) ∧ wd.cell? ⟨xb, 2, none⟩ = some (.slice (some ⟨gt, 0, none⟩) x.n ct) ∧ wd.cell? ⟨ga, t, none⟩ = some (.int .i64 (x.at_ t : Int)) ∧ wd.cell? ⟨gt, t, none⟩ = some (.int .i64 (x.taken t : Int)) ∧ wd.cell? (ad.add t) = some (.slice (some ad0) (x.len t) c0) ∧ wd.cell? (ad0.add (x.at_ t)) = some (.slice A1 tl c1) := ⟨q0, q1, q2, q3, q4, q5, q6⟩
  refine pure_ (i := 0) (N := some 61) (v := ?_) (a' := ?_) #[T,F,F,F,F,F,F,F,F,F,F,F,F,F,F,F,F,F,F,F,F,F,F,F,F,F] rfl rfl (by kernel_rfl) (fun _ _ _ h => h) (Or.inl ⟨by rfl, ?_⟩) ?_ ?_
  rotate_left
  · intro w'
    go_simp
    with_reducible rfl
  rotate_left
  · simp only [Act.put, sA, s0_, sS, i64_w, i32_w]
    rfl
  refine pure_ (i := 1) (N := some 62) (v := ?_) (a' := ?_) #[T,T,F,F,F,F,F,F,F,F,F,F,F,F,F,F,F,F,F,F,F,F,F,F,F,F] rfl rfl (by kernel_rfl) (fun _ _ _ h => h) (Or.inl ⟨by rfl, ?_⟩) ?_ ?_
  rotate_left
  · intro w'
    go_simp
    with_reducible rfl
  rotate_left
  · simp only [Act.put, sA, s0_, sS, i64_w, i32_w]
    rfl
  refine pure_ (i := 2) (N := some 63) (v := ?_) (a' := ?_) #[T,T,T,F,F,F,F,F,F,F,F,F,F,F,F,F,F,F,F,F,F,F,F,F,F,F] rfl rfl (by kernel_rfl) (fun _ _ _ h => h) (Or.inl ⟨by rfl, ?_⟩) ?_ ?_
  rotate_left
  · intro w'
    go_simp
    with_reducible rfl
  rotate_left
  · simp only [Act.put, sA, s0_, sS, i64_w, i32_w]
    rfl
  refine pure_ (i := 4) (N := some 65) (v := ?_) (a' := ?_) #[T,T,T,F,T,F,F,F,F,F,F,F,F,F,F,F,F,F,F,F,F,F,F,F,F,F] rfl rfl (by kernel_rfl) (fun _ _ _ h => h) (Or.inl ⟨by rfl, ?_⟩) ?_ ?_
  rotate_left
  · intro w'
    go_simp
    with_reducible rfl
  rotate_left
  · simp only [Act.put, sA, s0_, sS, i64_w, i32_w]
    rfl
  refine pure_ (i := 7) (N := some 68) (v := ?_) (a' := ?_) #[T,T,T,F,T,F,F,T,F,F,F,F,F,F,F,F,F,F,F,F,F,F,F,F,F,F] rfl rfl (by kernel_rfl) (fun _ _ _ h => h) (Or.inl ⟨by rfl, ?_⟩) ?_ ?_
  rotate_left
  · intro w'
    go_simp
    with_reducible rfl
  rotate_left
  · simp only [Act.put, sA, s0_, sS, i64_w, i32_w]
    rfl
  refine pure_ (i := 8) (N := some 69) (v := ?_) (a' := ?_) #[T,T,T,F,T,F,F,T,T,F,F,F,F,F,F,F,F,F,F,F,F,F,F,F,F,F] rfl rfl (by kernel_rfl) (fun _ _ _ h => h) (Or.inl ⟨by rfl, ?_⟩) ?_ ?_
  rotate_left
  · intro w'
    go_simp
    with_reducible rfl
  rotate_left
  · simp only [Act.put, sA, s0_, sS, i64_w, i32_w]
    rfl
  refine pure_ (i := 9) (N := some 70) (v := ?_) (a' := ?_) #[T,T,T,F,T,F,F,T,T,T,F,F,F,F,F,F,F,F,F,F,F,F,F,F,F,F] rfl rfl (by kernel_rfl) (fun _ _ _ h => h) (Or.inl ⟨by rfl, ?_⟩) ?_ ?_
  rotate_left
  · intro w'
    go_simp
    with_reducible rfl
  rotate_left
  · simp only [Act.put, sA, s0_, sS, i64_w, i32_w]
    rfl
  refine pure_ (i := 11) (N := some 72) (v := ?_) (a' := ?_) #[T,T,T,F,T,F,F,T,T,T,F,T,F,F,F,F,F,F,F,F,F,F,F,F,F,F] rfl rfl (by kernel_rfl) (fun _ _ _ h => h) (Or.inl ⟨by rfl, ?_⟩) ?_ ?_
  rotate_left
  · intro w'
    go_simp
    with_reducible rfl
  rotate_left
  · simp only [Act.put, sA, s0_, sS, i64_w, i32_w]
    rfl
  refine pure_ (i := 16) (N := some 77) (v := ?_) (a' := ?_) #[T,T,T,F,T,F,F,T,T,T,F,T,F,F,F,F,T,F,F,F,F,F,F,F,F,F] rfl rfl (by kernel_rfl) (fun _ _ _ h => h) (Or.inl ⟨by rfl, ?_⟩) ?_ ?_
  rotate_left
  · intro w'
    go_simp
    with_reducible rfl
  rotate_left
  · simp only [Act.put, sA, s0_, sS, i64_w, i32_w]
    rfl
  refine pure_ (i := 17) (N := some 78) (v := ?_) (a' := ?_) #[T,T,T,F,T,F,F,T,T,T,F,T,F,F,F,F,T,T,F,F,F,F,F,F,F,F] rfl rfl (by kernel_rfl) (fun _ _ _ h => h) (Or.inl ⟨by rfl, ?_⟩) ?_ ?_
  rotate_left
  · intro w'
    go_simp
    with_reducible rfl
  rotate_left
  · simp only [Act.put, sA, s0_, sS, i64_w, i32_w]
    rfl
  refine pure_ (i := 18) (N := some 79) (v := ?_) (a' := ?_) #[T,T,T,F,T,F,F,T,T,T,F,T,F,F,F,F,T,T,T,F,F,F,F,F,F,F] rfl rfl (by kernel_rfl) (fun _ _ _ h => h) (Or.inl ⟨by rfl, ?_⟩) ?_ ?_
  rotate_left
  · intro w'
    go_simp
    with_reducible rfl
  rotate_left
  · simp only [Act.put, sA, s0_, sS, i64_w, i32_w]
    rfl
  refine pure_ (i := 20) (N := some 81) (v := ?_) (a' := ?_) #[T,T,T,F,T,F,F,T,T,T,F,T,F,F,F,F,T,T,T,F,T,F,F,F,F,F] rfl rfl (by kernel_rfl) (fun _ _ _ h => h) (Or.inl ⟨by rfl, ?_⟩) ?_ ?_
  rotate_left
  · intro w'
    go_simp
    with_reducible rfl
  rotate_left
  · simp only [Act.put, sA, s0_, sS, i64_w, i32_w]
    rfl
  refine take_ (i := 3) (N := some 64) (v := ?_) (a' := ?_) #[T,T,T,T,T,F,F,T,T,T,F,T,F,F,F,F,T,T,T,F,T,F,F,F,F,F] rfl rfl (by kernel_rfl) (fun _ _ _ h => h) (Or.inl ⟨by rfl, ?_⟩) hHeld ?_ ?_
  rotate_left
  · intro w' s0
    obtain ⟨s1, s2, s3, s4, s5, s6, s7⟩ := s0
    go_simp
    with_reducible rfl
  rotate_left
  · simp only [Act.put, sA, s0_, sS, i64_w, i32_w]
    rfl
  refine pure_ (i := 5) (N := some 66) (v := ?_) (a' := ?_) #[T,T,T,T,T,T,F,T,T,T,F,T,F,F,F,F,T,T,T,F,T,F,F,F,F,F] rfl rfl (by kernel_rfl) (fun _ _ _ h => h) (Or.inl ⟨by rfl, ?_⟩) ?_ ?_
  rotate_left
  · intro w'
    go_simp
    with_reducible rfl
  rotate_left
  · simp only [Act.put, sA, s0_, sS, i64_w, i32_w]
    rfl
  refine take_ (i := 6) (N := some 67) (v := ?_) (a' := ?_) #[T,T,T,T,T,T,T,T,T,T,F,T,F,F,F,F,T,T,T,F,T,F,F,F,F,F] rfl rfl (by kernel_rfl) (fun _ _ _ h => h) (Or.inl ⟨by rfl, ?_⟩) hHeld ?_ ?_
  rotate_left
  · intro w' s0
    obtain ⟨s1, s2, s3, s4, s5, s6, s7⟩ := s0
    go_simp
    with_reducible rfl
  rotate_left
  · simp only [Act.put, sA, s0_, sS, i64_w, i32_w]
    rfl
  refine take_ (i := 10) (N := some 71) (v := ?_) (a' := ?_) #[T,T,T,T,T,T,T,T,T,T,T,T,F,F,F,F,T,T,T,F,T,F,F,F,F,F] rfl rfl (by kernel_rfl) (fun _ _ _ h => h) (Or.inl ⟨by rfl, ?_⟩) hHeld ?_ ?_
  rotate_left
  · intro w' s0
    obtain ⟨s1, s2, s3, s4, s5, s6, s7⟩ := s0
    go_simp
    with_reducible rfl
  rotate_left
  · simp only [Act.put, sA, s0_, sS, i64_w, i32_w]
    rfl
  refine pure_ (i := 12) (N := some 73) (v := ?_) (a' := ?_) #[T,T,T,T,T,T,T,T,T,T,T,T,T,F,F,F,T,T,T,F,T,F,F,F,F,F] rfl rfl (by kernel_rfl) (fun _ _ _ h => h) (Or.inl ⟨by rfl, ?_⟩) ?_ ?_
  rotate_left
  · intro w'
    go_simp
    with_reducible rfl
  rotate_left
  · simp only [Act.put, sA, s0_, sS, i64_w, i32_w]
    rfl
  refine take_ (i := 13) (N := some 74) (v := ?_) (a' := ?_) #[T,T,T,T,T,T,T,T,T,T,T,T,T,T,F,F,T,T,T,F,T,F,F,F,F,F] rfl rfl (by kernel_rfl) (fun _ _ _ h => h) (Or.inl ⟨by rfl, ?_⟩) hHeld ?_ ?_
  rotate_left
  · intro w' s0
    obtain ⟨s1, s2, s3, s4, s5, s6, s7⟩ := s0
    go_simp
    with_reducible rfl
  rotate_left
  · simp only [Act.put, sA, s0_, sS, i64_w, i32_w]
    rfl
  refine pure_ (i := 14) (N := some 75) (v := ?_) (a' := ?_) #[T,T,T,T,T,T,T,T,T,T,T,T,T,T,T,F,T,T,T,F,T,F,F,F,F,F] rfl rfl (by kernel_rfl) (fun _ _ _ h => h) (Or.inl ⟨by rfl, ?_⟩) ?_ ?_
  rotate_left
  · intro w'
    go_simp
    with_reducible rfl
  rotate_left
  · simp only [Act.put, sA, s0_, sS, i64_w, i32_w]
    rfl
  refine take_ (i := 15) (N := some 76) (v := ?_) (a' := ?_) #[T,T,T,T,T,T,T,T,T,T,T,T,T,T,T,T,T,T,T,F,T,F,F,F,F,F] rfl rfl (by kernel_rfl) (fun _ _ _ h => h) (Or.inl ⟨by rfl, ?_⟩) hHeld ?_ ?_
  rotate_left
  · intro w' s0
    obtain ⟨s1, s2, s3, s4, s5, s6, s7⟩ := s0
    go_simp
    with_reducible rfl
  rotate_left
  · simp only [Act.put, sA, s0_, sS, i64_w, i32_w]
    rfl
  refine take_ (i := 19) (N := some 80) (v := ?_) (a' := ?_) #[T,T,T,T,T,T,T,T,T,T,T,T,T,T,T,T,T,T,T,T,T,F,F,F,F,F] rfl rfl (by kernel_rfl) (fun _ _ _ h => h) (Or.inl ⟨by rfl, ?_⟩) hHeld ?_ ?_
  rotate_left
  · intro w' s0
    obtain ⟨s1, s2, s3, s4, s5, s6, s7⟩ := s0
    go_simp
    with_reducible rfl
  rotate_left
  · simp only [Act.put, sA, s0_, sS, i64_w, i32_w]
    rfl
  refine pure_ (i := 21) (N := some 82) (v := ?_) (a' := ?_) #[T,T,T,T,T,T,T,T,T,T,T,T,T,T,T,T,T,T,T,T,T,T,F,F,F,F] rfl rfl (by kernel_rfl) (fun _ _ _ h => h) (Or.inl ⟨by rfl, ?_⟩) ?_ ?_
  rotate_left
  · intro w'
    go_simp
    with_reducible rfl
  rotate_left
  · simp only [Act.put, sA, s0_, sS, i64_w, i32_w]
    rfl
  refine take_ (i := 22) (N := some 83) (v := ?_) (a' := ?_) #[T,T,T,T,T,T,T,T,T,T,T,T,T,T,T,T,T,T,T,T,T,T,T,F,F,F] rfl rfl (by kernel_rfl) (fun _ _ _ h => h) (Or.inl ⟨by rfl, ?_⟩) hHeld ?_ ?_
  rotate_left
  · intro w' s0
    obtain ⟨s1, s2, s3, s4, s5, s6, s7⟩ := s0
    go_simp
    with_reducible rfl
  rotate_left
  · simp only [Act.put, sA, s0_, sS, i64_w, i32_w]
    rfl
  refine join_ (σ := (Option Addr × Nat) × Nat) 1 #[T,T,T,T,T,T,T,T,T,T,T,T,T,T,T,T,T,T,T,T,T,T,T,T,T,F] (fun s_ => [(84, .agg #[.bool d0, .bool d1, .slice s_.1.1 wk.length s_.1.2]), (8, .pointer (some ⟨s_.2, 0, none⟩))]) (fun s_ w' => (Kd.int .i64).C W s_.1.1 wk.length wk ∧ Below wd.heap.size wd w' ∧ wd.heap.size ≤ s_.2 ∧ w'.heap[s_.2]? = some (.cells #[.bool false, .bool false, .slice none 0 0] 26 (0, 0))) ?_ ?_
  rotate_left
  · intro hCont
    refine two_ (i := 23) (j := 24) (Ni := some 84) (Nj := some 8) #[T,T,T,T,T,T,T,T,T,T,T,T,T,T,T,T,T,T,T,T,T,T,T,T,F,F] #[T,T,T,T,T,T,T,T,T,T,T,T,T,T,T,T,T,T,T,T,T,T,T,F,T,F] rfl rfl rfl rfl (by kernel_rfl) (by decide) (by decide) (fun K hK => ?_) (fun K hK => ?_)
    · skip
      refine goes_ Try.func13 (by kernel_rfl) rfl #[.slice A1 tl c1, .int .i64 (x.taken t : Int)] (by rfl) rfl rfl (by (try simp only [List.map_toArray, List.map_cons, List.map_nil]); first | done | rfl) ?_
      with_reducible refine (KT.out wd (BW5.out.trans (BD.out.mono BW5.out.size))).mono ?_
      rintro e w6 ⟨A6, c6, rfl, hC6, hb6⟩
      refine ⟨_, rfl, ?_⟩
      have C6 := Aside0.mk hC6
      have B6 := Aside0.mk hb6
      clear hC6 hb6
      refine hK.out _ _ (by exact ⟨pw_cell_below B6.out q0, pw_cell_below B6.out q1, pw_cell_below B6.out q2, pw_cell_below B6.out q3, pw_cell_below B6.out q4, pw_cell_below B6.out q5, pw_cell_below B6.out q6⟩) (fun hHeld => ?_)
      clear hK K
      refine norm_ (a' := ?_) ?_ ?_
      rotate_left
      · show Act.put _ (some 84) _ = _
        simp only [Act.put, sA, s0_, sS, i64_w, i32_w]
        rfl
      refine one_ (i := 24) (N := some 8) #[T,T,T,T,T,T,T,T,T,T,T,T,T,T,T,T,T,T,T,T,T,T,T,T,T,F] rfl rfl (by kernel_rfl) (by decide) (fun K hK => ?_)
      refine value_ (w1 := ?_) (v := ?_) (by rfl) rfl ?_ ?_
      rotate_left 2
      · go_simp
        constructor
        · rfl
        · rfl
      refine hK.out _ _ (by exact ⟨pw_cell_below (B6.out.alloc B6.out.size _) q0, pw_cell_below (B6.out.alloc B6.out.size _) q1, pw_cell_below (B6.out.alloc B6.out.size _) q2, pw_cell_below (B6.out.alloc B6.out.size _) q3, pw_cell_below (B6.out.alloc B6.out.size _) q4, pw_cell_below (B6.out.alloc B6.out.size _) q5, pw_cell_below (B6.out.alloc B6.out.size _) q6⟩) (fun hHeld => ?_)
      clear hK K
      refine norm_ (a' := ?_) ?_ ?_
      rotate_left
      · show Act.put _ (some 8) _ = _
        simp only [Act.put, sA, s0_, sS, i64_w, i32_w]
        rfl
      exact norm_ (by simp only [putAll, Act.put, sA, s0_, sS]) (hCont ((A6, c6), w6.heap.size) _ ⟨C6.out, B6.out.alloc B6.out.size _, B6.out.size, blk_new w6 _⟩)
    · skip
      refine value_ (w1 := ?_) (v := ?_) (by rfl) rfl ?_ ?_
      rotate_left 2
      · go_simp
        constructor
        · rfl
        · rfl
      refine hK.out _ _ (by exact ⟨pw_cell_below (below_alloc (Below.refl wd.heap.size wd) _) q0, pw_cell_below (below_alloc (Below.refl wd.heap.size wd) _) q1, pw_cell_below (below_alloc (Below.refl wd.heap.size wd) _) q2, pw_cell_below (below_alloc (Below.refl wd.heap.size wd) _) q3, pw_cell_below (below_alloc (Below.refl wd.heap.size wd) _) q4, pw_cell_below (below_alloc (Below.refl wd.heap.size wd) _) q5, pw_cell_below (below_alloc (Below.refl wd.heap.size wd) _) q6⟩) (fun hHeld => ?_)
      clear hK K
      refine norm_ (a' := ?_) ?_ ?_
      rotate_left
      · show Act.put _ (some 8) _ = _
        simp only [Act.put, sA, s0_, sS, i64_w, i32_w]
        rfl
      refine one_ (i := 23) (N := some 84) #[T,T,T,T,T,T,T,T,T,T,T,T,T,T,T,T,T,T,T,T,T,T,T,T,T,F] rfl rfl (by kernel_rfl) (by decide) (fun K hK => ?_)
      refine goes_ Try.func13 (by kernel_rfl) rfl #[.slice A1 tl c1, .int .i64 (x.taken t : Int)] (by rfl) rfl rfl (by (try simp only [List.map_toArray, List.map_cons, List.map_nil]); first | done | rfl) ?_
      with_reducible refine (KT.out (wd.alloc (.cells #[.bool false, .bool false, .slice none 0 0] 26)) ((BW5.out.trans (BD.out.mono BW5.out.size)).alloc (BW5.out.trans (BD.out.mono BW5.out.size)).size _)).mono ?_
      rintro e w6 ⟨A6, c6, rfl, hC6, hb6⟩
      refine ⟨_, rfl, ?_⟩
      have C6 := Aside0.mk hC6
      have B6 := Aside0.mk hb6
      clear hC6 hb6
      have B7 := Aside0.mk ((below_alloc (Below.refl wd.heap.size wd) (.cells #[.bool false, .bool false, .slice none 0 0] 26)).trans (B6.out.mono (by simp)))
      refine hK.out _ _ (by exact ⟨pw_cell_below B7.out q0, pw_cell_below B7.out q1, pw_cell_below B7.out q2, pw_cell_below B7.out q3, pw_cell_below B7.out q4, pw_cell_below B7.out q5, pw_cell_below B7.out q6⟩) (fun hHeld => ?_)
      clear hK K
      refine norm_ (a' := ?_) ?_ ?_
      rotate_left
      · show Act.put _ (some 84) _ = _
        simp only [Act.put, sA, s0_, sS, i64_w, i32_w]
        rfl
      exact norm_ (by simp only [putAll, Act.put, sA, s0_, sS]) (hCont ((A6, c6), wd.heap.size) _ ⟨C6.out, B7.out, Nat.le_refl _, blk_below (blk_new wd _) B6.out⟩)
  intro s_ w7 hF
  obtain ⟨⟨Aw, cvw⟩, bx⟩ := s_
  obtain ⟨hF1, hF2, hF3, hF4⟩ := hF
  have FC := Aside0.mk hF1
  have FB := Aside0.mk hF2
  have FS := Aside0.mk hF3
  simp only at hF4
  have FK := Aside0.mk hF4
  have j0 := blk_cell hF4 0
  have j1 := blk_cell hF4 1
  have j2 := blk_cell hF4 2
  have l0 := blk_frozen hF4 0
  have l1 := blk_frozen hF4 1
  have l2 := blk_frozen hF4 2
  clear hF1 hF2 hF3 hF4
  refine norm_ (a' := ?_) ?_ ?_
  rotate_left
  · simp only [putAll, Act.put, sA, s0_, sS]
    rfl
  refine last_ (i := 25) (N := none) #[T,T,T,T,T,T,T,T,T,T,T,T,T,T,T,T,T,T,T,T,T,T,T,T,T,T] rfl rfl (by kernel_rfl) (by decide) (fun K hK => ?_)
  refine skip_ (w1 := ?_) (by rfl) rfl ?_ ?_
  rotate_left
  · go_simp
    rfl
  refine hK.out _ _ ?_
  clear hK K
  refine done_ (by kernel_rfl) ?_
  go_upto_region 8 with (fail)
  clear q0 q1 q2 q3 q4 q5 q6 j0 j1 j2 l0 l1 l2 hat hat2 ix1
  obtain ⟨w8, hw8⟩ : ∃ w8, ((w7.setCell ⟨bx, 0, none⟩ (.bool d0)).setCell ⟨bx, 1, none⟩ (.bool d1)).setCell ⟨bx, 2, none⟩ (.slice Aw wk.length cvw) = w8 := ⟨_, rfl⟩
  rw [hw8]
  obtain ⟨f8, hf8⟩ : ∃ f8, owns f5 w5.heap.size bx = f8 := ⟨_, rfl⟩
  have HX8 : Aside0 (DocG W.heap.size f8 w8 xb { x with events := x.events ++ x.begins t } (.slice (some ad) x.n c) ev ga gt gw ca ct cw ∧ Mv W.heap.size (· = xb) f w f8 w8 ∧ w8.heap[bx]? = some (.cells #[.bool d0, .bool d1, .slice Aw wk.length cvw] 26 (0, 0)) ∧ f8 bx ≠ xb) := ⟨by
    obtain ⟨h1, h2⟩ := HX5.out
    have hbx : w5.heap.size ≤ bx := Nat.le_trans BD.out.size FS.out
    have b1 : Below w5.heap.size w5 w8 := by rw [← hw8]; exact below3 (BD.out.trans (FB.out.mono BD.out.size)) hbx _ _ _
    have m1 : ∀ o : Nat → Prop, Mv W.heap.size o f5 w5 f8 w8 := fun o => Mv.of_below b1 BW5.out.size (fun k hk => by rw [← hf8]; exact owns_old _ _ _ k hk)
    have hlt := blk_lt h1.blk
    refine ⟨h1.mv (m1 (fun _ => False)) (fun e => e), h2.trans (m1 _), by rw [← hw8]; exact put3 FK.out _ _ _, ?_⟩
    rw [← hf8, owns_new _ _ _ _ hbx]
    omega⟩
  clear hw8 hf8 HX5 FK FB FS BD KT BW5
  obtain ⟨hd0, hd1⟩ := HDD.out
  clear HDD
  subst hd0
  subst hd1
  have q2 : w8.cell? ⟨xb, 2, none⟩ = some (.slice (some ⟨gt, 0, none⟩) x.n ct) := HX8.out.1.c2
  obtain ⟨q4, l4⟩ : w8.cell? ⟨gt, t, none⟩ = some (.int .i64 (x.taken t : Int)) ∧ w8.frozen? ⟨gt, t, none⟩ = false := HX8.out.1.tk_c t HWHO.out.1
  obtain ⟨tk, htk⟩ : ∃ tk, x.taken t = tk := ⟨_, rfl⟩
  have htk2 : tk ≤ 140737488355328 := by rw [← htk]; exact HTK.out
  rw [htk] at q4
  go_upto_region 9 with (fail)
  obtain ⟨w9, hw9⟩ : ∃ w9, w8.setCell ⟨gt, t, none⟩ (.int .i64 ((tk : Int) + 1)) = w9 := ⟨_, rfl⟩
  rw [hw9]
  have HX9 : Aside0 (DocG W.heap.size f8 w9 xb { x with events := x.events ++ x.begins t, taken := upd x.taken t (x.taken t + 1) } (.slice (some ad) x.n c) ev ga gt gw ca ct cw ∧ Mv W.heap.size (· = xb) f w f8 w9 ∧ w9.heap[bx]? = some (.cells #[.bool false, .bool false, .slice Aw wk.length cvw] 26 (0, 0)) ∧ f8 bx ≠ xb) := ⟨by
    obtain ⟨h1, h2, h3, h4⟩ := HX8.out
    obtain ⟨h5, h6⟩ := h1.setTaken t (x.taken t + 1)
    have e : w8.setCell ⟨gt, t, none⟩ (.int .i64 ((x.taken t + 1 : Nat) : Int)) = w9 := by rw [htk]; exact hw9
    rw [e] at h5 h6
    exact ⟨h5, h2.trans h6, h6.blk h3 h4, h4⟩⟩
  clear q2 q4 l4 htk htk2 hw9 HX8
  have q3 : w9.cell? ⟨xb, 3, none⟩ = some (.slice (some ⟨gw, 0, none⟩) x.n cw) := HX9.out.1.c3
  obtain ⟨qw, lw4⟩ : w9.cell? ⟨gw, t, none⟩ = some (.bool (x.waits t)) ∧ w9.frozen? ⟨gw, t, none⟩ = false := HX9.out.1.w_c t HWHO.out.1
  have bk9 := HX9.out.2.2.1
  have j0 := blk_cell bk9 0
  have j1 := blk_cell bk9 1
  simp only [List.getElem?_toArray, List.getElem?_cons_zero, List.getElem?_cons_succ] at j0 j1
  clear bk9
  refine start_ (n := 14) (S := fun w' => w'.cell? ⟨xb, 3, none⟩ = some (.slice (some ⟨gw, 0, none⟩) x.n cw) ∧ w'.cell? ⟨bx, 0, none⟩ = some (.bool false) ∧ w'.cell? ⟨bx, 1, none⟩ = some (.bool false)) (ds := [13]) #[F,F,F,F,F,F,F,F,F,F,F,F,F,F] (by kernel_rfl) rfl rfl (⟨q3, j0, j1⟩) (fun hHeld => ?_)
  refine pure_ (i := 0) (N := some 94) (v := ?_) (a' := ?_) #[T,F,F,F,F,F,F,F,F,F,F,F,F,F] rfl rfl (by kernel_rfl) (fun _ _ _ h => h) (Or.inl ⟨by rfl, ?_⟩) ?_ ?_
  rotate_left
  · intro w'
    go_simp
    with_reducible rfl
  rotate_left
  · simp only [Act.put, sA, s0_, sS, i64_w, i32_w]
    rfl
  refine pure_ (i := 1) (N := some 95) (v := ?_) (a' := ?_) #[T,T,F,F,F,F,F,F,F,F,F,F,F,F] rfl rfl (by kernel_rfl) (fun _ _ _ h => h) (Or.inl ⟨by rfl, ?_⟩) ?_ ?_
  rotate_left
  · intro w'
    go_simp
    with_reducible rfl
  rotate_left
  · simp only [Act.put, sA, s0_, sS, i64_w, i32_w]
    rfl
  refine pure_ (i := 2) (N := some 96) (v := ?_) (a' := ?_) #[T,T,T,F,F,F,F,F,F,F,F,F,F,F] rfl rfl (by kernel_rfl) (fun _ _ _ h => h) (Or.inl ⟨by rfl, ?_⟩) ?_ ?_
  rotate_left
  · intro w'
    go_simp
    with_reducible rfl
  rotate_left
  · simp only [Act.put, sA, s0_, sS, i64_w, i32_w]
    rfl
  refine take_ (i := 3) (N := some 97) (v := ?_) (a' := ?_) #[T,T,T,T,F,F,F,F,F,F,F,F,F,F] rfl rfl (by kernel_rfl) (fun _ _ _ h => h) (Or.inl ⟨by rfl, ?_⟩) hHeld ?_ ?_
  rotate_left
  · intro w' s0
    obtain ⟨s1, s2, s3⟩ := s0
    go_simp
    with_reducible rfl
  rotate_left
  · simp only [Act.put, sA, s0_, sS, i64_w, i32_w]
    rfl
  refine pure_ (i := 4) (N := some 98) (v := ?_) (a' := ?_) #[T,T,T,T,T,F,F,F,F,F,F,F,F,F] rfl rfl (by kernel_rfl) (fun _ _ _ h => h) (Or.inl ⟨by rfl, ?_⟩) ?_ ?_
  rotate_left
  · intro w'
    go_simp
    with_reducible rfl
  rotate_left
  · simp only [Act.put, sA, s0_, sS, i64_w, i32_w]
    rfl
  refine pure_ (i := 5) (N := some 99) (v := ?_) (a' := ?_) #[T,T,T,T,T,T,F,F,F,F,F,F,F,F] rfl rfl (by kernel_rfl) (fun _ _ _ h => h) (Or.inl ⟨by rfl, ?_⟩) ?_ ?_
  rotate_left
  · intro w'
    go_simp
    with_reducible rfl
  rotate_left
  · simp only [Act.put, sA, s0_, sS, i64_w, i32_w]
    rfl
  refine take_ (i := 6) (N := some 100) (v := ?_) (a' := ?_) #[T,T,T,T,T,T,T,F,F,F,F,F,F,F] rfl rfl (by kernel_rfl) (fun _ _ _ h => h) (Or.inl ⟨by rfl, ?_⟩) hHeld ?_ ?_
  rotate_left
  · intro w' s0
    obtain ⟨s1, s2, s3⟩ := s0
    go_simp
    with_reducible rfl
  rotate_left
  · simp only [Act.put, sA, s0_, sS, i64_w, i32_w]
    rfl
  refine pure_ (i := 7) (N := some 101) (v := ?_) (a' := ?_) #[T,T,T,T,T,T,T,T,F,F,F,F,F,F] rfl rfl (by kernel_rfl) (fun _ _ _ h => h) (Or.inl ⟨by rfl, ?_⟩) ?_ ?_
  rotate_left
  · intro w'
    go_simp
    with_reducible rfl
  rotate_left
  · simp only [Act.put, sA, s0_, sS, i64_w, i32_w]
    rfl
  refine pure_ (i := 8) (N := some 102) (v := undef) (a' := ?_) #[T,T,T,T,T,T,T,T,T,F,F,F,F,F] rfl rfl (by kernel_rfl) (fun _ _ _ h => h) (Or.inr ⟨by rfl, rfl⟩) ?_ ?_
  rotate_left
  · simp only [Act.put, sA, s0_, sS, i64_w, i32_w]
    rfl
  refine pure_ (i := 9) (N := some 103) (v := undef) (a' := ?_) #[T,T,T,T,T,T,T,T,T,T,F,F,F,F] rfl rfl (by kernel_rfl) (fun _ _ _ h => h) (Or.inr ⟨by rfl, rfl⟩) ?_ ?_
  rotate_left
  · simp only [Act.put, sA, s0_, sS, i64_w, i32_w]
    rfl
  refine pure_ (i := 10) (N := some 104) (v := undef) (a' := ?_) #[T,T,T,T,T,T,T,T,T,T,T,F,F,F] rfl rfl (by kernel_rfl) (fun _ _ _ h => h) (Or.inr ⟨by rfl, rfl⟩) ?_ ?_
  rotate_left
  · simp only [Act.put, sA, s0_, sS, i64_w, i32_w]
    rfl
  refine pure_ (i := 11) (N := some 105) (v := ?_) (a' := ?_) #[T,T,T,T,T,T,T,T,T,T,T,T,F,F] rfl rfl (by kernel_rfl) (fun _ _ _ h => h) (Or.inl ⟨by rfl, ?_⟩) ?_ ?_
  rotate_left
  · intro w'
    go_simp
    with_reducible rfl
  rotate_left
  · simp only [Act.put, sA, s0_, sS, i64_w, i32_w]
    rfl
  refine pure_ (i := 12) (N := some 106) (v := ?_) (a' := ?_) #[T,T,T,T,T,T,T,T,T,T,T,T,T,F] rfl rfl (by kernel_rfl) (fun _ _ _ h => h) (Or.inl ⟨by rfl, ?_⟩) ?_ ?_
  rotate_left
  · intro w'
    go_simp
    with_reducible rfl
  rotate_left
  · simp only [Act.put, sA, s0_, sS, i64_w, i32_w]
    rfl
  refine last_ (i := 13) (N := none) #[T,T,T,T,T,T,T,T,T,T,T,T,T,T] rfl rfl (by kernel_rfl) (by decide) (fun K hK => ?_)
  refine skip_ (w1 := ?_) (by rfl) rfl ?_ ?_
  rotate_left
  · go_simp
    rfl
  refine hK.out _ _ ?_
  clear hK K
  refine done_ (by kernel_rfl) ?_
  go_upto_region 10 with (fail)
  clear q3 qw lw4 j0 j1
  obtain ⟨w10, hw10⟩ : ∃ w10, (w9.setCell ⟨gw, t, none⟩ (.bool false)).drew = w10 := ⟨_, rfl⟩
  rw [hw10]
  have HX10 : Aside0 (DocG W.heap.size f8 w10 xb { x with events := x.events ++ x.begins t, taken := upd x.taken t (x.taken t + 1), waits := upd x.waits t false } (.slice (some ad) x.n c) ev ga gt gw ca ct cw ∧ Mv W.heap.size (· = xb) f w f8 w10 ∧ w10.heap[bx]? = some (.cells #[.bool false, .bool false, .slice Aw wk.length cvw] 26 (0, 0)) ∧ f8 bx ≠ xb) := ⟨by
    obtain ⟨h1, h2, h3, h4⟩ := HX9.out
    obtain ⟨h5, h6⟩ := h1.setWaits t false
    rw [← hw10]
    exact ⟨h5.below (below_drew (Below.refl _ _)), (h2.trans h6).drewN 1, h6.blk h3 h4, h4⟩⟩
  clear hw10 HX9
  have bk10 := HX10.out.2.2.1
  have j0 := blk_cell bk10 0
  simp only [List.getElem?_toArray, List.getElem?_cons_zero] at j0
  clear bk10
  obtain ⟨mx, hmx⟩ : ∃ mx : X, { x with events := x.events ++ x.begins t, taken := upd x.taken t (x.taken t + 1), waits := upd x.waits t false } = mx := ⟨_, rfl⟩
  have S0 : Aside0 (DWak W.heap.size f w xb mx (.slice (some ad) x.n c) ga gt gw ca ct cw bx #[.bool false, .bool false, .slice Aw wk.length cvw] wk 0 w10) := ⟨by
    obtain ⟨h1, h2, h3, h4⟩ := HX10.out
    rw [← hmx]
    exact DWak.start h1 h2 h3 h4⟩
  have EQ : Aside0 (x.step t = { mx with waits := woke wk mx.waits, steps := wrap64 (x.steps + 1) }) := ⟨by
    have hb : x.ends t = [] := by unfold X.ends; rw [HD.out]; rfl
    have ha : upd x.at_ t (x.at_ t) = x.at_ := upd_self _ _
    rw [← hmx]
    unfold X.step
    rw [HD.out, hb, List.append_nil]
    show _ = ({ x with events := x.events ++ x.begins t, taken := upd x.taken t (x.taken t + 1), waits := woke wk (upd x.waits t false), steps := wrap64 (x.steps + 1) } : X)
    congr 1⟩
  clear HX10
  go_upto_region 14 with (fail)
  clear j0
  have HMX : Aside0 (mx.n = x.n ∧ mx.steps = x.steps) := ⟨by rw [← hmx]; exact ⟨rfl, rfl⟩⟩
  obtain ⟨lw, hlw⟩ : ∃ lw, wk.length = lw := ⟨_, rfl⟩
  have HLW := Aside0.mk hlw
  have hlw63 : lw ≤ 9223372036854775807 := by rw [← hlw]; exact FC.out.2.1
  rw [hlw] at S0
  clear hmx hlw
  go_wp2
  go_loopw [9, 10] (fun idx v wr => ∃ k : Nat, k ≤ lw ∧ idx = .int .i64 (k : Int) ∧ Aside0 (DWak W.heap.size f w xb mx (.slice (some ad) x.n c) ga gt gw ca ct cw bx #[.bool false, .bool false, .slice Aw lw cvw] wk k wr)) (fun idx _ _ => lw - (intOf idx).toNat)
  case atStart => exact ⟨0, Nat.zero_le _, rfl, S0⟩
  case round =>
    obtain ⟨k, hk, rfl, SK⟩ := hrel
    obtain ⟨f', ev', h1, h2, h3, h4⟩ := SK.out
    have j2 := blk_cell h3 2
    simp only [List.getElem?_toArray, List.getElem?_cons_zero, List.getElem?_cons_succ] at j2
    by_cases hlt : k < lw
    · have HBR : Aside0 (Below W.heap.size W wr) := ⟨HW.out.trans h2.below⟩
      obtain ⟨adw, eadw, cz⟩ := (Kd.reads_of_C (d := 0) (Kd.C_below FC.out HBR.out)).at_ (k : Int) (by omega) (by have := HLW.out; omega)
      simp only [Int.toNat_natCast, rdOf] at cz
      have q3 : wr.cell? ⟨xb, 3, none⟩ = some (.slice (some ⟨gw, 0, none⟩) x.n cw) := by have h := h1.c3; rw [show ({ mx with waits := woke (wk.take k) mx.waits } : X).n = x.n from HMX.out.1] at h; exact h
      have hkl : k < wk.length := by rw [HLW.out]; exact hlt
      obtain ⟨z, hz⟩ : ∃ z, wk.getD k 0 = z := ⟨_, rfl⟩
      rw [hz] at cz
      subst eadw
      have ix : decide ((k : Int) < (lw : Int)) = true := decide_eq_true (by omega)
      by_cases hz0 : 0 ≤ z
      · obtain ⟨u, rfl⟩ : ∃ u : Nat, z = (u : Int) := ⟨z.toNat, by omega⟩
        by_cases hun : u < x.n
        · obtain ⟨c3', c4'⟩ := h1.w_c u (by show u < mx.n; rw [HMX.out.1]; exact hun)
          have SK1 := Aside0.mk (SK.out.in_ hkl u hz)
          have i1 : decide ((u : Int) < (x.n : Int)) = true := decide_eq_true (by omega)
          clear h1 h2 h3 h4 hkl hz
          go_wp2
          go_roundw
          case rel => exact ⟨k + 1, by omega, by go_num, SK1⟩
          case measure => simp [intOf]; omega
        · have SK1 := Aside0.mk (SK.out.out hkl (fun s hs e => by rw [hz] at e; have := HMX.out.1; omega))
          have i1 : decide ((u : Int) < (x.n : Int)) = false := decide_eq_false (by omega)
          clear h1 h2 h3 h4 hkl hz
          go_wp2
          go_roundw
          case rel => exact ⟨k + 1, by omega, by go_num, SK1⟩
          case measure => simp [intOf]; omega
      · have SK1 := Aside0.mk (SK.out.out hkl (fun s hs e => by rw [hz] at e; omega))
        have i1 : decide (0 ≤ z) = false := decide_eq_false hz0
        clear h1 h2 h3 h4 hkl hz
        go_wp2
        go_roundw
        case rel => exact ⟨k + 1, by omega, by go_num, SK1⟩
        case measure => simp [intOf]; omega
    · have hkl : k = lw := by omega
      subst hkl
      have HE := Aside0.mk (show DWak W.heap.size f w xb mx (.slice (some ad) x.n c) ga gt gw ca ct cw bx #[.bool false, .bool false, .slice Aw k cvw] wk wk.length wr by rw [HLW.out]; exact SK.out)
      have q4 : wr.cell? ⟨xb, 4, none⟩ = some (.int .i64 x.steps) := by have h := h1.c4; rw [show ({ mx with waits := woke (wk.take k) mx.waits } : X).steps = x.steps from HMX.out.2] at h; exact h
      have l4 := blk_frozen h1.blk 4
      clear h1 h2 h3 h4
      go_wp2
      go_ret2
      refine ⟨rfl, ?_⟩
      rw [EQ.out]
      have hE := HE.out.end_ (wrap64 (x.steps + 1))
      rw [← HMX.out.1] at hE
      exact hE
set_option maxHeartbeats 8000000 in
set_option maxRecDepth 100000 in
theorem docstepGft {W w : World} {f : Owner} {xb : Nat} {x : X} {ev : Value} {ga gt gw ca ct cw c : Nat} {A : Option Addr} {calls : List (List (List S26))} (h : DocG W.heap.size f w xb x (.slice A x.n c) ev ga gt gw ca ct cw) (hI : Is calls x) (hC : (Kd.slice 22 (Kd.slice 26 k26)).C W A calls.length calls) (hW : Below W.heap.size W w) (ok : x.Ok) (p : Int) (hp : x.pickable p = true) (t : Nat) (ht : x.who p = t) {d0 d1 : Bool} {wk : List Int} (hd : x.told t = ⟨d0, d1, wk⟩) (hd0 : d0 = true) (hd1 : d1 = false)
    (hf : x.taken t ≠ 0) :
    Calls Try.prog 30 #[.pointer (some ⟨xb, 0, none⟩), .int .i64 p] w (DocPicked W.heap.size f w xb (x.step t) t A c ga gt gw ca ct cw) := by
  have hwho := who_lt x p hp
  rw [ht] at hwho
  have HW := Aside0.mk hW
  have HDD := Aside0.mk (And.intro hd0 hd1)
  clear hd0 hd1
  have HR := Aside0.mk (ready44 h hI hC hW ok.n16)
  obtain ⟨ad, A0, c0, ea, z0, Cz⟩ := calls_at hI hC (Below.refl _ _) t hwho.1
  subst ea
  obtain ⟨ad0, A1, c1, ea0, y0, hl1, Cy⟩ := at_L4 Cz (x.at_ t : Int) (by omega) (by have := hwho.2.1; omega)
  subst ea0
  obtain ⟨turns, htn⟩ : ∃ turns, rd_L4 (calls.getD t []) (x.at_ t : Int) = turns := ⟨_, rfl⟩
  rw [htn] at y0 hl1 Cy
  simp only [Int.toNat_natCast] at y0
  have hproc : x.proc t (x.at_ t) = some turns := by
    have hlen : x.at_ t < (calls.getD t []).length := by rw [← hI.len]; exact hwho.2.1
    have e : (calls.getD t [])[x.at_ t]? = some turns := by
      rw [← htn]
      generalize calls.getD t [] = cl at hlen ⊢
      simp only [rd_L4, Int.toNat_natCast]
      rw [List.getD_eq_getElem?_getD, List.getElem?_eq_getElem hlen]
      rfl
    rw [hI.proc]
    exact e
  have htold : pTurn turns (x.taken t) = ⟨d0, d1, wk⟩ := by
    rw [← hd]
    unfold X.told
    rw [hproc]
  have htk : x.taken t ≤ 140737488355328 := by
    have h1 := ok.taken_lt t hwho.1 hwho.2.1
    rw [hproc] at h1
    have h2 := (ok.short t _ turns hwho.1 hproc).1
    have h3 : stepsOf (some turns) = if turns.length = 0 then 1 else turns.length := rfl
    rw [h3] at h1
    split at h1 <;> omega
  have KT := Aside0.mk (fun (w6 : World) (hb : Below W.heap.size W w6) => (show Calls Try.prog 13 #[.slice A1 turns.length c1, .int .i64 (x.taken t : Int)] w6 (TurnedW W w6 ⟨d0, d1, wk⟩) from by
    rw [← htold]
    exact turn_walkW Cy hb (x.taken t) (by omega)))
  obtain ⟨tl, htl⟩ : ∃ tl, turns.length = tl := ⟨_, rfl⟩
  rw [htl] at KT y0
  have HATC : Aside0 (x.at_ t < x.len t ∧ x.n ≤ 16 ∧ x.len t ≤ 256) := ⟨⟨hwho.2.1, ok.n16, ok.len256 t hwho.1⟩⟩
  have HZ := Aside0.mk (And.intro z0 y0)
  have HEV : Aside0 ((x.events.length + 2) * 32 ≤ 140737488355328) := ⟨by have := ok.few_le; omega⟩
  have HD := Aside0.mk hd
  have H := Aside0.mk h
  have HWHO := Aside0.mk hwho
  have HF := Aside0.mk hf
  have HTK := Aside0.mk htk
  obtain ⟨m, hm⟩ : ∃ m, x.ready.length = m := ⟨_, rfl⟩
  have HM := Aside0.mk hm
  have hm16 : m ≤ 16 := by
    rw [← hm]
    have h1 : x.ready.length ≤ (List.range x.n).length := List.length_filter_le _ _
    rw [List.length_range] at h1
    have := ok.n16
    omega
  unfold X.pickable at hp
  simp only [Bool.and_eq_true, Bool.not_eq_true', beq_eq_false_iff_ne, ne_eq, decide_eq_true_eq] at hp
  obtain ⟨⟨h0, h1⟩, h2⟩ := hp
  have hm0 : 0 < m := by omega
  have hm0' : ¬ m = 0 := by omega
  have hm0'' : ((m : Int) == 0) = false := by rw [beq0]; simpa using hm0'
  obtain ⟨q, rfl⟩ : ∃ q : Nat, p = (q : Int) := ⟨p.toNat, by omega⟩
  have g1 : decide ((q : Int) < 0) = false := decide_eq_false (by omega)
  have g2 : decide ((2147483647 : Int) < (q : Int)) = false := decide_eq_false (by omega)
  have hq1 : (q : Int) ≤ 2147483647 := h1
  have hqm : q % m < m := Nat.mod_lt _ hm0
  obtain ⟨i, hi⟩ : ∃ i, q % m = i := ⟨_, rfl⟩
  rw [hi] at hqm
  have em : (q : Int) % (m : Int) = (i : Int) := by rw [← hi]; rfl
  have et : (q : Int).tmod (m : Int) = (i : Int) := by rw [← hi]; rfl
  have HTV : Aside0 ((ints x.ready).getD i 0 = (t : Int)) := ⟨by
    have h3 : x.ready.getD ((q : Int).toNat % x.ready.length) 0 = t := ht
    rw [hm, Int.toNat_natCast, hi] at h3
    rw [← h3]
    unfold ints
    rw [List.getD_eq_getElem?_getD, List.getElem?_map, List.getD_eq_getElem?_getD, List.getElem?_eq_getElem (by rw [hm]; exact hqm)]
    rfl⟩
  have HI := Aside0.mk hqm
  clear hi h ok hm h2 ht hwho hW hI hC Cz Cy hl1 htn hproc htold htk htl z0 y0 hd hf
  go_enter Try.func30, Try.ntmps30
  go_upto_region 5 with (go_at_call 44; refine HR.out.mono ?_; rintro e w1 ⟨v, rfl, hR, hb⟩; obtain ⟨A1', c1', hv⟩ := Kd.R_slice hR; rw [len_ints, HM.out] at hv; subst hv; obtain ⟨ad1, ea, x1⟩ := (Kd.reads_of_C (d := 0) (R_C hR).1).at_ (i : Int) (by omega) (by have := HI.out; omega); subst ea; simp only [Int.toNat_natCast, rdOf, HTV.out] at x1; have B1 := Aside0.mk hb; clear hR hb)
  clear x1 em et g1 g2 hm0 hm0' hm0'' hq1 h0 h1 hqm hm16
  have HC_ : Aside0 (DocG W.heap.size f w1 xb x (.slice (some ad) x.n c) ev ga gt gw ca ct cw) := ⟨H.out.below B1.out⟩
  have HM1 : Aside0 (Mv W.heap.size (· = xb) f w f w1) := ⟨Mv.of_below B1.out HW.out.size (fun _ _ => rfl)⟩
  have q2 := HC_.out.c2
  obtain ⟨qt, _⟩ := HC_.out.tk_c t HWHO.out.1
  have htn : t < x.n := HWHO.out.1
  have htn2 : (t : Int) < (x.n : Int) := by omega
  have ix0 : decide ((t : Int) < (x.n : Int)) = true := decide_eq_true (by have := HWHO.out.1; omega)
  obtain ⟨tk, htk⟩ : ∃ tk, x.taken t = tk := ⟨_, rfl⟩
  have gtk : ((tk : Int) == 0) = false := by rw [beq0]; have := HF.out; rw [htk] at this; simpa using this
  have gtk2 : ¬ tk = 0 := by have := HF.out; rw [htk] at this; exact this
  rw [htk] at qt
  go_upto_region 7 with (fail)
  obtain ⟨w5, hw5⟩ : ∃ w5, w1 = w5 := ⟨_, rfl⟩
  rw [hw5]
  have HX5 : Aside0 (DocG W.heap.size f w5 xb { x with events := x.events ++ x.begins t } (.slice (some ad) x.n c) ev ga gt gw ca ct cw ∧ Mv W.heap.size (· = xb) f w f w5) := ⟨by
    have e : x.begins t = [] := by unfold X.begins; rw [if_neg HF.out]
    rw [e, List.append_nil, ← hw5]
    exact ⟨HC_.out, HM1.out⟩⟩
  obtain ⟨f5, HX5⟩ : ∃ f5, Aside0 (DocG W.heap.size f5 w5 xb { x with events := x.events ++ x.begins t } (.slice (some ad) x.n c) ev ga gt gw ca ct cw ∧ Mv W.heap.size (· = xb) f w f5 w5) := ⟨f, HX5⟩
  clear hw5 qt q2 gtk gtk2 htk
  clear HC_ HM1 HR
  have BW5 : Aside0 (Below W.heap.size W w5) := ⟨HW.out.trans (HX5.out.2.below.mono (Nat.le_refl _))⟩
  have q0 : w5.cell? ⟨xb, 0, none⟩ = some (.slice (some ad) x.n c) := HX5.out.1.c0
  have q1 : w5.cell? ⟨xb, 1, none⟩ = some (.slice (some ⟨ga, 0, none⟩) x.n ca) := HX5.out.1.c1
  have q2 : w5.cell? ⟨xb, 2, none⟩ = some (.slice (some ⟨gt, 0, none⟩) x.n ct) := HX5.out.1.c2
  have q3 : w5.cell? ⟨ga, t, none⟩ = some (.int .i64 (x.at_ t : Int)) := (HX5.out.1.at_c t HWHO.out.1).1
  have q4 : w5.cell? ⟨gt, t, none⟩ = some (.int .i64 (x.taken t : Int)) := (HX5.out.1.tk_c t HWHO.out.1).1
  have q5 := pw_cell_below BW5.out HZ.out.1
  have q6 := pw_cell_below BW5.out HZ.out.2
  have hat : x.at_ t < x.len t := HATC.out.1
  have hat2 : (x.at_ t : Int) < (x.len t : Int) := by omega
  have ix1 : decide ((x.at_ t : Int) < (x.len t : Int)) = true := decide_eq_true (by have := HATC.out.1; omega)
  refine start_ (n := 26) (S := fun w' => w'.cell? ⟨xb, 0, none⟩ = some (.slice (some ad) x.n c) ∧ w'.cell? ⟨xb, 1, none⟩ = some (.slice (some ⟨ga, 0, none⟩) x.n ca) ∧ w'.cell? ⟨xb, 2, none⟩ = some (.slice (some ⟨gt, 0, none⟩) x.n ct) ∧ w'.cell? ⟨ga, t, none⟩ = some (.int .i64 (x.at_ t : Int)) ∧ w'.cell? ⟨gt, t, none⟩ = some (.int .i64 (x.taken t : Int)) ∧ w'.cell? (ad.add t) = some (.slice (some ad0) (x.len t) c0) ∧ w'.cell? (ad0.add (x.at_ t)) = some (.slice A1 tl c1)) (ds := [25]) #[F,F,F,F,F,F,F,F,F,F,F,F,F,F,F,F,F,F,F,F,F,F,F,F,F,F] (by kernel_rfl) rfl rfl (⟨q0, q1, q2, q3, q4, q5, q6⟩) (fun hHeld => ?_)
  generalize hwd : w5.drew = wd at hHeld ⊢
  have BD : Aside0 (Below w5.heap.size w5 wd) := ⟨by rw [← hwd]; exact below_drew (Below.refl _ _)⟩
  clear q0 q1 q2 q3 q4 q5 q6 hwd
  obtain ⟨q0, q1, q2, q3, q4, q5, q6⟩ := hHeld
  have hHeld : wd.cell? ⟨xb, 0, none⟩ = some (.slice (some ad) x.n c) ∧ wd.cell? ⟨xb, 1, none⟩ = some (.slice (some ⟨ga, 0, none⟩) x.n ca) ∧ wd.cell? ⟨xb, 2, none⟩ = some (.slice (some ⟨gt, 0, none⟩) x.n ct) ∧ wd.cell? ⟨ga, t, none⟩ = some (.int .i64 (x.at_ t : Int)) ∧ wd.cell? ⟨gt, t, none⟩ = some (.int .i64 (x.taken t : Int)) ∧ wd.cell? (ad.add t) = some (.slice (some ad0) (x.len t) c0) ∧ wd.cell? (ad0.add (x.at_ t)) = some (.slice A1 tl c1) := ⟨q0, q1, q2, q3, q4, q5, q6⟩
  refine pure_ (i := 0) (N := some 61) (v := ?_) (a' := ?_) #[T,F,F,F,F,F,F,F,F,F,F,F,F,F,F,F,F,F,F,F,F,F,F,F,F,F] rfl rfl (by kernel_rfl) (fun _ _ _ h => h) (Or.inl ⟨by rfl, ?_⟩) ?_ ?_
  rotate_left
  · intro w'
    go_simp
    with_reducible rfl
  rotate_left
  · simp only [Act.put, sA, s0_, sS, i64_w, i32_w]
    rfl
  refine pure_ (i := 1) (N := some 62) (v := ?_) (a' := ?_) #[T,T,F,F,F,F,F,F,F,F,F,F,F,F,F,F,F,F,F,F,F,F,F,F,F,F] rfl rfl (by kernel_rfl) (fun _ _ _ h => h) (Or.inl ⟨by rfl, ?_⟩) ?_ ?_
  rotate_left
  · intro w'
    go_simp
    with_reducible rfl
  rotate_left
  · simp only [Act.put, sA, s0_, sS, i64_w, i32_w]
    rfl
  refine pure_ (i := 2) (N := some 63) (v := ?_) (a' := ?_) #[T,T,T,F,F,F,F,F,F,F,F,F,F,F,F,F,F,F,F,F,F,F,F,F,F,F] rfl rfl (by kernel_rfl) (fun _ _ _ h => h) (Or.inl ⟨by rfl, ?_⟩) ?_ ?_
  rotate_left
  · intro w'
    go_simp
    with_reducible rfl
  rotate_left
  · simp only [Act.put, sA, s0_, sS, i64_w, i32_w]
    rfl
  refine pure_ (i := 4) (N := some 65) (v := ?_) (a' := ?_) #[T,T,T,F,T,F,F,F,F,F,F,F,F,F,F,F,F,F,F,F,F,F,F,F,F,F] rfl rfl (by kernel_rfl) (fun _ _ _ h => h) (Or.inl ⟨by rfl, ?_⟩) ?_ ?_
  rotate_left
  · intro w'
    go_simp
    with_reducible rfl
  rotate_left
  · simp only [Act.put, sA, s0_, sS, i64_w, i32_w]
    rfl
  refine pure_ (i := 7) (N := some 68) (v := ?_) (a' := ?_) #[T,T,T,F,T,F,F,T,F,F,F,F,F,F,F,F,F,F,F,F,F,F,F,F,F,F] rfl rfl (by kernel_rfl) (fun _ _ _ h => h) (Or.inl ⟨by rfl, ?_⟩) ?_ ?_
  rotate_left
  · intro w'
    go_simp
    with_reducible rfl
  rotate_left
  · simp only [Act.put, sA, s0_, sS, i64_w, i32_w]
    rfl
  refine pure_ (i := 8) (N := some 69) (v := ?_) (a' := ?_) #[T,T,T,F,T,F,F,T,T,F,F,F,F,F,F,F,F,F,F,F,F,F,F,F,F,F] rfl rfl (by kernel_rfl) (fun _ _ _ h => h) (Or.inl ⟨by rfl, ?_⟩) ?_ ?_
  rotate_left
  · intro w'
    go_simp
    with_reducible rfl
  rotate_left
  · simp only [Act.put, sA, s0_, sS, i64_w, i32_w]
    rfl
  refine pure_ (i := 9) (N := some 70) (v := ?_) (a' := ?_) #[T,T,T,F,T,F,F,T,T,T,F,F,F,F,F,F,F,F,F,F,F,F,F,F,F,F] rfl rfl (by kernel_rfl) (fun _ _ _ h => h) (Or.inl ⟨by rfl, ?_⟩) ?_ ?_
  rotate_left
  · intro w'
    go_simp
    with_reducible rfl
  rotate_left
  · simp only [Act.put, sA, s0_, sS, i64_w, i32_w]
    rfl
  refine pure_ (i := 11) (N := some 72) (v := ?_) (a' := ?_) #[T,T,T,F,T,F,F,T,T,T,F,T,F,F,F,F,F,F,F,F,F,F,F,F,F,F] rfl rfl (by kernel_rfl) (fun _ _ _ h => h) (Or.inl ⟨by rfl, ?_⟩) ?_ ?_
  rotate_left
  · intro w'
    go_simp
    with_reducible rfl
  rotate_left
  · simp only [Act.put, sA, s0_, sS, i64_w, i32_w]
    rfl
  refine pure_ (i := 16) (N := some 77) (v := ?_) (a' := ?_) #[T,T,T,F,T,F,F,T,T,T,F,T,F,F,F,F,T,F,F,F,F,F,F,F,F,F] rfl rfl (by kernel_rfl) (fun _ _ _ h => h) (Or.inl ⟨by rfl, ?_⟩) ?_ ?_
  rotate_left
  · intro w'
    go_simp
    with_reducible rfl
  rotate_left
  · simp only [Act.put, sA, s0_, sS, i64_w, i32_w]
    rfl
  refine pure_ (i := 17) (N := some 78) (v := ?_) (a' := ?_) #[T,T,T,F,T,F,F,T,T,T,F,T,F,F,F,F,T,T,F,F,F,F,F,F,F,F] rfl rfl (by kernel_rfl) (fun _ _ _ h => h) (Or.inl ⟨by rfl, ?_⟩) ?_ ?_
  rotate_left
  · intro w'
    go_simp
    with_reducible rfl
  rotate_left
  · simp only [Act.put, sA, s0_, sS, i64_w, i32_w]
    rfl
  refine pure_ (i := 18) (N := some 79) (v := ?_) (a' := ?_) #[T,T,T,F,T,F,F,T,T,T,F,T,F,F,F,F,T,T,T,F,F,F,F,F,F,F] rfl rfl (by kernel_rfl) (fun _ _ _ h => h) (Or.inl ⟨by rfl, ?_⟩) ?_ ?_
  rotate_left
  · intro w'
    go_simp
    with_reducible rfl
  rotate_left
  · simp only [Act.put, sA, s0_, sS, i64_w, i32_w]
    rfl
  refine pure_ (i := 20) (N := some 81) (v := ?_) (a' := ?_) #[T,T,T,F,T,F,F,T,T,T,F,T,F,F,F,F,T,T,T,F,T,F,F,F,F,F] rfl rfl (by kernel_rfl) (fun _ _ _ h => h) (Or.inl ⟨by rfl, ?_⟩) ?_ ?_
  rotate_left
  · intro w'
    go_simp
    with_reducible rfl
  rotate_left
  · simp only [Act.put, sA, s0_, sS, i64_w, i32_w]
    rfl
  refine take_ (i := 3) (N := some 64) (v := ?_) (a' := ?_) #[T,T,T,T,T,F,F,T,T,T,F,T,F,F,F,F,T,T,T,F,T,F,F,F,F,F] rfl rfl (by kernel_rfl) (fun _ _ _ h => h) (Or.inl ⟨by rfl, ?_⟩) hHeld ?_ ?_
  rotate_left
  · intro w' s0
    obtain ⟨s1, s2, s3, s4, s5, s6, s7⟩ := s0
    go_simp
    with_reducible rfl
  rotate_left
  · simp only [Act.put, sA, s0_, sS, i64_w, i32_w]
    rfl
  refine pure_ (i := 5) (N := some 66) (v := ?_) (a' := ?_) #[T,T,T,T,T,T,F,T,T,T,F,T,F,F,F,F,T,T,T,F,T,F,F,F,F,F] rfl rfl (by kernel_rfl) (fun _ _ _ h => h) (Or.inl ⟨by rfl, ?_⟩) ?_ ?_
  rotate_left
  · intro w'
    go_simp
    with_reducible rfl
  rotate_left
  · simp only [Act.put, sA, s0_, sS, i64_w, i32_w]
    rfl
  refine take_ (i := 6) (N := some 67) (v := ?_) (a' := ?_) #[T,T,T,T,T,T,T,T,T,T,F,T,F,F,F,F,T,T,T,F,T,F,F,F,F,F] rfl rfl (by kernel_rfl) (fun _ _ _ h => h) (Or.inl ⟨by rfl, ?_⟩) hHeld ?_ ?_
  rotate_left
  · intro w' s0
    obtain ⟨s1, s2, s3, s4, s5, s6, s7⟩ := s0
    go_simp
    with_reducible rfl
  rotate_left
  · simp only [Act.put, sA, s0_, sS, i64_w, i32_w]
    rfl
  refine take_ (i := 10) (N := some 71) (v := ?_) (a' := ?_) #[T,T,T,T,T,T,T,T,T,T,T,T,F,F,F,F,T,T,T,F,T,F,F,F,F,F] rfl rfl (by kernel_rfl) (fun _ _ _ h => h) (Or.inl ⟨by rfl, ?_⟩) hHeld ?_ ?_
  rotate_left
  · intro w' s0
    obtain ⟨s1, s2, s3, s4, s5, s6, s7⟩ := s0
    go_simp
    with_reducible rfl
  rotate_left
  · simp only [Act.put, sA, s0_, sS, i64_w, i32_w]
    rfl
  refine pure_ (i := 12) (N := some 73) (v := ?_) (a' := ?_) #[T,T,T,T,T,T,T,T,T,T,T,T,T,F,F,F,T,T,T,F,T,F,F,F,F,F] rfl rfl (by kernel_rfl) (fun _ _ _ h => h) (Or.inl ⟨by rfl, ?_⟩) ?_ ?_
  rotate_left
  · intro w'
    go_simp
    with_reducible rfl
  rotate_left
  · simp only [Act.put, sA, s0_, sS, i64_w, i32_w]
    rfl
  refine take_ (i := 13) (N := some 74) (v := ?_) (a' := ?_) #[T,T,T,T,T,T,T,T,T,T,T,T,T,T,F,F,T,T,T,F,T,F,F,F,F,F] rfl rfl (by kernel_rfl) (fun _ _ _ h => h) (Or.inl ⟨by rfl, ?_⟩) hHeld ?_ ?_
  rotate_left
  · intro w' s0
    obtain ⟨s1, s2, s3, s4, s5, s6, s7⟩ := s0
    go_simp
    with_reducible rfl
  rotate_left
  · simp only [Act.put, sA, s0_, sS, i64_w, i32_w]
    rfl
  refine pure_ (i := 14) (N := some 75) (v := ?_) (a' := ?_) #[T,T,T,T,T,T,T,T,T,T,T,T,T,T,T,F,T,T,T,F,T,F,F,F,F,F] rfl rfl (by kernel_rfl) (fun _ _ _ h => h) (Or.inl ⟨by rfl, ?_⟩) ?_ ?_
  rotate_left
  · intro w'
    go_simp
    with_reducible rfl
  rotate_left
  · simp only [Act.put, sA, s0_, sS, i64_w, i32_w]
    rfl
  refine take_ (i := 15) (N := some 76) (v := ?_) (a' := ?_) #[T,T,T,T,T,T,T,T,T,T,T,T,T,T,T,T,T,T,T,F,T,F,F,F,F,F] rfl rfl (by kernel_rfl) (fun _ _ _ h => h) (Or.inl ⟨by rfl, ?_⟩) hHeld ?_ ?_
  rotate_left
  · intro w' s0
    obtain ⟨s1, s2, s3, s4, s5, s6, s7⟩ := s0
    go_simp
    with_reducible rfl
  rotate_left
  · simp only [Act.put, sA, s0_, sS, i64_w, i32_w]
    rfl
  refine take_ (i := 19) (N := some 80) (v := ?_) (a' := ?_) #[T,T,T,T,T,T,T,T,T,T,T,T,T,T,T,T,T,T,T,T,T,F,F,F,F,F] rfl rfl (by kernel_rfl) (fun _ _ _ h => h) (Or.inl ⟨by rfl, ?_⟩) hHeld ?_ ?_
  rotate_left
  · intro w' s0
    obtain ⟨s1, s2, s3, s4, s5, s6, s7⟩ := s0
    go_simp
    with_reducible rfl
  rotate_left
  · simp only [Act.put, sA, s0_, sS, i64_w, i32_w]
    rfl
  refine pure_ (i := 21) (N := some 82) (v := ?_) (a' := ?_) #[T,T,T,T,T,T,T,T,T,T,T,T,T,T,T,T,T,T,T,T,T,T,F,F,F,F] rfl rfl (by kernel_rfl) (fun _ _ _ h => h) (Or.inl ⟨by rfl, ?_⟩) ?_ ?_
  rotate_left
  · intro w'
    go_simp
    with_reducible rfl
  rotate_left
  · simp only [Act.put, sA, s0_, sS, i64_w, i32_w]
    rfl
  refine take_ (i := 22) (N := some 83) (v := ?_) (a' := ?_) #[T,T,T,T,T,T,T,T,T,T,T,T,T,T,T,T,T,T,T,T,T,T,T,F,F,F] rfl rfl (by kernel_rfl) (fun _ _ _ h => h) (Or.inl ⟨by rfl, ?_⟩) hHeld ?_ ?_
  rotate_left
  · intro w' s0
    obtain ⟨s1, s2, s3, s4, s5, s6, s7⟩ := s0
    go_simp
    with_reducible rfl
  rotate_left
  · simp only [Act.put, sA, s0_, sS, i64_w, i32_w]
    rfl
  refine join_ (σ := (Option Addr × Nat) × Nat) 1 #[T,T,T,T,T,T,T,T,T,T,T,T,T,T,T,T,T,T,T,T,T,T,T,T,T,F] (fun s_ => [(84, .agg #[.bool d0, .bool d1, .slice s_.1.1 wk.length s_.1.2]), (8, .pointer (some ⟨s_.2, 0, none⟩))]) (fun s_ w' => (Kd.int .i64).C W s_.1.1 wk.length wk ∧ Below wd.heap.size wd w' ∧ wd.heap.size ≤ s_.2 ∧ w'.heap[s_.2]? = some (.cells #[.bool false, .bool false, .slice none 0 0] 26 (0, 0))) ?_ ?_
  rotate_left
  · intro hCont
    refine two_ (i := 23) (j := 24) (Ni := some 84) (Nj := some 8) #[T,T,T,T,T,T,T,T,T,T,T,T,T,T,T,T,T,T,T,T,T,T,T,T,F,F] #[T,T,T,T,T,T,T,T,T,T,T,T,T,T,T,T,T,T,T,T,T,T,T,F,T,F] rfl rfl rfl rfl (by kernel_rfl) (by decide) (by decide) (fun K hK => ?_) (fun K hK => ?_)
    · skip
      refine goes_ Try.func13 (by kernel_rfl) rfl #[.slice A1 tl c1, .int .i64 (x.taken t : Int)] (by rfl) rfl rfl (by (try simp only [List.map_toArray, List.map_cons, List.map_nil]); first | done | rfl) ?_
      with_reducible refine (KT.out wd (BW5.out.trans (BD.out.mono BW5.out.size))).mono ?_
      rintro e w6 ⟨A6, c6, rfl, hC6, hb6⟩
      refine ⟨_, rfl, ?_⟩
      have C6 := Aside0.mk hC6
      have B6 := Aside0.mk hb6
      clear hC6 hb6
      refine hK.out _ _ (by exact ⟨pw_cell_below B6.out q0, pw_cell_below B6.out q1, pw_cell_below B6.out q2, pw_cell_below B6.out q3, pw_cell_below B6.out q4, pw_cell_below B6.out q5, pw_cell_below B6.out q6⟩) (fun hHeld => ?_)
      clear hK K
      refine norm_ (a' := ?_) ?_ ?_
      rotate_left
      · show Act.put _ (some 84) _ = _
        simp only [Act.put, sA, s0_, sS, i64_w, i32_w]
        rfl
      refine one_ (i := 24) (N := some 8) #[T,T,T,T,T,T,T,T,T,T,T,T,T,T,T,T,T,T,T,T,T,T,T,T,T,F] rfl rfl (by kernel_rfl) (by decide) (fun K hK => ?_)
      refine value_ (w1 := ?_) (v := ?_) (by rfl) rfl ?_ ?_
      rotate_left 2
      · go_simp
        constructor
        · rfl
        · rfl
      refine hK.out _ _ (by exact ⟨pw_cell_below (B6.out.alloc B6.out.size _) q0, pw_cell_below (B6.out.alloc B6.out.size _) q1, pw_cell_below (B6.out.alloc B6.out.size _) q2, pw_cell_below (B6.out.alloc B6.out.size _) q3, pw_cell_below (B6.out.alloc B6.out.size _) q4, pw_cell_below (B6.out.alloc B6.out.size _) q5, pw_cell_below (B6.out.alloc B6.out.size _) q6⟩) (fun hHeld => ?_)
      clear hK K
      refine norm_ (a' := ?_) ?_ ?_
      rotate_left
      · show Act.put _ (some 8) _ = _
        simp only [Act.put, sA, s0_, sS, i64_w, i32_w]
        rfl
      exact norm_ (by simp only [putAll, Act.put, sA, s0_, sS]) (hCont ((A6, c6), w6.heap.size) _ ⟨C6.out, B6.out.alloc B6.out.size _, B6.out.size, blk_new w6 _⟩)
    · skip
      refine value_ (w1 := ?_) (v := ?_) (by rfl) rfl ?_ ?_
      rotate_left 2
      · go_simp
        constructor
        · rfl
        · rfl
      refine hK.out _ _ (by exact ⟨pw_cell_below (below_alloc (Below.refl wd.heap.size wd) _) q0, pw_cell_below (below_alloc (Below.refl wd.heap.size wd) _) q1, pw_cell_below (below_alloc (Below.refl wd.heap.size wd) _) q2, pw_cell_below (below_alloc (Below.refl wd.heap.size wd) _) q3, pw_cell_below (below_alloc (Below.refl wd.heap.size wd) _) q4, pw_cell_below (below_alloc (Below.refl wd.heap.size wd) _) q5, pw_cell_below (below_alloc (Below.refl wd.heap.size wd) _) q6⟩) (fun hHeld => ?_)
      clear hK K
      refine norm_ (a' := ?_) ?_ ?_
      rotate_left
      · show Act.put _ (some 8) _ = _
        simp only [Act.put, sA, s0_, sS, i64_w, i32_w]
        rfl
      refine one_ (i := 23) (N := some 84) #[T,T,T,T,T,T,T,T,T,T,T,T,T,T,T,T,T,T,T,T,T,T,T,T,T,F] rfl rfl (by kernel_rfl) (by decide) (fun K hK => ?_)
      refine goes_ Try.func13 (by kernel_rfl) rfl #[.slice A1 tl c1, .int .i64 (x.taken t : Int)] (by rfl) rfl rfl (by (try simp only [List.map_toArray, List.map_cons, List.map_nil]); first | done | rfl) ?_
      with_reducible refine (KT.out (wd.alloc (.cells #[.bool false, .bool false, .slice none 0 0] 26)) ((BW5.out.trans (BD.out.mono BW5.out.size)).alloc (BW5.out.trans (BD.out.mono BW5.out.size)).size _)).mono ?_
      rintro e w6 ⟨A6, c6, rfl, hC6, hb6⟩
      refine ⟨_, rfl, ?_⟩
      have C6 := Aside0.mk hC6
      have B6 := Aside0.mk hb6
      clear hC6 hb6
      have B7 := Aside0.mk ((below_alloc (Below.refl wd.heap.size wd) (.cells #[.bool false, .bool false, .slice none 0 0] 26)).trans (B6.out.mono (by simp)))
      refine hK.out _ _ (by exact ⟨pw_cell_below B7.out q0, pw_cell_below B7.out q1, pw_cell_below B7.out q2, pw_cell_below B7.out q3, pw_cell_below B7.out q4, pw_cell_below B7.out q5, pw_cell_below B7.out q6⟩) (fun hHeld => ?_)
      clear hK K
      refine norm_ (a' := ?_) ?_ ?_
      rotate_left
      · show Act.put _ (some 84) _ = _
        simp only [Act.put, sA, s0_, sS, i64_w, i32_w]
        rfl
      exact norm_ (by simp only [putAll, Act.put, sA, s0_, sS]) (hCont ((A6, c6), wd.heap.size) _ ⟨C6.out, B7.out, Nat.le_refl _, blk_below (blk_new wd _) B6.out⟩)
  intro s_ w7 hF
  obtain ⟨⟨Aw, cvw⟩, bx⟩ := s_
  obtain ⟨hF1, hF2, hF3, hF4⟩ := hF
  have FC := Aside0.mk hF1
  have FB := Aside0.mk hF2
  have FS := Aside0.mk hF3
  simp only at hF4
  have FK := Aside0.mk hF4
  have j0 := blk_cell hF4 0
  have j1 := blk_cell hF4 1
  have j2 := blk_cell hF4 2
  have l0 := blk_frozen hF4 0
  have l1 := blk_frozen hF4 1
  have l2 := blk_frozen hF4 2
  clear hF1 hF2 hF3 hF4
  refine norm_ (a' := ?_) ?_ ?_
  rotate_left
  · simp only [putAll, Act.put, sA, s0_, sS]
    rfl
  refine last_ (i := 25) (N := none) #[T,T,T,T,T,T,T,T,T,T,T,T,T,T,T,T,T,T,T,T,T,T,T,T,T,T] rfl rfl (by kernel_rfl) (by decide) (fun K hK => ?_)
  refine skip_ (w1 := ?_) (by rfl) rfl ?_ ?_
  rotate_left
  · go_simp
    rfl
  refine hK.out _ _ ?_
  clear hK K
  refine done_ (by kernel_rfl) ?_
  go_upto_region 8 with (fail)
  clear q0 q1 q2 q3 q4 q5 q6 j0 j1 j2 l0 l1 l2 hat hat2 ix1
  obtain ⟨w8, hw8⟩ : ∃ w8, ((w7.setCell ⟨bx, 0, none⟩ (.bool d0)).setCell ⟨bx, 1, none⟩ (.bool d1)).setCell ⟨bx, 2, none⟩ (.slice Aw wk.length cvw) = w8 := ⟨_, rfl⟩
  rw [hw8]
  obtain ⟨f8, hf8⟩ : ∃ f8, owns f5 w5.heap.size bx = f8 := ⟨_, rfl⟩
  have HX8 : Aside0 (DocG W.heap.size f8 w8 xb { x with events := x.events ++ x.begins t } (.slice (some ad) x.n c) ev ga gt gw ca ct cw ∧ Mv W.heap.size (· = xb) f w f8 w8 ∧ w8.heap[bx]? = some (.cells #[.bool d0, .bool d1, .slice Aw wk.length cvw] 26 (0, 0)) ∧ f8 bx ≠ xb) := ⟨by
    obtain ⟨h1, h2⟩ := HX5.out
    have hbx : w5.heap.size ≤ bx := Nat.le_trans BD.out.size FS.out
    have b1 : Below w5.heap.size w5 w8 := by rw [← hw8]; exact below3 (BD.out.trans (FB.out.mono BD.out.size)) hbx _ _ _
    have m1 : ∀ o : Nat → Prop, Mv W.heap.size o f5 w5 f8 w8 := fun o => Mv.of_below b1 BW5.out.size (fun k hk => by rw [← hf8]; exact owns_old _ _ _ k hk)
    have hlt := blk_lt h1.blk
    refine ⟨h1.mv (m1 (fun _ => False)) (fun e => e), h2.trans (m1 _), by rw [← hw8]; exact put3 FK.out _ _ _, ?_⟩
    rw [← hf8, owns_new _ _ _ _ hbx]
    omega⟩
  clear hw8 hf8 HX5 FK FB FS BD KT BW5
  obtain ⟨hd0, hd1⟩ := HDD.out
  clear HDD
  subst hd0
  subst hd1
  have q2 : w8.cell? ⟨xb, 2, none⟩ = some (.slice (some ⟨gt, 0, none⟩) x.n ct) := HX8.out.1.c2
  obtain ⟨q4, l4⟩ : w8.cell? ⟨gt, t, none⟩ = some (.int .i64 (x.taken t : Int)) ∧ w8.frozen? ⟨gt, t, none⟩ = false := HX8.out.1.tk_c t HWHO.out.1
  obtain ⟨tk, htk⟩ : ∃ tk, x.taken t = tk := ⟨_, rfl⟩
  have htk2 : tk ≤ 140737488355328 := by rw [← htk]; exact HTK.out
  rw [htk] at q4
  go_upto_region 9 with (fail)
  obtain ⟨w9, hw9⟩ : ∃ w9, w8.setCell ⟨gt, t, none⟩ (.int .i64 ((tk : Int) + 1)) = w9 := ⟨_, rfl⟩
  rw [hw9]
  have HX9 : Aside0 (DocG W.heap.size f8 w9 xb { x with events := x.events ++ x.begins t, taken := upd x.taken t (x.taken t + 1) } (.slice (some ad) x.n c) ev ga gt gw ca ct cw ∧ Mv W.heap.size (· = xb) f w f8 w9 ∧ w9.heap[bx]? = some (.cells #[.bool true, .bool false, .slice Aw wk.length cvw] 26 (0, 0)) ∧ f8 bx ≠ xb) := ⟨by
    obtain ⟨h1, h2, h3, h4⟩ := HX8.out
    obtain ⟨h5, h6⟩ := h1.setTaken t (x.taken t + 1)
    have e : w8.setCell ⟨gt, t, none⟩ (.int .i64 ((x.taken t + 1 : Nat) : Int)) = w9 := by rw [htk]; exact hw9
    rw [e] at h5 h6
    exact ⟨h5, h2.trans h6, h6.blk h3 h4, h4⟩⟩
  clear q2 q4 l4 htk htk2 hw9 HX8
  have q3 : w9.cell? ⟨xb, 3, none⟩ = some (.slice (some ⟨gw, 0, none⟩) x.n cw) := HX9.out.1.c3
  obtain ⟨qw, lw4⟩ : w9.cell? ⟨gw, t, none⟩ = some (.bool (x.waits t)) ∧ w9.frozen? ⟨gw, t, none⟩ = false := HX9.out.1.w_c t HWHO.out.1
  have bk9 := HX9.out.2.2.1
  have j0 := blk_cell bk9 0
  have j1 := blk_cell bk9 1
  simp only [List.getElem?_toArray, List.getElem?_cons_zero, List.getElem?_cons_succ] at j0 j1
  clear bk9
  refine start_ (n := 14) (S := fun w' => w'.cell? ⟨xb, 3, none⟩ = some (.slice (some ⟨gw, 0, none⟩) x.n cw) ∧ w'.cell? ⟨bx, 0, none⟩ = some (.bool true) ∧ w'.cell? ⟨bx, 1, none⟩ = some (.bool false)) (ds := [13]) #[F,F,F,F,F,F,F,F,F,F,F,F,F,F] (by kernel_rfl) rfl rfl (⟨q3, j0, j1⟩) (fun hHeld => ?_)
  refine pure_ (i := 0) (N := some 94) (v := ?_) (a' := ?_) #[T,F,F,F,F,F,F,F,F,F,F,F,F,F] rfl rfl (by kernel_rfl) (fun _ _ _ h => h) (Or.inl ⟨by rfl, ?_⟩) ?_ ?_
  rotate_left
  · intro w'
    go_simp
    with_reducible rfl
  rotate_left
  · simp only [Act.put, sA, s0_, sS, i64_w, i32_w]
    rfl
  refine pure_ (i := 1) (N := some 95) (v := ?_) (a' := ?_) #[T,T,F,F,F,F,F,F,F,F,F,F,F,F] rfl rfl (by kernel_rfl) (fun _ _ _ h => h) (Or.inl ⟨by rfl, ?_⟩) ?_ ?_
  rotate_left
  · intro w'
    go_simp
    with_reducible rfl
  rotate_left
  · simp only [Act.put, sA, s0_, sS, i64_w, i32_w]
    rfl
  refine pure_ (i := 2) (N := some 96) (v := ?_) (a' := ?_) #[T,T,T,F,F,F,F,F,F,F,F,F,F,F] rfl rfl (by kernel_rfl) (fun _ _ _ h => h) (Or.inl ⟨by rfl, ?_⟩) ?_ ?_
  rotate_left
  · intro w'
    go_simp
    with_reducible rfl
  rotate_left
  · simp only [Act.put, sA, s0_, sS, i64_w, i32_w]
    rfl
  refine take_ (i := 3) (N := some 97) (v := ?_) (a' := ?_) #[T,T,T,T,F,F,F,F,F,F,F,F,F,F] rfl rfl (by kernel_rfl) (fun _ _ _ h => h) (Or.inl ⟨by rfl, ?_⟩) hHeld ?_ ?_
  rotate_left
  · intro w' s0
    obtain ⟨s1, s2, s3⟩ := s0
    go_simp
    with_reducible rfl
  rotate_left
  · simp only [Act.put, sA, s0_, sS, i64_w, i32_w]
    rfl
  refine pure_ (i := 4) (N := some 98) (v := ?_) (a' := ?_) #[T,T,T,T,T,F,F,F,F,F,F,F,F,F] rfl rfl (by kernel_rfl) (fun _ _ _ h => h) (Or.inl ⟨by rfl, ?_⟩) ?_ ?_
  rotate_left
  · intro w'
    go_simp
    with_reducible rfl
  rotate_left
  · simp only [Act.put, sA, s0_, sS, i64_w, i32_w]
    rfl
  refine pure_ (i := 5) (N := some 99) (v := ?_) (a' := ?_) #[T,T,T,T,T,T,F,F,F,F,F,F,F,F] rfl rfl (by kernel_rfl) (fun _ _ _ h => h) (Or.inl ⟨by rfl, ?_⟩) ?_ ?_
  rotate_left
  · intro w'
    go_simp
    with_reducible rfl
  rotate_left
  · simp only [Act.put, sA, s0_, sS, i64_w, i32_w]
    rfl
  refine take_ (i := 6) (N := some 100) (v := ?_) (a' := ?_) #[T,T,T,T,T,T,T,F,F,F,F,F,F,F] rfl rfl (by kernel_rfl) (fun _ _ _ h => h) (Or.inl ⟨by rfl, ?_⟩) hHeld ?_ ?_
  rotate_left
  · intro w' s0
    obtain ⟨s1, s2, s3⟩ := s0
    go_simp
    with_reducible rfl
  rotate_left
  · simp only [Act.put, sA, s0_, sS, i64_w, i32_w]
    rfl
  refine pure_ (i := 7) (N := some 101) (v := ?_) (a' := ?_) #[T,T,T,T,T,T,T,T,F,F,F,F,F,F] rfl rfl (by kernel_rfl) (fun _ _ _ h => h) (Or.inl ⟨by rfl, ?_⟩) ?_ ?_
  rotate_left
  · intro w'
    go_simp
    with_reducible rfl
  rotate_left
  · simp only [Act.put, sA, s0_, sS, i64_w, i32_w]
    rfl
  refine pure_ (i := 8) (N := some 102) (v := undef) (a' := ?_) #[T,T,T,T,T,T,T,T,T,F,F,F,F,F] rfl rfl (by kernel_rfl) (fun _ _ _ h => h) (Or.inr ⟨by rfl, rfl⟩) ?_ ?_
  rotate_left
  · simp only [Act.put, sA, s0_, sS, i64_w, i32_w]
    rfl
  refine pure_ (i := 9) (N := some 103) (v := undef) (a' := ?_) #[T,T,T,T,T,T,T,T,T,T,F,F,F,F] rfl rfl (by kernel_rfl) (fun _ _ _ h => h) (Or.inr ⟨by rfl, rfl⟩) ?_ ?_
  rotate_left
  · simp only [Act.put, sA, s0_, sS, i64_w, i32_w]
    rfl
  refine pure_ (i := 10) (N := some 104) (v := undef) (a' := ?_) #[T,T,T,T,T,T,T,T,T,T,T,F,F,F] rfl rfl (by kernel_rfl) (fun _ _ _ h => h) (Or.inr ⟨by rfl, rfl⟩) ?_ ?_
  rotate_left
  · simp only [Act.put, sA, s0_, sS, i64_w, i32_w]
    rfl
  refine pure_ (i := 11) (N := some 105) (v := ?_) (a' := ?_) #[T,T,T,T,T,T,T,T,T,T,T,T,F,F] rfl rfl (by kernel_rfl) (fun _ _ _ h => h) (Or.inl ⟨by rfl, ?_⟩) ?_ ?_
  rotate_left
  · intro w'
    go_simp
    with_reducible rfl
  rotate_left
  · simp only [Act.put, sA, s0_, sS, i64_w, i32_w]
    rfl
  refine pure_ (i := 12) (N := some 106) (v := ?_) (a' := ?_) #[T,T,T,T,T,T,T,T,T,T,T,T,T,F] rfl rfl (by kernel_rfl) (fun _ _ _ h => h) (Or.inl ⟨by rfl, ?_⟩) ?_ ?_
  rotate_left
  · intro w'
    go_simp
    with_reducible rfl
  rotate_left
  · simp only [Act.put, sA, s0_, sS, i64_w, i32_w]
    rfl
  refine last_ (i := 13) (N := none) #[T,T,T,T,T,T,T,T,T,T,T,T,T,T] rfl rfl (by kernel_rfl) (by decide) (fun K hK => ?_)
  refine skip_ (w1 := ?_) (by rfl) rfl ?_ ?_
  rotate_left
  · go_simp
    rfl
  refine hK.out _ _ ?_
  clear hK K
  refine done_ (by kernel_rfl) ?_
  go_upto_region 10 with (fail)
  clear q3 qw lw4 j0 j1
  obtain ⟨w10, hw10⟩ : ∃ w10, (w9.setCell ⟨gw, t, none⟩ (.bool false)).drew = w10 := ⟨_, rfl⟩
  rw [hw10]
  have HX10 : Aside0 (DocG W.heap.size f8 w10 xb { x with events := x.events ++ x.begins t, taken := upd x.taken t (x.taken t + 1), waits := upd x.waits t false } (.slice (some ad) x.n c) ev ga gt gw ca ct cw ∧ Mv W.heap.size (· = xb) f w f8 w10 ∧ w10.heap[bx]? = some (.cells #[.bool true, .bool false, .slice Aw wk.length cvw] 26 (0, 0)) ∧ f8 bx ≠ xb) := ⟨by
    obtain ⟨h1, h2, h3, h4⟩ := HX9.out
    obtain ⟨h5, h6⟩ := h1.setWaits t false
    rw [← hw10]
    exact ⟨h5.below (below_drew (Below.refl _ _)), (h2.trans h6).drewN 1, h6.blk h3 h4, h4⟩⟩
  clear hw10 HX9
  have bk10 := HX10.out.2.2.1
  have j0 := blk_cell bk10 0
  simp only [List.getElem?_toArray, List.getElem?_cons_zero] at j0
  clear bk10
  go_upto_region 11 with (fail)
  clear j0
  obtain ⟨es, hes⟩ : ∃ es, x.events ++ x.begins t = es := ⟨_, rfl⟩
  have HC0 := HX10.out.1
  rw [hes] at HC0
  obtain ⟨me, hme⟩ : ∃ me, es.length = me := ⟨_, rfl⟩
  obtain ⟨Ae, ce, hee⟩ : ∃ Ae ce, ev = Value.slice Ae me ce := by
    obtain ⟨Ae, ce, hee⟩ := Kd.R_slice HC0.erow
    exact ⟨Ae, ce, by rw [← hme]; exact hee⟩
  have HME := Aside0.mk hme
  have HC_ : Aside0 (DocG W.heap.size f8 w10 xb { x with events := es, taken := upd x.taken t (x.taken t + 1), waits := upd x.waits t false } (.slice (some ad) x.n c) (.slice Ae me ce) ga gt gw ca ct cw) := ⟨by rw [← hee]; exact HC0⟩
  clear HC0 hee hme
  have n5 : w10.cell? ⟨xb, 5, none⟩ = some (.slice Ae me ce) := HC_.out.c5
  have n4 : w10.cell? ⟨xb, 4, none⟩ = some (.int .i64 x.steps) := HC_.out.c4
  have n1 : w10.cell? ⟨xb, 1, none⟩ = some (.slice (some ⟨ga, 0, none⟩) x.n ca) := HC_.out.c1
  have nt : w10.cell? ⟨ga, t, none⟩ = some (.int .i64 (x.at_ t : Int)) := (HC_.out.at_c t HWHO.out.1).1
  have hBs : Aside0 (W.heap.size ≤ w10.heap.size) := ⟨Nat.le_trans HW.out.size HX10.out.2.1.below.size⟩
  have HL : Aside0 ((es.length + 1) * 32 ≤ 140737488355328) := ⟨by rw [← hes]; exact few_of HEV.out⟩
  have RE : Aside0 (k51.R 51 w10.drew W.heap.size (fun k => owns f8 w10.heap.size xb k = xb) (.slice Ae me ce) es) := ⟨by
    have h1 := Kd.R_bound HC_.out.erow
    exact Kd.R_mono h1 (fun k hk => (owns_old f8 _ _ k hk.2.2.1).trans hk.1)⟩
  refine start_ (n := 23) (S := fun w' => w'.cell? ⟨xb, 5, none⟩ = some (.slice Ae me ce) ∧ w'.cell? ⟨xb, 4, none⟩ = some (.int .i64 x.steps) ∧ w'.cell? ⟨xb, 1, none⟩ = some (.slice (some ⟨ga, 0, none⟩) x.n ca) ∧ w'.cell? ⟨ga, t, none⟩ = some (.int .i64 (x.at_ t : Int))) (ds := [19, 22]) #[F,F,F,F,F,F,F,F,F,F,F,F,F,F,F,F,F,F,F,F,F,F,F] (by kernel_rfl) rfl rfl (⟨n5, n4, n1, nt⟩) (fun hHeld => ?_)
  generalize hwd : w10.drew = wd at hHeld ⊢
  have BD : Aside0 (Below w10.heap.size w10 wd) := ⟨by rw [← hwd]; exact below_drew (Below.refl _ _)⟩
  have RED := Aside0.mk (RE.out)
  rw [hwd] at RED
  have HWD := Aside0.mk hwd
  clear hwd
  refine pure_ (i := 0) (N := some 109) (v := ?_) (a' := ?_) #[T,F,F,F,F,F,F,F,F,F,F,F,F,F,F,F,F,F,F,F,F,F,F] rfl rfl (by kernel_rfl) (fun _ _ _ h => h) (Or.inl ⟨by rfl, ?_⟩) ?_ ?_
  rotate_left
  · intro w'
    go_simp
    with_reducible rfl
  rotate_left
  · simp only [Act.put, sA, s0_, sS, i64_w, i32_w]
    rfl
  refine pure_ (i := 1) (N := some 110) (v := ?_) (a' := ?_) #[T,T,F,F,F,F,F,F,F,F,F,F,F,F,F,F,F,F,F,F,F,F,F] rfl rfl (by kernel_rfl) (fun _ _ _ h => h) (Or.inl ⟨by rfl, ?_⟩) ?_ ?_
  rotate_left
  · intro w'
    go_simp
    with_reducible rfl
  rotate_left
  · simp only [Act.put, sA, s0_, sS, i64_w, i32_w]
    rfl
  refine pure_ (i := 2) (N := some 111) (v := ?_) (a' := ?_) #[T,T,T,F,F,F,F,F,F,F,F,F,F,F,F,F,F,F,F,F,F,F,F] rfl rfl (by kernel_rfl) (fun _ _ _ h => h) (Or.inl ⟨by rfl, ?_⟩) ?_ ?_
  rotate_left
  · intro w'
    go_simp
    with_reducible rfl
  rotate_left
  · simp only [Act.put, sA, s0_, sS, i64_w, i32_w]
    rfl
  refine pure_ (i := 3) (N := some 112) (v := ?_) (a' := ?_) #[T,T,T,T,F,F,F,F,F,F,F,F,F,F,F,F,F,F,F,F,F,F,F] rfl rfl (by kernel_rfl) (fun _ _ _ h => h) (Or.inl ⟨by rfl, ?_⟩) ?_ ?_
  rotate_left
  · intro w'
    go_simp
    with_reducible rfl
  rotate_left
  · simp only [Act.put, sA, s0_, sS, i64_w, i32_w]
    rfl
  refine pure_ (i := 5) (N := some 114) (v := ?_) (a' := ?_) #[T,T,T,T,F,T,F,F,F,F,F,F,F,F,F,F,F,F,F,F,F,F,F] rfl rfl (by kernel_rfl) (fun _ _ _ h => h) (Or.inl ⟨by rfl, ?_⟩) ?_ ?_
  rotate_left
  · intro w'
    go_simp
    with_reducible rfl
  rotate_left
  · simp only [Act.put, sA, s0_, sS, i64_w, i32_w]
    rfl
  refine pure_ (i := 6) (N := some 115) (v := ?_) (a' := ?_) #[T,T,T,T,F,T,T,F,F,F,F,F,F,F,F,F,F,F,F,F,F,F,F] rfl rfl (by kernel_rfl) (fun _ _ _ h => h) (Or.inl ⟨by rfl, ?_⟩) ?_ ?_
  rotate_left
  · intro w'
    go_simp
    with_reducible rfl
  rotate_left
  · simp only [Act.put, sA, s0_, sS, i64_w, i32_w]
    rfl
  refine pure_ (i := 7) (N := some 116) (v := ?_) (a' := ?_) #[T,T,T,T,F,T,T,T,F,F,F,F,F,F,F,F,F,F,F,F,F,F,F] rfl rfl (by kernel_rfl) (fun _ _ _ h => h) (Or.inl ⟨by rfl, ?_⟩) ?_ ?_
  rotate_left
  · intro w'
    go_simp
    with_reducible rfl
  rotate_left
  · simp only [Act.put, sA, s0_, sS, i64_w, i32_w]
    rfl
  refine pure_ (i := 9) (N := some 118) (v := ?_) (a' := ?_) #[T,T,T,T,F,T,T,T,F,T,F,F,F,F,F,F,F,F,F,F,F,F,F] rfl rfl (by kernel_rfl) (fun _ _ _ h => h) (Or.inl ⟨by rfl, ?_⟩) ?_ ?_
  rotate_left
  · intro w'
    go_simp
    with_reducible rfl
  rotate_left
  · simp only [Act.put, sA, s0_, sS, i64_w, i32_w]
    rfl
  refine pure_ (i := 10) (N := some 119) (v := ?_) (a' := ?_) #[T,T,T,T,F,T,T,T,F,T,T,F,F,F,F,F,F,F,F,F,F,F,F] rfl rfl (by kernel_rfl) (fun _ _ _ h => h) (Or.inl ⟨by rfl, ?_⟩) ?_ ?_
  rotate_left
  · intro w'
    go_simp
    with_reducible rfl
  rotate_left
  · simp only [Act.put, sA, s0_, sS, i64_w, i32_w]
    rfl
  refine pure_ (i := 11) (N := some 120) (v := ?_) (a' := ?_) #[T,T,T,T,F,T,T,T,F,T,T,T,F,F,F,F,F,F,F,F,F,F,F] rfl rfl (by kernel_rfl) (fun _ _ _ h => h) (Or.inl ⟨by rfl, ?_⟩) ?_ ?_
  rotate_left
  · intro w'
    go_simp
    with_reducible rfl
  rotate_left
  · simp only [Act.put, sA, s0_, sS, i64_w, i32_w]
    rfl
  refine pure_ (i := 12) (N := some 121) (v := ?_) (a' := ?_) #[T,T,T,T,F,T,T,T,F,T,T,T,T,F,F,F,F,F,F,F,F,F,F] rfl rfl (by kernel_rfl) (fun _ _ _ h => h) (Or.inl ⟨by rfl, ?_⟩) ?_ ?_
  rotate_left
  · intro w'
    go_simp
    with_reducible rfl
  rotate_left
  · simp only [Act.put, sA, s0_, sS, i64_w, i32_w]
    rfl
  refine pure_ (i := 14) (N := some 123) (v := ?_) (a' := ?_) #[T,T,T,T,F,T,T,T,F,T,T,T,T,F,T,F,F,F,F,F,F,F,F] rfl rfl (by kernel_rfl) (fun _ _ _ h => h) (Or.inl ⟨by rfl, ?_⟩) ?_ ?_
  rotate_left
  · intro w'
    go_simp
    with_reducible rfl
  rotate_left
  · simp only [Act.put, sA, s0_, sS, i64_w, i32_w]
    rfl
  refine take_ (i := 4) (N := some 113) (v := ?_) (a' := ?_) #[T,T,T,T,T,T,T,T,F,T,T,T,T,F,T,F,F,F,F,F,F,F,F] rfl rfl (by kernel_rfl) (fun _ _ _ h => h) (Or.inl ⟨by rfl, ?_⟩) hHeld ?_ ?_
  rotate_left
  · intro w' s0
    obtain ⟨s1, s2, s3, s4⟩ := s0
    go_simp
    with_reducible rfl
  rotate_left
  · simp only [Act.put, sA, s0_, sS, i64_w, i32_w]
    rfl
  refine take_ (i := 8) (N := some 117) (v := ?_) (a' := ?_) #[T,T,T,T,T,T,T,T,T,T,T,T,T,F,T,F,F,F,F,F,F,F,F] rfl rfl (by kernel_rfl) (fun _ _ _ h => h) (Or.inl ⟨by rfl, ?_⟩) hHeld ?_ ?_
  rotate_left
  · intro w' s0
    obtain ⟨s1, s2, s3, s4⟩ := s0
    go_simp
    with_reducible rfl
  rotate_left
  · simp only [Act.put, sA, s0_, sS, i64_w, i32_w]
    rfl
  refine take_ (i := 13) (N := some 122) (v := ?_) (a' := ?_) #[T,T,T,T,T,T,T,T,T,T,T,T,T,T,T,F,F,F,F,F,F,F,F] rfl rfl (by kernel_rfl) (fun _ _ _ h => h) (Or.inl ⟨by rfl, ?_⟩) hHeld ?_ ?_
  rotate_left
  · intro w' s0
    obtain ⟨s1, s2, s3, s4⟩ := s0
    go_simp
    with_reducible rfl
  rotate_left
  · simp only [Act.put, sA, s0_, sS, i64_w, i32_w]
    rfl
  refine pure_ (i := 15) (N := some 124) (v := ?_) (a' := ?_) #[T,T,T,T,T,T,T,T,T,T,T,T,T,T,T,T,F,F,F,F,F,F,F] rfl rfl (by kernel_rfl) (fun _ _ _ h => h) (Or.inl ⟨by rfl, ?_⟩) ?_ ?_
  rotate_left
  · intro w'
    go_simp
    with_reducible rfl
  rotate_left
  · simp only [Act.put, sA, s0_, sS, i64_w, i32_w]
    rfl
  refine take_ (i := 16) (N := some 125) (v := ?_) (a' := ?_) #[T,T,T,T,T,T,T,T,T,T,T,T,T,T,T,T,T,F,F,F,F,F,F] rfl rfl (by kernel_rfl) (fun _ _ _ h => h) (Or.inl ⟨by rfl, ?_⟩) hHeld ?_ ?_
  rotate_left
  · intro w' s0
    obtain ⟨s1, s2, s3, s4⟩ := s0
    go_simp
    with_reducible rfl
  rotate_left
  · simp only [Act.put, sA, s0_, sS, i64_w, i32_w]
    rfl
  refine pure_ (i := 17) (N := some 126) (v := ?_) (a' := ?_) #[T,T,T,T,T,T,T,T,T,T,T,T,T,T,T,T,T,T,F,F,F,F,F] rfl rfl (by kernel_rfl) (fun _ _ _ h => h) (Or.inl ⟨by rfl, ?_⟩) ?_ ?_
  rotate_left
  · intro w'
    go_simp
    with_reducible rfl
  rotate_left
  · simp only [Act.put, sA, s0_, sS, i64_w, i32_w]
    rfl
  refine one_ (i := 18) (N := some 127) #[T,T,T,T,T,T,T,T,T,T,T,T,T,T,T,T,T,T,T,F,F,F,F] rfl rfl (by kernel_rfl) (by decide) (fun K hK => ?_)
  refine value_ (w1 := ?_) (v := ?_) (by rfl) rfl ?_ ?_
  rotate_left 2
  · go_simp
    constructor
    · rfl
    · rfl
  refine hK.out _ _ (by exact ⟨pw_cell_below (below_alloc BD.out _) n5, pw_cell_below (below_alloc BD.out _) n4, pw_cell_below (below_alloc BD.out _) n1, pw_cell_below (below_alloc BD.out _) nt⟩) (fun hHeld => ?_)
  clear hK K
  refine norm_ (a' := ?_) ?_ ?_
  rotate_left
  · show Act.put _ (some 127) _ = _
    simp only [Act.put, sA, s0_, sS, i64_w, i32_w]
    rfl
  refine last_ (i := 19) (N := some 128) #[T,T,T,T,T,T,T,T,T,T,T,T,T,T,T,T,T,T,T,T,F,F,F] rfl rfl (by kernel_rfl) (by decide) (fun K hK => ?_)
  refine Kd.R_append_step k51 (w0 := wd) W.heap.size (by rfl) (.tmp 113) (.tmp 127) 47 51 (.agg #[.int .i64 0, .int .i64 0, .int .i64 0, .bool false]) 32 rfl Try.underlying47 info51' rfl (by decide) (by decide) (.slice Ae me ce) es ⟨x.steps, t, x.at_ t, true⟩ [.int .i64 x.steps, .int .i64 (t : Int), .int .i64 (x.at_ t : Int), .bool true] (fun k => owns f8 w10.heap.size xb k = xb) (fun _ => False) rfl rfl (k51_mkM _ _ _ _) (fun _ h => h.elim) (fun k hk => owns_new _ _ _ _ (Nat.le_trans BD.out.size hk)) RED.out (Below.refl _ _) (Nat.le_trans hBs.out BD.out.size) HL.out ?_
  intro v1 w4 hR4 hb4 hg4 hat4
  obtain ⟨A4, c4, hv4⟩ := Kd.R_slice hR4
  rw [List.length_append, List.length_singleton, HME.out] at hv4
  subst hv4
  have R4 := Aside0.mk hR4
  have B4 := Aside0.mk hb4
  have G4 := Aside0.mk hg4
  clear hR4 hb4 hg4 hat4
  refine hK.out _ _ ?_
  clear hK K
  refine norm_ (a' := ?_) ?_ ?_
  rotate_left
  · show Act.put _ (some 128) _ = _
    simp only [Act.put, sA, s0_, sS, i64_w, i32_w]
    rfl
  refine pure_ (i := 20) (N := some 129) (v := ?_) (a' := ?_) #[T,T,T,T,T,T,T,T,T,T,T,T,T,T,T,T,T,T,T,T,T,F,F] rfl rfl (by kernel_rfl) (fun _ _ _ h => h) (Or.inl ⟨by rfl, ?_⟩) ?_ ?_
  rotate_left
  · intro w'
    go_simp
    with_reducible rfl
  rotate_left
  · simp only [Act.put, sA, s0_, sS, i64_w, i32_w]
    rfl
  refine pure_ (i := 21) (N := some 130) (v := ?_) (a' := ?_) #[T,T,T,T,T,T,T,T,T,T,T,T,T,T,T,T,T,T,T,T,T,T,F] rfl rfl (by kernel_rfl) (fun _ _ _ h => h) (Or.inl ⟨by rfl, ?_⟩) ?_ ?_
  rotate_left
  · intro w'
    go_simp
    with_reducible rfl
  rotate_left
  · simp only [Act.put, sA, s0_, sS, i64_w, i32_w]
    rfl
  have b4 := blk_grown (blk_below HC_.out.blk BD.out) G4.out (Kd.R_ne HC_.out.erow HC_.out.blk (by decide))
  have y4 := blk_cell b4 5
  have f4 := blk_frozen b4 5
  clear b4
  refine last_ (i := 22) (N := none) #[T,T,T,T,T,T,T,T,T,T,T,T,T,T,T,T,T,T,T,T,T,T,T] rfl rfl (by kernel_rfl) (by decide) (fun K hK => ?_)
  refine skip_ (w1 := ?_) (by rfl) rfl ?_ ?_
  rotate_left
  · go_simp
    rfl
  refine hK.out _ _ ?_
  clear hK K
  refine done_ (by kernel_rfl) ?_
  go_upto_region 12 with (fail)
  obtain ⟨w11, hw11⟩ : ∃ w11, w4.setCell ⟨xb, 5, none⟩ (.slice A4 (me + 1) c4) = w11 := ⟨_, rfl⟩
  rw [hw11]
  obtain ⟨f11, hf11⟩ : ∃ f11, owns f8 w10.heap.size xb = f11 := ⟨_, rfl⟩
  have HX11 : Aside0 (DocG W.heap.size f11 w11 xb { x with events := es ++ [⟨x.steps, t, x.at_ t, true⟩], taken := upd x.taken t (x.taken t + 1), waits := upd x.waits t false } (.slice (some ad) x.n c) (.slice A4 (me + 1) c4) ga gt gw ca ct cw ∧ Mv W.heap.size (· = xb) f w f11 w11 ∧ w11.heap[bx]? = some (.cells #[.bool true, .bool false, .slice Aw wk.length cvw] 26 (0, 0)) ∧ f11 bx ≠ xb) := ⟨by
    have g := G4.out
    rw [← HWD.out] at g
    obtain ⟨h1, h2⟩ := HC_.out.noted 1 R4.out g
    rw [hw11, hf11] at h1 h2
    obtain ⟨_, h3, h4, h5⟩ := HX10.out
    exact ⟨h1, h3.trans h2, h2.blk h4 h5, by rw [h2.own_at h4]; exact h5⟩⟩
  clear hf11 hw11 n5 n4 n1 nt y4 f4 RE RED HL HC_ HX10
  have n1 : w11.cell? ⟨xb, 1, none⟩ = some (.slice (some ⟨ga, 0, none⟩) x.n ca) := HX11.out.1.c1
  obtain ⟨nt, lt⟩ : w11.cell? ⟨ga, t, none⟩ = some (.int .i64 (x.at_ t : Int)) ∧ w11.frozen? ⟨ga, t, none⟩ = false := HX11.out.1.at_c t HWHO.out.1
  obtain ⟨a, ha⟩ : ∃ a, x.at_ t = a := ⟨_, rfl⟩
  have ha2 : a ≤ 256 := by rw [← ha]; have := HATC.out; omega
  rw [ha] at nt
  go_upto_region 13 with (fail)
  obtain ⟨w12, hw12⟩ : ∃ w12, w11.setCell ⟨ga, t, none⟩ (.int .i64 ((a : Int) + 1)) = w12 := ⟨_, rfl⟩
  rw [hw12]
  have HX12 : Aside0 (DocG W.heap.size f11 w12 xb { x with events := es ++ [⟨x.steps, t, x.at_ t, true⟩], taken := upd x.taken t (x.taken t + 1), waits := upd x.waits t false, at_ := upd x.at_ t (x.at_ t + 1) } (.slice (some ad) x.n c) (.slice A4 (me + 1) c4) ga gt gw ca ct cw ∧ Mv W.heap.size (· = xb) f w f11 w12 ∧ w12.heap[bx]? = some (.cells #[.bool true, .bool false, .slice Aw wk.length cvw] 26 (0, 0)) ∧ f11 bx ≠ xb) := ⟨by
    obtain ⟨h1, h2, h3, h4⟩ := HX11.out
    obtain ⟨h5, h6⟩ := h1.setAt t (x.at_ t + 1)
    have e : w11.setCell ⟨ga, t, none⟩ (.int .i64 ((x.at_ t + 1 : Nat) : Int)) = w12 := by rw [ha]; exact hw12
    rw [e] at h5 h6
    exact ⟨h5, h2.trans h6, h6.blk h3 h4, h4⟩⟩
  clear n1 nt lt ha ha2 hw12 HX11
  have q2 : w12.cell? ⟨xb, 2, none⟩ = some (.slice (some ⟨gt, 0, none⟩) x.n ct) := HX12.out.1.c2
  obtain ⟨q4, l4⟩ := HX12.out.1.tk_c t HWHO.out.1
  obtain ⟨tz, htz⟩ : ∃ tz : Nat, upd x.taken t (x.taken t + 1) t = tz := ⟨_, rfl⟩
  have q4' : w12.cell? ⟨gt, t, none⟩ = some (.int .i64 (tz : Int)) := by rw [← htz]; exact q4
  clear q4 htz
  go_upto_region 14 with (fail)
  obtain ⟨w13, hw13⟩ : ∃ w13, w12.setCell ⟨gt, t, none⟩ (.int .i64 0) = w13 := ⟨_, rfl⟩
  rw [hw13]
  obtain ⟨mx, hmx⟩ : ∃ mx : X, { x with events := es ++ [⟨x.steps, t, x.at_ t, true⟩], taken := upd (upd x.taken t (x.taken t + 1)) t 0, waits := upd x.waits t false, at_ := upd x.at_ t (x.at_ t + 1) } = mx := ⟨_, rfl⟩
  have S0 : Aside0 (DWak W.heap.size f w xb mx (.slice (some ad) x.n c) ga gt gw ca ct cw bx #[.bool true, .bool false, .slice Aw wk.length cvw] wk 0 w13) := ⟨by
    obtain ⟨h1, h2, h3, h4⟩ := HX12.out
    obtain ⟨h5, h6⟩ := h1.setTaken t 0
    have e : w12.setCell ⟨gt, t, none⟩ (.int .i64 ((0 : Nat) : Int)) = w13 := hw13
    rw [e] at h5 h6
    rw [← hmx]
    exact DWak.start h5 (h2.trans h6) (h6.blk h3 h4) h4⟩
  have EQ : Aside0 (x.step t = { mx with waits := woke wk mx.waits, steps := wrap64 (x.steps + 1) }) := ⟨by
    have hb : x.ends t = [⟨x.steps, t, x.at_ t, true⟩] := by unfold X.ends; rw [HD.out]; rfl
    rw [← hmx, ← hes]
    unfold X.step
    rw [HD.out, hb]
    rw [upd_upd]
    rfl⟩
  clear hw13 HX12 q2 l4 q4'
  have HMX : Aside0 (mx.n = x.n ∧ mx.steps = x.steps) := ⟨by rw [← hmx]; exact ⟨rfl, rfl⟩⟩
  obtain ⟨lw, hlw⟩ : ∃ lw, wk.length = lw := ⟨_, rfl⟩
  have HLW := Aside0.mk hlw
  have hlw63 : lw ≤ 9223372036854775807 := by rw [← hlw]; exact FC.out.2.1
  rw [hlw] at S0
  clear hmx hlw
  go_wp2
  go_loopw [9, 10] (fun idx v wr => ∃ k : Nat, k ≤ lw ∧ idx = .int .i64 (k : Int) ∧ Aside0 (DWak W.heap.size f w xb mx (.slice (some ad) x.n c) ga gt gw ca ct cw bx #[.bool true, .bool false, .slice Aw lw cvw] wk k wr)) (fun idx _ _ => lw - (intOf idx).toNat)
  case atStart => exact ⟨0, Nat.zero_le _, rfl, S0⟩
  case round =>
    obtain ⟨k, hk, rfl, SK⟩ := hrel
    obtain ⟨f', ev', h1, h2, h3, h4⟩ := SK.out
    have j2 := blk_cell h3 2
    simp only [List.getElem?_toArray, List.getElem?_cons_zero, List.getElem?_cons_succ] at j2
    by_cases hlt : k < lw
    · have HBR : Aside0 (Below W.heap.size W wr) := ⟨HW.out.trans h2.below⟩
      obtain ⟨adw, eadw, cz⟩ := (Kd.reads_of_C (d := 0) (Kd.C_below FC.out HBR.out)).at_ (k : Int) (by omega) (by have := HLW.out; omega)
      simp only [Int.toNat_natCast, rdOf] at cz
      have q3 : wr.cell? ⟨xb, 3, none⟩ = some (.slice (some ⟨gw, 0, none⟩) x.n cw) := by have h := h1.c3; rw [show ({ mx with waits := woke (wk.take k) mx.waits } : X).n = x.n from HMX.out.1] at h; exact h
      have hkl : k < wk.length := by rw [HLW.out]; exact hlt
      obtain ⟨z, hz⟩ : ∃ z, wk.getD k 0 = z := ⟨_, rfl⟩
      rw [hz] at cz
      subst eadw
      have ix : decide ((k : Int) < (lw : Int)) = true := decide_eq_true (by omega)
      by_cases hz0 : 0 ≤ z
      · obtain ⟨u, rfl⟩ : ∃ u : Nat, z = (u : Int) := ⟨z.toNat, by omega⟩
        by_cases hun : u < x.n
        · obtain ⟨c3', c4'⟩ := h1.w_c u (by show u < mx.n; rw [HMX.out.1]; exact hun)
          have SK1 := Aside0.mk (SK.out.in_ hkl u hz)
          have i1 : decide ((u : Int) < (x.n : Int)) = true := decide_eq_true (by omega)
          clear h1 h2 h3 h4 hkl hz
          go_wp2
          go_roundw
          case rel => exact ⟨k + 1, by omega, by go_num, SK1⟩
          case measure => simp [intOf]; omega
        · have SK1 := Aside0.mk (SK.out.out hkl (fun s hs e => by rw [hz] at e; have := HMX.out.1; omega))
          have i1 : decide ((u : Int) < (x.n : Int)) = false := decide_eq_false (by omega)
          clear h1 h2 h3 h4 hkl hz
          go_wp2
          go_roundw
          case rel => exact ⟨k + 1, by omega, by go_num, SK1⟩
          case measure => simp [intOf]; omega
      · have SK1 := Aside0.mk (SK.out.out hkl (fun s hs e => by rw [hz] at e; omega))
        have i1 : decide (0 ≤ z) = false := decide_eq_false hz0
        clear h1 h2 h3 h4 hkl hz
        go_wp2
        go_roundw
        case rel => exact ⟨k + 1, by omega, by go_num, SK1⟩
        case measure => simp [intOf]; omega
    · have hkl : k = lw := by omega
      subst hkl
      have HE := Aside0.mk (show DWak W.heap.size f w xb mx (.slice (some ad) x.n c) ga gt gw ca ct cw bx #[.bool true, .bool false, .slice Aw k cvw] wk wk.length wr by rw [HLW.out]; exact SK.out)
      have q4 : wr.cell? ⟨xb, 4, none⟩ = some (.int .i64 x.steps) := by have h := h1.c4; rw [show ({ mx with waits := woke (wk.take k) mx.waits } : X).steps = x.steps from HMX.out.2] at h; exact h
      have l4 := blk_frozen h1.blk 4
      clear h1 h2 h3 h4
      go_wp2
      go_ret2
      refine ⟨rfl, ?_⟩
      rw [EQ.out]
      have hE := HE.out.end_ (wrap64 (x.steps + 1))
      rw [← HMX.out.1] at hE
      exact hE
set_option maxHeartbeats 8000000 in
set_option maxRecDepth 100000 in
theorem docstepGtf {W w : World} {f : Owner} {xb : Nat} {x : X} {ev : Value} {ga gt gw ca ct cw c : Nat} {A : Option Addr} {calls : List (List (List S26))} (h : DocG W.heap.size f w xb x (.slice A x.n c) ev ga gt gw ca ct cw) (hI : Is calls x) (hC : (Kd.slice 22 (Kd.slice 26 k26)).C W A calls.length calls) (hW : Below W.heap.size W w) (ok : x.Ok) (p : Int) (hp : x.pickable p = true) (t : Nat) (ht : x.who p = t) {d0 d1 : Bool} {wk : List Int} (hd : x.told t = ⟨d0, d1, wk⟩) (hd0 : d0 = false) (hd1 : d1 = true)
    (hf : x.taken t ≠ 0) :
    Calls Try.prog 30 #[.pointer (some ⟨xb, 0, none⟩), .int .i64 p] w (DocPicked W.heap.size f w xb (x.step t) t A c ga gt gw ca ct cw) := by
  have hwho := who_lt x p hp
  rw [ht] at hwho
  have HW := Aside0.mk hW
  have HDD := Aside0.mk (And.intro hd0 hd1)
  clear hd0 hd1
  have HR := Aside0.mk (ready44 h hI hC hW ok.n16)
  obtain ⟨ad, A0, c0, ea, z0, Cz⟩ := calls_at hI hC (Below.refl _ _) t hwho.1
  subst ea
  obtain ⟨ad0, A1, c1, ea0, y0, hl1, Cy⟩ := at_L4 Cz (x.at_ t : Int) (by omega) (by have := hwho.2.1; omega)
  subst ea0
  obtain ⟨turns, htn⟩ : ∃ turns, rd_L4 (calls.getD t []) (x.at_ t : Int) = turns := ⟨_, rfl⟩
  rw [htn] at y0 hl1 Cy
  simp only [Int.toNat_natCast] at y0
  have hproc : x.proc t (x.at_ t) = some turns := by
    have hlen : x.at_ t < (calls.getD t []).length := by rw [← hI.len]; exact hwho.2.1
    have e : (calls.getD t [])[x.at_ t]? = some turns := by
      rw [← htn]
      generalize calls.getD t [] = cl at hlen ⊢
      simp only [rd_L4, Int.toNat_natCast]
      rw [List.getD_eq_getElem?_getD, List.getElem?_eq_getElem hlen]
      rfl
    rw [hI.proc]
    exact e
  have htold : pTurn turns (x.taken t) = ⟨d0, d1, wk⟩ := by
    rw [← hd]
    unfold X.told
    rw [hproc]
  have htk : x.taken t ≤ 140737488355328 := by
    have h1 := ok.taken_lt t hwho.1 hwho.2.1
    rw [hproc] at h1
    have h2 := (ok.short t _ turns hwho.1 hproc).1
    have h3 : stepsOf (some turns) = if turns.length = 0 then 1 else turns.length := rfl
    rw [h3] at h1
    split at h1 <;> omega
  have KT := Aside0.mk (fun (w6 : World) (hb : Below W.heap.size W w6) => (show Calls Try.prog 13 #[.slice A1 turns.length c1, .int .i64 (x.taken t : Int)] w6 (TurnedW W w6 ⟨d0, d1, wk⟩) from by
    rw [← htold]
    exact turn_walkW Cy hb (x.taken t) (by omega)))
  obtain ⟨tl, htl⟩ : ∃ tl, turns.length = tl := ⟨_, rfl⟩
  rw [htl] at KT y0
  have HATC : Aside0 (x.at_ t < x.len t ∧ x.n ≤ 16 ∧ x.len t ≤ 256) := ⟨⟨hwho.2.1, ok.n16, ok.len256 t hwho.1⟩⟩
  have HZ := Aside0.mk (And.intro z0 y0)
  have HEV : Aside0 ((x.events.length + 2) * 32 ≤ 140737488355328) := ⟨by have := ok.few_le; omega⟩
  have HD := Aside0.mk hd
  have H := Aside0.mk h
  have HWHO := Aside0.mk hwho
  have HF := Aside0.mk hf
  have HTK := Aside0.mk htk
  obtain ⟨m, hm⟩ : ∃ m, x.ready.length = m := ⟨_, rfl⟩
  have HM := Aside0.mk hm
  have hm16 : m ≤ 16 := by
    rw [← hm]
    have h1 : x.ready.length ≤ (List.range x.n).length := List.length_filter_le _ _
    rw [List.length_range] at h1
    have := ok.n16
    omega
  unfold X.pickable at hp
  simp only [Bool.and_eq_true, Bool.not_eq_true', beq_eq_false_iff_ne, ne_eq, decide_eq_true_eq] at hp
  obtain ⟨⟨h0, h1⟩, h2⟩ := hp
  have hm0 : 0 < m := by omega
  have hm0' : ¬ m = 0 := by omega
  have hm0'' : ((m : Int) == 0) = false := by rw [beq0]; simpa using hm0'
  obtain ⟨q, rfl⟩ : ∃ q : Nat, p = (q : Int) := ⟨p.toNat, by omega⟩
  have g1 : decide ((q : Int) < 0) = false := decide_eq_false (by omega)
  have g2 : decide ((2147483647 : Int) < (q : Int)) = false := decide_eq_false (by omega)
  have hq1 : (q : Int) ≤ 2147483647 := h1
  have hqm : q % m < m := Nat.mod_lt _ hm0
  obtain ⟨i, hi⟩ : ∃ i, q % m = i := ⟨_, rfl⟩
  rw [hi] at hqm
  have em : (q : Int) % (m : Int) = (i : Int) := by rw [← hi]; rfl
  have et : (q : Int).tmod (m : Int) = (i : Int) := by rw [← hi]; rfl
  have HTV : Aside0 ((ints x.ready).getD i 0 = (t : Int)) := ⟨by
    have h3 : x.ready.getD ((q : Int).toNat % x.ready.length) 0 = t := ht
    rw [hm, Int.toNat_natCast, hi] at h3
    rw [← h3]
    unfold ints
    rw [List.getD_eq_getElem?_getD, List.getElem?_map, List.getD_eq_getElem?_getD, List.getElem?_eq_getElem (by rw [hm]; exact hqm)]
    rfl⟩
  have HI := Aside0.mk hqm
  clear hi h ok hm h2 ht hwho hW hI hC Cz Cy hl1 htn hproc htold htk htl z0 y0 hd hf
  go_enter Try.func30, Try.ntmps30
  go_upto_region 5 with (go_at_call 44; refine HR.out.mono ?_; rintro e w1 ⟨v, rfl, hR, hb⟩; obtain ⟨A1', c1', hv⟩ := Kd.R_slice hR; rw [len_ints, HM.out] at hv; subst hv; obtain ⟨ad1, ea, x1⟩ := (Kd.reads_of_C (d := 0) (R_C hR).1).at_ (i : Int) (by omega) (by have := HI.out; omega); subst ea; simp only [Int.toNat_natCast, rdOf, HTV.out] at x1; have B1 := Aside0.mk hb; clear hR hb)
  clear x1 em et g1 g2 hm0 hm0' hm0'' hq1 h0 h1 hqm hm16
  have HC_ : Aside0 (DocG W.heap.size f w1 xb x (.slice (some ad) x.n c) ev ga gt gw ca ct cw) := ⟨H.out.below B1.out⟩
  have HM1 : Aside0 (Mv W.heap.size (· = xb) f w f w1) := ⟨Mv.of_below B1.out HW.out.size (fun _ _ => rfl)⟩
  have q2 := HC_.out.c2
  obtain ⟨qt, _⟩ := HC_.out.tk_c t HWHO.out.1
  have htn : t < x.n := HWHO.out.1
  have htn2 : (t : Int) < (x.n : Int) := by omega
  have ix0 : decide ((t : Int) < (x.n : Int)) = true := decide_eq_true (by have := HWHO.out.1; omega)
  obtain ⟨tk, htk⟩ : ∃ tk, x.taken t = tk := ⟨_, rfl⟩
  have gtk : ((tk : Int) == 0) = false := by rw [beq0]; have := HF.out; rw [htk] at this; simpa using this
  have gtk2 : ¬ tk = 0 := by have := HF.out; rw [htk] at this; exact this
  rw [htk] at qt
  go_upto_region 7 with (fail)
  obtain ⟨w5, hw5⟩ : ∃ w5, w1 = w5 := ⟨_, rfl⟩
  rw [hw5]
  have HX5 : Aside0 (DocG W.heap.size f w5 xb { x with events := x.events ++ x.begins t } (.slice (some ad) x.n c) ev ga gt gw ca ct cw ∧ Mv W.heap.size (· = xb) f w f w5) := ⟨by
    have e : x.begins t = [] := by unfold X.begins; rw [if_neg HF.out]
    rw [e, List.append_nil, ← hw5]
    exact ⟨HC_.out, HM1.out⟩⟩
  obtain ⟨f5, HX5⟩ : ∃ f5, Aside0 (DocG W.heap.size f5 w5 xb { x with events := x.events ++ x.begins t } (.slice (some ad) x.n c) ev ga gt gw ca ct cw ∧ Mv W.heap.size (· = xb) f w f5 w5) := ⟨f, HX5⟩
  clear hw5 qt q2 gtk gtk2 htk
  clear HC_ HM1 HR
  have BW5 : Aside0 (Below W.heap.size W w5) := ⟨HW.out.trans (HX5.out.2.below.mono (Nat.le_refl _))⟩
  have q0 : w5.cell? ⟨xb, 0, none⟩ = some (.slice (some ad) x.n c) := HX5.out.1.c0
  have q1 : w5.cell? ⟨xb, 1, none⟩ = some (.slice (some ⟨ga, 0, none⟩) x.n ca) := HX5.out.1.c1
  have q2 : w5.cell? ⟨xb, 2, none⟩ = some (.slice (some ⟨gt, 0, none⟩) x.n ct) := HX5.out.1.c2
  have q3 : w5.cell? ⟨ga, t, none⟩ = some (.int .i64 (x.at_ t : Int)) := (HX5.out.1.at_c t HWHO.out.1).1
  have q4 : w5.cell? ⟨gt, t, none⟩ = some (.int .i64 (x.taken t : Int)) := (HX5.out.1.tk_c t HWHO.out.1).1
  have q5 := pw_cell_below BW5.out HZ.out.1
  have q6 := pw_cell_below BW5.out HZ.out.2
  have hat : x.at_ t < x.len t := HATC.out.1
  have hat2 : (x.at_ t : Int) < (x.len t : Int) := by omega
  have ix1 : decide ((x.at_ t : Int) < (x.len t : Int)) = true := decide_eq_true (by have := HATC.out.1; omega)
  refine start_ (n := 26) (S := fun w' => w'.cell? ⟨xb, 0, none⟩ = some (.slice (some ad) x.n c) ∧ w'.cell? ⟨xb, 1, none⟩ = some (.slice (some ⟨ga, 0, none⟩) x.n ca) ∧ w'.cell? ⟨xb, 2, none⟩ = some (.slice (some ⟨gt, 0, none⟩) x.n ct) ∧ w'.cell? ⟨ga, t, none⟩ = some (.int .i64 (x.at_ t : Int)) ∧ w'.cell? ⟨gt, t, none⟩ = some (.int .i64 (x.taken t : Int)) ∧ w'.cell? (ad.add t) = some (.slice (some ad0) (x.len t) c0) ∧ w'.cell? (ad0.add (x.at_ t)) = some (.slice A1 tl c1)) (ds := [25]) #[F,F,F,F,F,F,F,F,F,F,F,F,F,F,F,F,F,F,F,F,F,F,F,F,F,F] (by kernel_rfl) rfl rfl (⟨q0, q1, q2, q3, q4, q5, q6⟩) (fun hHeld => ?_)
  generalize hwd : w5.drew = wd at hHeld ⊢
  have BD : Aside0 (Below w5.heap.size w5 wd) := ⟨by rw [← hwd]; exact below_drew (Below.refl _ _)⟩
  clear q0 q1 q2 q3 q4 q5 q6 hwd
  obtain ⟨q0, q1, q2, q3, q4, q5, q6⟩ := hHeld
  have hHeld : wd.cell? ⟨xb, 0, none⟩ = some (.slice (some ad) x.n c) ∧ wd.cell? ⟨xb, 1, none⟩ = some (.slice (some ⟨ga, 0, none⟩) x.n ca) ∧ wd.cell? ⟨xb, 2, none⟩ = some (.slice (some ⟨gt, 0, none⟩) x.n ct) ∧ wd.cell? ⟨ga, t, none⟩ = some (.int .i64 (x.at_ t : Int)) ∧ wd.cell? ⟨gt, t, none⟩ = some (.int .i64 (x.taken t : Int)) ∧ wd.cell? (ad.add t) = some (.slice (some ad0) (x.len t) c0) ∧ wd.cell? (ad0.add (x.at_ t)) = some (.slice A1 tl c1) := ⟨q0, q1, q2, q3, q4, q5, q6⟩
  refine pure_ (i := 0) (N := some 61) (v := ?_) (a' := ?_) #[T,F,F,F,F,F,F,F,F,F,F,F,F,F,F,F,F,F,F,F,F,F,F,F,F,F] rfl rfl (by kernel_rfl) (fun _ _ _ h => h) (Or.inl ⟨by rfl, ?_⟩) ?_ ?_
  rotate_left
  · intro w'
    go_simp
    with_reducible rfl
  rotate_left
  · simp only [Act.put, sA, s0_, sS, i64_w, i32_w]
    rfl
  refine pure_ (i := 1) (N := some 62) (v := ?_) (a' := ?_) #[T,T,F,F,F,F,F,F,F,F,F,F,F,F,F,F,F,F,F,F,F,F,F,F,F,F] rfl rfl (by kernel_rfl) (fun _ _ _ h => h) (Or.inl ⟨by rfl, ?_⟩) ?_ ?_
  rotate_left
  · intro w'
    go_simp
    with_reducible rfl
  rotate_left
  · simp only [Act.put, sA, s0_, sS, i64_w, i32_w]
    rfl
  refine pure_ (i := 2) (N := some 63) (v := ?_) (a' := ?_) #[T,T,T,F,F,F,F,F,F,F,F,F,F,F,F,F,F,F,F,F,F,F,F,F,F,F] rfl rfl (by kernel_rfl) (fun _ _ _ h => h) (Or.inl ⟨by rfl, ?_⟩) ?_ ?_
  rotate_left
  · intro w'
    go_simp
    with_reducible rfl
  rotate_left
  · simp only [Act.put, sA, s0_, sS, i64_w, i32_w]
    rfl
  refine pure_ (i := 4) (N := some 65) (v := ?_) (a' := ?_) #[T,T,T,F,T,F,F,F,F,F,F,F,F,F,F,F,F,F,F,F,F,F,F,F,F,F] rfl rfl (by kernel_rfl) (fun _ _ _ h => h) (Or.inl ⟨by rfl, ?_⟩) ?_ ?_
  rotate_left
  · intro w'
    go_simp
    with_reducible rfl
  rotate_left
  · simp only [Act.put, sA, s0_, sS, i64_w, i32_w]
    rfl
  refine pure_ (i := 7) (N := some 68) (v := ?_) (a' := ?_) #[T,T,T,F,T,F,F,T,F,F,F,F,F,F,F,F,F,F,F,F,F,F,F,F,F,F] rfl rfl (by kernel_rfl) (fun _ _ _ h => h) (Or.inl ⟨by rfl, ?_⟩) ?_ ?_
  rotate_left
  · intro w'
    go_simp
    with_reducible rfl
  rotate_left
  · simp only [Act.put, sA, s0_, sS, i64_w, i32_w]
    rfl
  refine pure_ (i := 8) (N := some 69) (v := ?_) (a' := ?_) #[T,T,T,F,T,F,F,T,T,F,F,F,F,F,F,F,F,F,F,F,F,F,F,F,F,F] rfl rfl (by kernel_rfl) (fun _ _ _ h => h) (Or.inl ⟨by rfl, ?_⟩) ?_ ?_
  rotate_left
  · intro w'
    go_simp
    with_reducible rfl
  rotate_left
  · simp only [Act.put, sA, s0_, sS, i64_w, i32_w]
    rfl
  refine pure_ (i := 9) (N := some 70) (v := ?_) (a' := ?_) #[T,T,T,F,T,F,F,T,T,T,F,F,F,F,F,F,F,F,F,F,F,F,F,F,F,F] rfl rfl (by kernel_rfl) (fun _ _ _ h => h) (Or.inl ⟨by rfl, ?_⟩) ?_ ?_
  rotate_left
  · intro w'
    go_simp
    with_reducible rfl
  rotate_left
  · simp only [Act.put, sA, s0_, sS, i64_w, i32_w]
    rfl
  refine pure_ (i := 11) (N := some 72) (v := ?_) (a' := ?_) #[T,T,T,F,T,F,F,T,T,T,F,T,F,F,F,F,F,F,F,F,F,F,F,F,F,F] rfl rfl (by kernel_rfl) (fun _ _ _ h => h) (Or.inl ⟨by rfl, ?_⟩) ?_ ?_
  rotate_left
  · intro w'
    go_simp
    with_reducible rfl
  rotate_left
  · simp only [Act.put, sA, s0_, sS, i64_w, i32_w]
    rfl
  refine pure_ (i := 16) (N := some 77) (v := ?_) (a' := ?_) #[T,T,T,F,T,F,F,T,T,T,F,T,F,F,F,F,T,F,F,F,F,F,F,F,F,F] rfl rfl (by kernel_rfl) (fun _ _ _ h => h) (Or.inl ⟨by rfl, ?_⟩) ?_ ?_
  rotate_left
  · intro w'
    go_simp
    with_reducible rfl
  rotate_left
  · simp only [Act.put, sA, s0_, sS, i64_w, i32_w]
    rfl
  refine pure_ (i := 17) (N := some 78) (v := ?_) (a' := ?_) #[T,T,T,F,T,F,F,T,T,T,F,T,F,F,F,F,T,T,F,F,F,F,F,F,F,F] rfl rfl (by kernel_rfl) (fun _ _ _ h => h) (Or.inl ⟨by rfl, ?_⟩) ?_ ?_
  rotate_left
  · intro w'
    go_simp
    with_reducible rfl
  rotate_left
  · simp only [Act.put, sA, s0_, sS, i64_w, i32_w]
    rfl
  refine pure_ (i := 18) (N := some 79) (v := ?_) (a' := ?_) #[T,T,T,F,T,F,F,T,T,T,F,T,F,F,F,F,T,T,T,F,F,F,F,F,F,F] rfl rfl (by kernel_rfl) (fun _ _ _ h => h) (Or.inl ⟨by rfl, ?_⟩) ?_ ?_
  rotate_left
  · intro w'
    go_simp
    with_reducible rfl
  rotate_left
  · simp only [Act.put, sA, s0_, sS, i64_w, i32_w]
    rfl
  refine pure_ (i := 20) (N := some 81) (v := ?_) (a' := ?_) #[T,T,T,F,T,F,F,T,T,T,F,T,F,F,F,F,T,T,T,F,T,F,F,F,F,F] rfl rfl (by kernel_rfl) (fun _ _ _ h => h) (Or.inl ⟨by rfl, ?_⟩) ?_ ?_
  rotate_left
  · intro w'
    go_simp
    with_reducible rfl
  rotate_left
  · simp only [Act.put, sA, s0_, sS, i64_w, i32_w]
    rfl
  refine take_ (i := 3) (N := some 64) (v := ?_) (a' := ?_) #[T,T,T,T,T,F,F,T,T,T,F,T,F,F,F,F,T,T,T,F,T,F,F,F,F,F] rfl rfl (by kernel_rfl) (fun _ _ _ h => h) (Or.inl ⟨by rfl, ?_⟩) hHeld ?_ ?_
  rotate_left
  · intro w' s0
    obtain ⟨s1, s2, s3, s4, s5, s6, s7⟩ := s0
    go_simp
    with_reducible rfl
  rotate_left
  · simp only [Act.put, sA, s0_, sS, i64_w, i32_w]
    rfl
  refine pure_ (i := 5) (N := some 66) (v := ?_) (a' := ?_) #[T,T,T,T,T,T,F,T,T,T,F,T,F,F,F,F,T,T,T,F,T,F,F,F,F,F] rfl rfl (by kernel_rfl) (fun _ _ _ h => h) (Or.inl ⟨by rfl, ?_⟩) ?_ ?_
  rotate_left
  · intro w'
    go_simp
    with_reducible rfl
  rotate_left
  · simp only [Act.put, sA, s0_, sS, i64_w, i32_w]
    rfl
  refine take_ (i := 6) (N := some 67) (v := ?_) (a' := ?_) #[T,T,T,T,T,T,T,T,T,T,F,T,F,F,F,F,T,T,T,F,T,F,F,F,F,F] rfl rfl (by kernel_rfl) (fun _ _ _ h => h) (Or.inl ⟨by rfl, ?_⟩) hHeld ?_ ?_
  rotate_left
  · intro w' s0
    obtain ⟨s1, s2, s3, s4, s5, s6, s7⟩ := s0
    go_simp
    with_reducible rfl
  rotate_left
  · simp only [Act.put, sA, s0_, sS, i64_w, i32_w]
    rfl
  refine take_ (i := 10) (N := some 71) (v := ?_) (a' := ?_) #[T,T,T,T,T,T,T,T,T,T,T,T,F,F,F,F,T,T,T,F,T,F,F,F,F,F] rfl rfl (by kernel_rfl) (fun _ _ _ h => h) (Or.inl ⟨by rfl, ?_⟩) hHeld ?_ ?_
  rotate_left
  · intro w' s0
    obtain ⟨s1, s2, s3, s4, s5, s6, s7⟩ := s0
    go_simp
    with_reducible rfl
  rotate_left
  · simp only [Act.put, sA, s0_, sS, i64_w, i32_w]
    rfl
  refine pure_ (i := 12) (N := some 73) (v := ?_) (a' := ?_) #[T,T,T,T,T,T,T,T,T,T,T,T,T,F,F,F,T,T,T,F,T,F,F,F,F,F] rfl rfl (by kernel_rfl) (fun _ _ _ h => h) (Or.inl ⟨by rfl, ?_⟩) ?_ ?_
  rotate_left
  · intro w'
    go_simp
    with_reducible rfl
  rotate_left
  · simp only [Act.put, sA, s0_, sS, i64_w, i32_w]
    rfl
  refine take_ (i := 13) (N := some 74) (v := ?_) (a' := ?_) #[T,T,T,T,T,T,T,T,T,T,T,T,T,T,F,F,T,T,T,F,T,F,F,F,F,F] rfl rfl (by kernel_rfl) (fun _ _ _ h => h) (Or.inl ⟨by rfl, ?_⟩) hHeld ?_ ?_
  rotate_left
  · intro w' s0
    obtain ⟨s1, s2, s3, s4, s5, s6, s7⟩ := s0
    go_simp
    with_reducible rfl
  rotate_left
  · simp only [Act.put, sA, s0_, sS, i64_w, i32_w]
    rfl
  refine pure_ (i := 14) (N := some 75) (v := ?_) (a' := ?_) #[T,T,T,T,T,T,T,T,T,T,T,T,T,T,T,F,T,T,T,F,T,F,F,F,F,F] rfl rfl (by kernel_rfl) (fun _ _ _ h => h) (Or.inl ⟨by rfl, ?_⟩) ?_ ?_
  rotate_left
  · intro w'
    go_simp
    with_reducible rfl
  rotate_left
  · simp only [Act.put, sA, s0_, sS, i64_w, i32_w]
    rfl
  refine take_ (i := 15) (N := some 76) (v := ?_) (a' := ?_) #[T,T,T,T,T,T,T,T,T,T,T,T,T,T,T,T,T,T,T,F,T,F,F,F,F,F] rfl rfl (by kernel_rfl) (fun _ _ _ h => h) (Or.inl ⟨by rfl, ?_⟩) hHeld ?_ ?_
  rotate_left
  · intro w' s0
    obtain ⟨s1, s2, s3, s4, s5, s6, s7⟩ := s0
    go_simp
    with_reducible rfl
  rotate_left
  · simp only [Act.put, sA, s0_, sS, i64_w, i32_w]
    rfl
  refine take_ (i := 19) (N := some 80) (v := ?_) (a' := ?_) #[T,T,T,T,T,T,T,T,T,T,T,T,T,T,T,T,T,T,T,T,T,F,F,F,F,F] rfl rfl (by kernel_rfl) (fun _ _ _ h => h) (Or.inl ⟨by rfl, ?_⟩) hHeld ?_ ?_
  rotate_left
  · intro w' s0
    obtain ⟨s1, s2, s3, s4, s5, s6, s7⟩ := s0
    go_simp
    with_reducible rfl
  rotate_left
  · simp only [Act.put, sA, s0_, sS, i64_w, i32_w]
    rfl
  refine pure_ (i := 21) (N := some 82) (v := ?_) (a' := ?_) #[T,T,T,T,T,T,T,T,T,T,T,T,T,T,T,T,T,T,T,T,T,T,F,F,F,F] rfl rfl (by kernel_rfl) (fun _ _ _ h => h) (Or.inl ⟨by rfl, ?_⟩) ?_ ?_
  rotate_left
  · intro w'
    go_simp
    with_reducible rfl
  rotate_left
  · simp only [Act.put, sA, s0_, sS, i64_w, i32_w]
    rfl
  refine take_ (i := 22) (N := some 83) (v := ?_) (a' := ?_) #[T,T,T,T,T,T,T,T,T,T,T,T,T,T,T,T,T,T,T,T,T,T,T,F,F,F] rfl rfl (by kernel_rfl) (fun _ _ _ h => h) (Or.inl ⟨by rfl, ?_⟩) hHeld ?_ ?_
  rotate_left
  · intro w' s0
    obtain ⟨s1, s2, s3, s4, s5, s6, s7⟩ := s0
    go_simp
    with_reducible rfl
  rotate_left
  · simp only [Act.put, sA, s0_, sS, i64_w, i32_w]
    rfl
  refine join_ (σ := (Option Addr × Nat) × Nat) 1 #[T,T,T,T,T,T,T,T,T,T,T,T,T,T,T,T,T,T,T,T,T,T,T,T,T,F] (fun s_ => [(84, .agg #[.bool d0, .bool d1, .slice s_.1.1 wk.length s_.1.2]), (8, .pointer (some ⟨s_.2, 0, none⟩))]) (fun s_ w' => (Kd.int .i64).C W s_.1.1 wk.length wk ∧ Below wd.heap.size wd w' ∧ wd.heap.size ≤ s_.2 ∧ w'.heap[s_.2]? = some (.cells #[.bool false, .bool false, .slice none 0 0] 26 (0, 0))) ?_ ?_
  rotate_left
  · intro hCont
    refine two_ (i := 23) (j := 24) (Ni := some 84) (Nj := some 8) #[T,T,T,T,T,T,T,T,T,T,T,T,T,T,T,T,T,T,T,T,T,T,T,T,F,F] #[T,T,T,T,T,T,T,T,T,T,T,T,T,T,T,T,T,T,T,T,T,T,T,F,T,F] rfl rfl rfl rfl (by kernel_rfl) (by decide) (by decide) (fun K hK => ?_) (fun K hK => ?_)
    · skip
      refine goes_ Try.func13 (by kernel_rfl) rfl #[.slice A1 tl c1, .int .i64 (x.taken t : Int)] (by rfl) rfl rfl (by (try simp only [List.map_toArray, List.map_cons, List.map_nil]); first | done | rfl) ?_
      with_reducible refine (KT.out wd (BW5.out.trans (BD.out.mono BW5.out.size))).mono ?_
      rintro e w6 ⟨A6, c6, rfl, hC6, hb6⟩
      refine ⟨_, rfl, ?_⟩
      have C6 := Aside0.mk hC6
      have B6 := Aside0.mk hb6
      clear hC6 hb6
      refine hK.out _ _ (by exact ⟨pw_cell_below B6.out q0, pw_cell_below B6.out q1, pw_cell_below B6.out q2, pw_cell_below B6.out q3, pw_cell_below B6.out q4, pw_cell_below B6.out q5, pw_cell_below B6.out q6⟩) (fun hHeld => ?_)
      clear hK K
      refine norm_ (a' := ?_) ?_ ?_
      rotate_left
      · show Act.put _ (some 84) _ = _
        simp only [Act.put, sA, s0_, sS, i64_w, i32_w]
        rfl
      refine one_ (i := 24) (N := some 8) #[T,T,T,T,T,T,T,T,T,T,T,T,T,T,T,T,T,T,T,T,T,T,T,T,T,F] rfl rfl (by kernel_rfl) (by decide) (fun K hK => ?_)
      refine value_ (w1 := ?_) (v := ?_) (by rfl) rfl ?_ ?_
      rotate_left 2
      · go_simp
        constructor
        · rfl
        · rfl
      refine hK.out _ _ (by exact ⟨pw_cell_below (B6.out.alloc B6.out.size _) q0, pw_cell_below (B6.out.alloc B6.out.size _) q1, pw_cell_below (B6.out.alloc B6.out.size _) q2, pw_cell_below (B6.out.alloc B6.out.size _) q3, pw_cell_below (B6.out.alloc B6.out.size _) q4, pw_cell_below (B6.out.alloc B6.out.size _) q5, pw_cell_below (B6.out.alloc B6.out.size _) q6⟩) (fun hHeld => ?_)
      clear hK K
      refine norm_ (a' := ?_) ?_ ?_
      rotate_left
      · show Act.put _ (some 8) _ = _
        simp only [Act.put, sA, s0_, sS, i64_w, i32_w]
        rfl
      exact norm_ (by simp only [putAll, Act.put, sA, s0_, sS]) (hCont ((A6, c6), w6.heap.size) _ ⟨C6.out, B6.out.alloc B6.out.size _, B6.out.size, blk_new w6 _⟩)
    · skip
      refine value_ (w1 := ?_) (v := ?_) (by rfl) rfl ?_ ?_
      rotate_left 2
      · go_simp
        constructor
        · rfl
        · rfl
      refine hK.out _ _ (by exact ⟨pw_cell_below (below_alloc (Below.refl wd.heap.size wd) _) q0, pw_cell_below (below_alloc (Below.refl wd.heap.size wd) _) q1, pw_cell_below (below_alloc (Below.refl wd.heap.size wd) _) q2, pw_cell_below (below_alloc (Below.refl wd.heap.size wd) _) q3, pw_cell_below (below_alloc (Below.refl wd.heap.size wd) _) q4, pw_cell_below (below_alloc (Below.refl wd.heap.size wd) _) q5, pw_cell_below (below_alloc (Below.refl wd.heap.size wd) _) q6⟩) (fun hHeld => ?_)
      clear hK K
      refine norm_ (a' := ?_) ?_ ?_
      rotate_left
      · show Act.put _ (some 8) _ = _
        simp only [Act.put, sA, s0_, sS, i64_w, i32_w]
        rfl
      refine one_ (i := 23) (N := some 84) #[T,T,T,T,T,T,T,T,T,T,T,T,T,T,T,T,T,T,T,T,T,T,T,T,T,F] rfl rfl (by kernel_rfl) (by decide) (fun K hK => ?_)
      refine goes_ Try.func13 (by kernel_rfl) rfl #[.slice A1 tl c1, .int .i64 (x.taken t : Int)] (by rfl) rfl rfl (by (try simp only [List.map_toArray, List.map_cons, List.map_nil]); first | done | rfl) ?_
      with_reducible refine (KT.out (wd.alloc (.cells #[.bool false, .bool false, .slice none 0 0] 26)) ((BW5.out.trans (BD.out.mono BW5.out.size)).alloc (BW5.out.trans (BD.out.mono BW5.out.size)).size _)).mono ?_
      rintro e w6 ⟨A6, c6, rfl, hC6, hb6⟩
      refine ⟨_, rfl, ?_⟩
      have C6 := Aside0.mk hC6
      have B6 := Aside0.mk hb6
      clear hC6 hb6
      have B7 := Aside0.mk ((below_alloc (Below.refl wd.heap.size wd) (.cells #[.bool false, .bool false, .slice none 0 0] 26)).trans (B6.out.mono (by simp)))
      refine hK.out _ _ (by exact ⟨pw_cell_below B7.out q0, pw_cell_below B7.out q1, pw_cell_below B7.out q2, pw_cell_below B7.out q3, pw_cell_below B7.out q4, pw_cell_below B7.out q5, pw_cell_below B7.out q6⟩) (fun hHeld => ?_)
      clear hK K
      refine norm_ (a' := ?_) ?_ ?_
      rotate_left
      · show Act.put _ (some 84) _ = _
        simp only [Act.put, sA, s0_, sS, i64_w, i32_w]
        rfl
      exact norm_ (by simp only [putAll, Act.put, sA, s0_, sS]) (hCont ((A6, c6), wd.heap.size) _ ⟨C6.out, B7.out, Nat.le_refl _, blk_below (blk_new wd _) B6.out⟩)
  intro s_ w7 hF
  obtain ⟨⟨Aw, cvw⟩, bx⟩ := s_
  obtain ⟨hF1, hF2, hF3, hF4⟩ := hF
  have FC := Aside0.mk hF1
  have FB := Aside0.mk hF2
  have FS := Aside0.mk hF3
  simp only at hF4
  have FK := Aside0.mk hF4
  have j0 := blk_cell hF4 0
  have j1 := blk_cell hF4 1
  have j2 := blk_cell hF4 2
  have l0 := blk_frozen hF4 0
  have l1 := blk_frozen hF4 1
  have l2 := blk_frozen hF4 2
  clear hF1 hF2 hF3 hF4
  refine norm_ (a' := ?_) ?_ ?_
  rotate_left
  · simp only [putAll, Act.put, sA, s0_, sS]
    rfl
  refine last_ (i := 25) (N := none) #[T,T,T,T,T,T,T,T,T,T,T,T,T,T,T,T,T,T,T,T,T,T,T,T,T,T] rfl rfl (by kernel_rfl) (by decide) (fun K hK => ?_)
  refine skip_ (w1 := ?_) (by rfl) rfl ?_ ?_
  rotate_left
  · go_simp
    rfl
  refine hK.out _ _ ?_
  clear hK K
  refine done_ (by kernel_rfl) ?_
  go_upto_region 8 with (fail)
  clear q0 q1 q2 q3 q4 q5 q6 j0 j1 j2 l0 l1 l2 hat hat2 ix1
  obtain ⟨w8, hw8⟩ : ∃ w8, ((w7.setCell ⟨bx, 0, none⟩ (.bool d0)).setCell ⟨bx, 1, none⟩ (.bool d1)).setCell ⟨bx, 2, none⟩ (.slice Aw wk.length cvw) = w8 := ⟨_, rfl⟩
  rw [hw8]
  obtain ⟨f8, hf8⟩ : ∃ f8, owns f5 w5.heap.size bx = f8 := ⟨_, rfl⟩
  have HX8 : Aside0 (DocG W.heap.size f8 w8 xb { x with events := x.events ++ x.begins t } (.slice (some ad) x.n c) ev ga gt gw ca ct cw ∧ Mv W.heap.size (· = xb) f w f8 w8 ∧ w8.heap[bx]? = some (.cells #[.bool d0, .bool d1, .slice Aw wk.length cvw] 26 (0, 0)) ∧ f8 bx ≠ xb) := ⟨by
    obtain ⟨h1, h2⟩ := HX5.out
    have hbx : w5.heap.size ≤ bx := Nat.le_trans BD.out.size FS.out
    have b1 : Below w5.heap.size w5 w8 := by rw [← hw8]; exact below3 (BD.out.trans (FB.out.mono BD.out.size)) hbx _ _ _
    have m1 : ∀ o : Nat → Prop, Mv W.heap.size o f5 w5 f8 w8 := fun o => Mv.of_below b1 BW5.out.size (fun k hk => by rw [← hf8]; exact owns_old _ _ _ k hk)
    have hlt := blk_lt h1.blk
    refine ⟨h1.mv (m1 (fun _ => False)) (fun e => e), h2.trans (m1 _), by rw [← hw8]; exact put3 FK.out _ _ _, ?_⟩
    rw [← hf8, owns_new _ _ _ _ hbx]
    omega⟩
  clear hw8 hf8 HX5 FK FB FS BD KT BW5
  obtain ⟨hd0, hd1⟩ := HDD.out
  clear HDD
  subst hd0
  subst hd1
  have q2 : w8.cell? ⟨xb, 2, none⟩ = some (.slice (some ⟨gt, 0, none⟩) x.n ct) := HX8.out.1.c2
  obtain ⟨q4, l4⟩ : w8.cell? ⟨gt, t, none⟩ = some (.int .i64 (x.taken t : Int)) ∧ w8.frozen? ⟨gt, t, none⟩ = false := HX8.out.1.tk_c t HWHO.out.1
  obtain ⟨tk, htk⟩ : ∃ tk, x.taken t = tk := ⟨_, rfl⟩
  have htk2 : tk ≤ 140737488355328 := by rw [← htk]; exact HTK.out
  rw [htk] at q4
  go_upto_region 9 with (fail)
  obtain ⟨w9, hw9⟩ : ∃ w9, w8.setCell ⟨gt, t, none⟩ (.int .i64 ((tk : Int) + 1)) = w9 := ⟨_, rfl⟩
  rw [hw9]
  have HX9 : Aside0 (DocG W.heap.size f8 w9 xb { x with events := x.events ++ x.begins t, taken := upd x.taken t (x.taken t + 1) } (.slice (some ad) x.n c) ev ga gt gw ca ct cw ∧ Mv W.heap.size (· = xb) f w f8 w9 ∧ w9.heap[bx]? = some (.cells #[.bool false, .bool true, .slice Aw wk.length cvw] 26 (0, 0)) ∧ f8 bx ≠ xb) := ⟨by
    obtain ⟨h1, h2, h3, h4⟩ := HX8.out
    obtain ⟨h5, h6⟩ := h1.setTaken t (x.taken t + 1)
    have e : w8.setCell ⟨gt, t, none⟩ (.int .i64 ((x.taken t + 1 : Nat) : Int)) = w9 := by rw [htk]; exact hw9
    rw [e] at h5 h6
    exact ⟨h5, h2.trans h6, h6.blk h3 h4, h4⟩⟩
  clear q2 q4 l4 htk htk2 hw9 HX8
  have q3 : w9.cell? ⟨xb, 3, none⟩ = some (.slice (some ⟨gw, 0, none⟩) x.n cw) := HX9.out.1.c3
  obtain ⟨qw, lw4⟩ : w9.cell? ⟨gw, t, none⟩ = some (.bool (x.waits t)) ∧ w9.frozen? ⟨gw, t, none⟩ = false := HX9.out.1.w_c t HWHO.out.1
  have bk9 := HX9.out.2.2.1
  have j0 := blk_cell bk9 0
  have j1 := blk_cell bk9 1
  simp only [List.getElem?_toArray, List.getElem?_cons_zero, List.getElem?_cons_succ] at j0 j1
  clear bk9
  refine start_ (n := 14) (S := fun w' => w'.cell? ⟨xb, 3, none⟩ = some (.slice (some ⟨gw, 0, none⟩) x.n cw) ∧ w'.cell? ⟨bx, 0, none⟩ = some (.bool false) ∧ w'.cell? ⟨bx, 1, none⟩ = some (.bool true)) (ds := [13]) #[F,F,F,F,F,F,F,F,F,F,F,F,F,F] (by kernel_rfl) rfl rfl (⟨q3, j0, j1⟩) (fun hHeld => ?_)
  refine pure_ (i := 0) (N := some 94) (v := ?_) (a' := ?_) #[T,F,F,F,F,F,F,F,F,F,F,F,F,F] rfl rfl (by kernel_rfl) (fun _ _ _ h => h) (Or.inl ⟨by rfl, ?_⟩) ?_ ?_
  rotate_left
  · intro w'
    go_simp
    with_reducible rfl
  rotate_left
  · simp only [Act.put, sA, s0_, sS, i64_w, i32_w]
    rfl
  refine pure_ (i := 1) (N := some 95) (v := ?_) (a' := ?_) #[T,T,F,F,F,F,F,F,F,F,F,F,F,F] rfl rfl (by kernel_rfl) (fun _ _ _ h => h) (Or.inl ⟨by rfl, ?_⟩) ?_ ?_
  rotate_left
  · intro w'
    go_simp
    with_reducible rfl
  rotate_left
  · simp only [Act.put, sA, s0_, sS, i64_w, i32_w]
    rfl
  refine pure_ (i := 2) (N := some 96) (v := ?_) (a' := ?_) #[T,T,T,F,F,F,F,F,F,F,F,F,F,F] rfl rfl (by kernel_rfl) (fun _ _ _ h => h) (Or.inl ⟨by rfl, ?_⟩) ?_ ?_
  rotate_left
  · intro w'
    go_simp
    with_reducible rfl
  rotate_left
  · simp only [Act.put, sA, s0_, sS, i64_w, i32_w]
    rfl
  refine take_ (i := 3) (N := some 97) (v := ?_) (a' := ?_) #[T,T,T,T,F,F,F,F,F,F,F,F,F,F] rfl rfl (by kernel_rfl) (fun _ _ _ h => h) (Or.inl ⟨by rfl, ?_⟩) hHeld ?_ ?_
  rotate_left
  · intro w' s0
    obtain ⟨s1, s2, s3⟩ := s0
    go_simp
    with_reducible rfl
  rotate_left
  · simp only [Act.put, sA, s0_, sS, i64_w, i32_w]
    rfl
  refine pure_ (i := 4) (N := some 98) (v := ?_) (a' := ?_) #[T,T,T,T,T,F,F,F,F,F,F,F,F,F] rfl rfl (by kernel_rfl) (fun _ _ _ h => h) (Or.inl ⟨by rfl, ?_⟩) ?_ ?_
  rotate_left
  · intro w'
    go_simp
    with_reducible rfl
  rotate_left
  · simp only [Act.put, sA, s0_, sS, i64_w, i32_w]
    rfl
  refine pure_ (i := 5) (N := some 99) (v := ?_) (a' := ?_) #[T,T,T,T,T,T,F,F,F,F,F,F,F,F] rfl rfl (by kernel_rfl) (fun _ _ _ h => h) (Or.inl ⟨by rfl, ?_⟩) ?_ ?_
  rotate_left
  · intro w'
    go_simp
    with_reducible rfl
  rotate_left
  · simp only [Act.put, sA, s0_, sS, i64_w, i32_w]
    rfl
  refine take_ (i := 6) (N := some 100) (v := ?_) (a' := ?_) #[T,T,T,T,T,T,T,F,F,F,F,F,F,F] rfl rfl (by kernel_rfl) (fun _ _ _ h => h) (Or.inl ⟨by rfl, ?_⟩) hHeld ?_ ?_
  rotate_left
  · intro w' s0
    obtain ⟨s1, s2, s3⟩ := s0
    go_simp
    with_reducible rfl
  rotate_left
  · simp only [Act.put, sA, s0_, sS, i64_w, i32_w]
    rfl
  refine pure_ (i := 7) (N := some 101) (v := ?_) (a' := ?_) #[T,T,T,T,T,T,T,T,F,F,F,F,F,F] rfl rfl (by kernel_rfl) (fun _ _ _ h => h) (Or.inl ⟨by rfl, ?_⟩) ?_ ?_
  rotate_left
  · intro w'
    go_simp
    with_reducible rfl
  rotate_left
  · simp only [Act.put, sA, s0_, sS, i64_w, i32_w]
    rfl
  refine pure_ (i := 8) (N := some 102) (v := ?_) (a' := ?_) #[T,T,T,T,T,T,T,T,T,F,F,F,F,F] rfl rfl (by kernel_rfl) (fun _ _ _ h => h) (Or.inl ⟨by rfl, ?_⟩) ?_ ?_
  rotate_left
  · intro w'
    go_simp
    with_reducible rfl
  rotate_left
  · simp only [Act.put, sA, s0_, sS, i64_w, i32_w]
    rfl
  refine take_ (i := 9) (N := some 103) (v := ?_) (a' := ?_) #[T,T,T,T,T,T,T,T,T,T,F,F,F,F] rfl rfl (by kernel_rfl) (fun _ _ _ h => h) (Or.inl ⟨by rfl, ?_⟩) hHeld ?_ ?_
  rotate_left
  · intro w' s0
    obtain ⟨s1, s2, s3⟩ := s0
    go_simp
    with_reducible rfl
  rotate_left
  · simp only [Act.put, sA, s0_, sS, i64_w, i32_w]
    rfl
  refine pure_ (i := 10) (N := some 104) (v := ?_) (a' := ?_) #[T,T,T,T,T,T,T,T,T,T,T,F,F,F] rfl rfl (by kernel_rfl) (fun _ _ _ h => h) (Or.inl ⟨by rfl, ?_⟩) ?_ ?_
  rotate_left
  · intro w'
    go_simp
    with_reducible rfl
  rotate_left
  · simp only [Act.put, sA, s0_, sS, i64_w, i32_w]
    rfl
  refine pure_ (i := 11) (N := some 105) (v := ?_) (a' := ?_) #[T,T,T,T,T,T,T,T,T,T,T,T,F,F] rfl rfl (by kernel_rfl) (fun _ _ _ h => h) (Or.inl ⟨by rfl, ?_⟩) ?_ ?_
  rotate_left
  · intro w'
    go_simp
    with_reducible rfl
  rotate_left
  · simp only [Act.put, sA, s0_, sS, i64_w, i32_w]
    rfl
  refine pure_ (i := 12) (N := some 106) (v := ?_) (a' := ?_) #[T,T,T,T,T,T,T,T,T,T,T,T,T,F] rfl rfl (by kernel_rfl) (fun _ _ _ h => h) (Or.inl ⟨by rfl, ?_⟩) ?_ ?_
  rotate_left
  · intro w'
    go_simp
    with_reducible rfl
  rotate_left
  · simp only [Act.put, sA, s0_, sS, i64_w, i32_w]
    rfl
  refine last_ (i := 13) (N := none) #[T,T,T,T,T,T,T,T,T,T,T,T,T,T] rfl rfl (by kernel_rfl) (by decide) (fun K hK => ?_)
  refine skip_ (w1 := ?_) (by rfl) rfl ?_ ?_
  rotate_left
  · go_simp
    rfl
  refine hK.out _ _ ?_
  clear hK K
  refine done_ (by kernel_rfl) ?_
  go_upto_region 10 with (fail)
  clear q3 qw lw4 j0 j1
  obtain ⟨w10, hw10⟩ : ∃ w10, (w9.setCell ⟨gw, t, none⟩ (.bool true)).drew = w10 := ⟨_, rfl⟩
  rw [hw10]
  have HX10 : Aside0 (DocG W.heap.size f8 w10 xb { x with events := x.events ++ x.begins t, taken := upd x.taken t (x.taken t + 1), waits := upd x.waits t true } (.slice (some ad) x.n c) ev ga gt gw ca ct cw ∧ Mv W.heap.size (· = xb) f w f8 w10 ∧ w10.heap[bx]? = some (.cells #[.bool false, .bool true, .slice Aw wk.length cvw] 26 (0, 0)) ∧ f8 bx ≠ xb) := ⟨by
    obtain ⟨h1, h2, h3, h4⟩ := HX9.out
    obtain ⟨h5, h6⟩ := h1.setWaits t true
    rw [← hw10]
    exact ⟨h5.below (below_drew (Below.refl _ _)), (h2.trans h6).drewN 1, h6.blk h3 h4, h4⟩⟩
  clear hw10 HX9
  have bk10 := HX10.out.2.2.1
  have j0 := blk_cell bk10 0
  simp only [List.getElem?_toArray, List.getElem?_cons_zero] at j0
  clear bk10
  obtain ⟨mx, hmx⟩ : ∃ mx : X, { x with events := x.events ++ x.begins t, taken := upd x.taken t (x.taken t + 1), waits := upd x.waits t true } = mx := ⟨_, rfl⟩
  have S0 : Aside0 (DWak W.heap.size f w xb mx (.slice (some ad) x.n c) ga gt gw ca ct cw bx #[.bool false, .bool true, .slice Aw wk.length cvw] wk 0 w10) := ⟨by
    obtain ⟨h1, h2, h3, h4⟩ := HX10.out
    rw [← hmx]
    exact DWak.start h1 h2 h3 h4⟩
  have EQ : Aside0 (x.step t = { mx with waits := woke wk mx.waits, steps := wrap64 (x.steps + 1) }) := ⟨by
    have hb : x.ends t = [] := by unfold X.ends; rw [HD.out]; rfl
    have ha : upd x.at_ t (x.at_ t) = x.at_ := upd_self _ _
    rw [← hmx]
    unfold X.step
    rw [HD.out, hb, List.append_nil]
    show _ = ({ x with events := x.events ++ x.begins t, taken := upd x.taken t (x.taken t + 1), waits := woke wk (upd x.waits t true), steps := wrap64 (x.steps + 1) } : X)
    congr 1⟩
  clear HX10
  go_upto_region 14 with (fail)
  clear j0
  have HMX : Aside0 (mx.n = x.n ∧ mx.steps = x.steps) := ⟨by rw [← hmx]; exact ⟨rfl, rfl⟩⟩
  obtain ⟨lw, hlw⟩ : ∃ lw, wk.length = lw := ⟨_, rfl⟩
  have HLW := Aside0.mk hlw
  have hlw63 : lw ≤ 9223372036854775807 := by rw [← hlw]; exact FC.out.2.1
  rw [hlw] at S0
  clear hmx hlw
  go_wp2
  go_loopw [9, 10] (fun idx v wr => ∃ k : Nat, k ≤ lw ∧ idx = .int .i64 (k : Int) ∧ Aside0 (DWak W.heap.size f w xb mx (.slice (some ad) x.n c) ga gt gw ca ct cw bx #[.bool false, .bool true, .slice Aw lw cvw] wk k wr)) (fun idx _ _ => lw - (intOf idx).toNat)
  case atStart => exact ⟨0, Nat.zero_le _, rfl, S0⟩
  case round =>
    obtain ⟨k, hk, rfl, SK⟩ := hrel
    obtain ⟨f', ev', h1, h2, h3, h4⟩ := SK.out
    have j2 := blk_cell h3 2
    simp only [List.getElem?_toArray, List.getElem?_cons_zero, List.getElem?_cons_succ] at j2
    by_cases hlt : k < lw
    · have HBR : Aside0 (Below W.heap.size W wr) := ⟨HW.out.trans h2.below⟩
      obtain ⟨adw, eadw, cz⟩ := (Kd.reads_of_C (d := 0) (Kd.C_below FC.out HBR.out)).at_ (k : Int) (by omega) (by have := HLW.out; omega)
      simp only [Int.toNat_natCast, rdOf] at cz
      have q3 : wr.cell? ⟨xb, 3, none⟩ = some (.slice (some ⟨gw, 0, none⟩) x.n cw) := by have h := h1.c3; rw [show ({ mx with waits := woke (wk.take k) mx.waits } : X).n = x.n from HMX.out.1] at h; exact h
      have hkl : k < wk.length := by rw [HLW.out]; exact hlt
      obtain ⟨z, hz⟩ : ∃ z, wk.getD k 0 = z := ⟨_, rfl⟩
      rw [hz] at cz
      subst eadw
      have ix : decide ((k : Int) < (lw : Int)) = true := decide_eq_true (by omega)
      by_cases hz0 : 0 ≤ z
      · obtain ⟨u, rfl⟩ : ∃ u : Nat, z = (u : Int) := ⟨z.toNat, by omega⟩
        by_cases hun : u < x.n
        · obtain ⟨c3', c4'⟩ := h1.w_c u (by show u < mx.n; rw [HMX.out.1]; exact hun)
          have SK1 := Aside0.mk (SK.out.in_ hkl u hz)
          have i1 : decide ((u : Int) < (x.n : Int)) = true := decide_eq_true (by omega)
          clear h1 h2 h3 h4 hkl hz
          go_wp2
          go_roundw
          case rel => exact ⟨k + 1, by omega, by go_num, SK1⟩
          case measure => simp [intOf]; omega
        · have SK1 := Aside0.mk (SK.out.out hkl (fun s hs e => by rw [hz] at e; have := HMX.out.1; omega))
          have i1 : decide ((u : Int) < (x.n : Int)) = false := decide_eq_false (by omega)
          clear h1 h2 h3 h4 hkl hz
          go_wp2
          go_roundw
          case rel => exact ⟨k + 1, by omega, by go_num, SK1⟩
          case measure => simp [intOf]; omega
      · have SK1 := Aside0.mk (SK.out.out hkl (fun s hs e => by rw [hz] at e; omega))
        have i1 : decide (0 ≤ z) = false := decide_eq_false hz0
        clear h1 h2 h3 h4 hkl hz
        go_wp2
        go_roundw
        case rel => exact ⟨k + 1, by omega, by go_num, SK1⟩
        case measure => simp [intOf]; omega
    · have hkl : k = lw := by omega
      subst hkl
      have HE := Aside0.mk (show DWak W.heap.size f w xb mx (.slice (some ad) x.n c) ga gt gw ca ct cw bx #[.bool false, .bool true, .slice Aw k cvw] wk wk.length wr by rw [HLW.out]; exact SK.out)
      have q4 : wr.cell? ⟨xb, 4, none⟩ = some (.int .i64 x.steps) := by have h := h1.c4; rw [show ({ mx with waits := woke (wk.take k) mx.waits } : X).steps = x.steps from HMX.out.2] at h; exact h
      have l4 := blk_frozen h1.blk 4
      clear h1 h2 h3 h4
      go_wp2
      go_ret2
      refine ⟨rfl, ?_⟩
      rw [EQ.out]
      have hE := HE.out.end_ (wrap64 (x.steps + 1))
      rw [← HMX.out.1] at hE
      exact hE
set_option maxHeartbeats 8000000 in
set_option maxRecDepth 100000 in
theorem docstepGtt {W w : World} {f : Owner} {xb : Nat} {x : X} {ev : Value} {ga gt gw ca ct cw c : Nat} {A : Option Addr} {calls : List (List (List S26))} (h : DocG W.heap.size f w xb x (.slice A x.n c) ev ga gt gw ca ct cw) (hI : Is calls x) (hC : (Kd.slice 22 (Kd.slice 26 k26)).C W A calls.length calls) (hW : Below W.heap.size W w) (ok : x.Ok) (p : Int) (hp : x.pickable p = true) (t : Nat) (ht : x.who p = t) {d0 d1 : Bool} {wk : List Int} (hd : x.told t = ⟨d0, d1, wk⟩) (hd0 : d0 = true) (hd1 : d1 = true)
    (hf : x.taken t ≠ 0) :
    Calls Try.prog 30 #[.pointer (some ⟨xb, 0, none⟩), .int .i64 p] w (DocPicked W.heap.size f w xb (x.step t) t A c ga gt gw ca ct cw) := by
  have hwho := who_lt x p hp
  rw [ht] at hwho
  have HW := Aside0.mk hW
  have HDD := Aside0.mk (And.intro hd0 hd1)
  clear hd0 hd1
  have HR := Aside0.mk (ready44 h hI hC hW ok.n16)
  obtain ⟨ad, A0, c0, ea, z0, Cz⟩ := calls_at hI hC (Below.refl _ _) t hwho.1
  subst ea
  obtain ⟨ad0, A1, c1, ea0, y0, hl1, Cy⟩ := at_L4 Cz (x.at_ t : Int) (by omega) (by have := hwho.2.1; omega)
  subst ea0
  obtain ⟨turns, htn⟩ : ∃ turns, rd_L4 (calls.getD t []) (x.at_ t : Int) = turns := ⟨_, rfl⟩
  rw [htn] at y0 hl1 Cy
  simp only [Int.toNat_natCast] at y0
  have hproc : x.proc t (x.at_ t) = some turns := by
    have hlen : x.at_ t < (calls.getD t []).length := by rw [← hI.len]; exact hwho.2.1
    have e : (calls.getD t [])[x.at_ t]? = some turns := by
      rw [← htn]
      generalize calls.getD t [] = cl at hlen ⊢
      simp only [rd_L4, Int.toNat_natCast]
      rw [List.getD_eq_getElem?_getD, List.getElem?_eq_getElem hlen]
      rfl
    rw [hI.proc]
    exact e
  have htold : pTurn turns (x.taken t) = ⟨d0, d1, wk⟩ := by
    rw [← hd]
    unfold X.told
    rw [hproc]
  have htk : x.taken t ≤ 140737488355328 := by
    have h1 := ok.taken_lt t hwho.1 hwho.2.1
    rw [hproc] at h1
    have h2 := (ok.short t _ turns hwho.1 hproc).1
    have h3 : stepsOf (some turns) = if turns.length = 0 then 1 else turns.length := rfl
    rw [h3] at h1
    split at h1 <;> omega
  have KT := Aside0.mk (fun (w6 : World) (hb : Below W.heap.size W w6) => (show Calls Try.prog 13 #[.slice A1 turns.length c1, .int .i64 (x.taken t : Int)] w6 (TurnedW W w6 ⟨d0, d1, wk⟩) from by
    rw [← htold]
    exact turn_walkW Cy hb (x.taken t) (by omega)))
  obtain ⟨tl, htl⟩ : ∃ tl, turns.length = tl := ⟨_, rfl⟩
  rw [htl] at KT y0
  have HATC : Aside0 (x.at_ t < x.len t ∧ x.n ≤ 16 ∧ x.len t ≤ 256) := ⟨⟨hwho.2.1, ok.n16, ok.len256 t hwho.1⟩⟩
  have HZ := Aside0.mk (And.intro z0 y0)
  have HEV : Aside0 ((x.events.length + 2) * 32 ≤ 140737488355328) := ⟨by have := ok.few_le; omega⟩
  have HD := Aside0.mk hd
  have H := Aside0.mk h
  have HWHO := Aside0.mk hwho
  have HF := Aside0.mk hf
  have HTK := Aside0.mk htk
  obtain ⟨m, hm⟩ : ∃ m, x.ready.length = m := ⟨_, rfl⟩
  have HM := Aside0.mk hm
  have hm16 : m ≤ 16 := by
    rw [← hm]
    have h1 : x.ready.length ≤ (List.range x.n).length := List.length_filter_le _ _
    rw [List.length_range] at h1
    have := ok.n16
    omega
  unfold X.pickable at hp
  simp only [Bool.and_eq_true, Bool.not_eq_true', beq_eq_false_iff_ne, ne_eq, decide_eq_true_eq] at hp
  obtain ⟨⟨h0, h1⟩, h2⟩ := hp
  have hm0 : 0 < m := by omega
  have hm0' : ¬ m = 0 := by omega
  have hm0'' : ((m : Int) == 0) = false := by rw [beq0]; simpa using hm0'
  obtain ⟨q, rfl⟩ : ∃ q : Nat, p = (q : Int) := ⟨p.toNat, by omega⟩
  have g1 : decide ((q : Int) < 0) = false := decide_eq_false (by omega)
  have g2 : decide ((2147483647 : Int) < (q : Int)) = false := decide_eq_false (by omega)
  have hq1 : (q : Int) ≤ 2147483647 := h1
  have hqm : q % m < m := Nat.mod_lt _ hm0
  obtain ⟨i, hi⟩ : ∃ i, q % m = i := ⟨_, rfl⟩
  rw [hi] at hqm
  have em : (q : Int) % (m : Int) = (i : Int) := by rw [← hi]; rfl
  have et : (q : Int).tmod (m : Int) = (i : Int) := by rw [← hi]; rfl
  have HTV : Aside0 ((ints x.ready).getD i 0 = (t : Int)) := ⟨by
    have h3 : x.ready.getD ((q : Int).toNat % x.ready.length) 0 = t := ht
    rw [hm, Int.toNat_natCast, hi] at h3
    rw [← h3]
    unfold ints
    rw [List.getD_eq_getElem?_getD, List.getElem?_map, List.getD_eq_getElem?_getD, List.getElem?_eq_getElem (by rw [hm]; exact hqm)]
    rfl⟩
  have HI := Aside0.mk hqm
  clear hi h ok hm h2 ht hwho hW hI hC Cz Cy hl1 htn hproc htold htk htl z0 y0 hd hf
  go_enter Try.func30, Try.ntmps30
  go_upto_region 5 with (go_at_call 44; refine HR.out.mono ?_; rintro e w1 ⟨v, rfl, hR, hb⟩; obtain ⟨A1', c1', hv⟩ := Kd.R_slice hR; rw [len_ints, HM.out] at hv; subst hv; obtain ⟨ad1, ea, x1⟩ := (Kd.reads_of_C (d := 0) (R_C hR).1).at_ (i : Int) (by omega) (by have := HI.out; omega); subst ea; simp only [Int.toNat_natCast, rdOf, HTV.out] at x1; have B1 := Aside0.mk hb; clear hR hb)
  clear x1 em et g1 g2 hm0 hm0' hm0'' hq1 h0 h1 hqm hm16
  have HC_ : Aside0 (DocG W.heap.size f w1 xb x (.slice (some ad) x.n c) ev ga gt gw ca ct cw) := ⟨H.out.below B1.out⟩
  have HM1 : Aside0 (Mv W.heap.size (· = xb) f w f w1) := ⟨Mv.of_below B1.out HW.out.size (fun _ _ => rfl)⟩
  have q2 := HC_.out.c2
  obtain ⟨qt, _⟩ := HC_.out.tk_c t HWHO.out.1
  have htn : t < x.n := HWHO.out.1
  have htn2 : (t : Int) < (x.n : Int) := by omega
  have ix0 : decide ((t : Int) < (x.n : Int)) = true := decide_eq_true (by have := HWHO.out.1; omega)
  obtain ⟨tk, htk⟩ : ∃ tk, x.taken t = tk := ⟨_, rfl⟩
  have gtk : ((tk : Int) == 0) = false := by rw [beq0]; have := HF.out; rw [htk] at this; simpa using this
  have gtk2 : ¬ tk = 0 := by have := HF.out; rw [htk] at this; exact this
  rw [htk] at qt
  go_upto_region 7 with (fail)
  obtain ⟨w5, hw5⟩ : ∃ w5, w1 = w5 := ⟨_, rfl⟩
  rw [hw5]
  have HX5 : Aside0 (DocG W.heap.size f w5 xb { x with events := x.events ++ x.begins t } (.slice (some ad) x.n c) ev ga gt gw ca ct cw ∧ Mv W.heap.size (· = xb) f w f w5) := ⟨by
    have e : x.begins t = [] := by unfold X.begins; rw [if_neg HF.out]
    rw [e, List.append_nil, ← hw5]
    exact ⟨HC_.out, HM1.out⟩⟩
  obtain ⟨f5, HX5⟩ : ∃ f5, Aside0 (DocG W.heap.size f5 w5 xb { x with events := x.events ++ x.begins t } (.slice (some ad) x.n c) ev ga gt gw ca ct cw ∧ Mv W.heap.size (· = xb) f w f5 w5) := ⟨f, HX5⟩
  clear hw5 qt q2 gtk gtk2 htk
  clear HC_ HM1 HR
  have BW5 : Aside0 (Below W.heap.size W w5) := ⟨HW.out.trans (HX5.out.2.below.mono (Nat.le_refl _))⟩
  have q0 : w5.cell? ⟨xb, 0, none⟩ = some (.slice (some ad) x.n c) := HX5.out.1.c0
  have q1 : w5.cell? ⟨xb, 1, none⟩ = some (.slice (some ⟨ga, 0, none⟩) x.n ca) := HX5.out.1.c1
  have q2 : w5.cell? ⟨xb, 2, none⟩ = some (.slice (some ⟨gt, 0, none⟩) x.n ct) := HX5.out.1.c2
  have q3 : w5.cell? ⟨ga, t, none⟩ = some (.int .i64 (x.at_ t : Int)) := (HX5.out.1.at_c t HWHO.out.1).1
  have q4 : w5.cell? ⟨gt, t, none⟩ = some (.int .i64 (x.taken t : Int)) := (HX5.out.1.tk_c t HWHO.out.1).1
  have q5 := pw_cell_below BW5.out HZ.out.1
  have q6 := pw_cell_below BW5.out HZ.out.2
  have hat : x.at_ t < x.len t := HATC.out.1
  have hat2 : (x.at_ t : Int) < (x.len t : Int) := by omega
  have ix1 : decide ((x.at_ t : Int) < (x.len t : Int)) = true := decide_eq_true (by have := HATC.out.1; omega)
  refine start_ (n := 26) (S := fun w' => w'.cell? ⟨xb, 0, none⟩ = some (.slice (some ad) x.n c) ∧ w'.cell? ⟨xb, 1, none⟩ = some (.slice (some ⟨ga, 0, none⟩) x.n ca) ∧ w'.cell? ⟨xb, 2, none⟩ = some (.slice (some ⟨gt, 0, none⟩) x.n ct) ∧ w'.cell? ⟨ga, t, none⟩ = some (.int .i64 (x.at_ t : Int)) ∧ w'.cell? ⟨gt, t, none⟩ = some (.int .i64 (x.taken t : Int)) ∧ w'.cell? (ad.add t) = some (.slice (some ad0) (x.len t) c0) ∧ w'.cell? (ad0.add (x.at_ t)) = some (.slice A1 tl c1)) (ds := [25]) #[F,F,F,F,F,F,F,F,F,F,F,F,F,F,F,F,F,F,F,F,F,F,F,F,F,F] (by kernel_rfl) rfl rfl (⟨q0, q1, q2, q3, q4, q5, q6⟩) (fun hHeld => ?_)
  generalize hwd : w5.drew = wd at hHeld ⊢
  have BD : Aside0 (Below w5.heap.size w5 wd) := ⟨by rw [← hwd]; exact below_drew (Below.refl _ _)⟩
  clear q0 q1 q2 q3 q4 q5 q6 hwd
  obtain ⟨q0, q1, q2, q3, q4, q5, q6⟩ := hHeld
  have hHeld : wd.cell? ⟨xb, 0, none⟩ = some (.slice (some ad) x.n c) ∧ wd.cell? ⟨xb, 1, none⟩ = some (.slice (some ⟨ga, 0, none⟩) x.n ca) ∧ wd.cell? ⟨xb, 2, none⟩ = some (.slice (some ⟨gt, 0, none⟩) x.n ct) ∧ wd.cell? ⟨ga, t, none⟩ = some (.int .i64 (x.at_ t : Int)) ∧ wd.cell? ⟨gt, t, none⟩ = some (.int .i64 (x.taken t : Int)) ∧ wd.cell? (ad.add t) = some (.slice (some ad0) (x.len t) c0) ∧ wd.cell? (ad0.add (x.at_ t)) = some (.slice A1 tl c1) := ⟨q0, q1, q2, q3, q4, q5, q6⟩
  refine pure_ (i := 0) (N := some 61) (v := ?_) (a' := ?_) #[T,F,F,F,F,F,F,F,F,F,F,F,F,F,F,F,F,F,F,F,F,F,F,F,F,F] rfl rfl (by kernel_rfl) (fun _ _ _ h => h) (Or.inl ⟨by rfl, ?_⟩) ?_ ?_
  rotate_left
  · intro w'
    go_simp
    with_reducible rfl
  rotate_left
  · simp only [Act.put, sA, s0_, sS, i64_w, i32_w]
    rfl
  refine pure_ (i := 1) (N := some 62) (v := ?_) (a' := ?_) #[T,T,F,F,F,F,F,F,F,F,F,F,F,F,F,F,F,F,F,F,F,F,F,F,F,F] rfl rfl (by kernel_rfl) (fun _ _ _ h => h) (Or.inl ⟨by rfl, ?_⟩) ?_ ?_
  rotate_left
  · intro w'
    go_simp
    with_reducible rfl
  rotate_left
  · simp only [Act.put, sA, s0_, sS, i64_w, i32_w]
    rfl
  refine pure_ (i := 2) (N := some 63) (v := ?_) (a' := ?_) #[T,T,T,F,F,F,F,F,F,F,F,F,F,F,F,F,F,F,F,F,F,F,F,F,F,F] rfl rfl (by kernel_rfl) (fun _ _ _ h => h) (Or.inl ⟨by rfl, ?_⟩) ?_ ?_
  rotate_left
  · intro w'
    go_simp
    with_reducible rfl
  rotate_left
  · simp only [Act.put, sA, s0_, sS, i64_w, i32_w]
    rfl
  refine pure_ (i := 4) (N := some 65) (v := ?_) (a' := ?_) #[T,T,T,F,T,F,F,F,F,F,F,F,F,F,F,F,F,F,F,F,F,F,F,F,F,F] rfl rfl (by kernel_rfl) (fun _ _ _ h => h) (Or.inl ⟨by rfl, ?_⟩) ?_ ?_
  rotate_left
  · intro w'
    go_simp
    with_reducible rfl
  rotate_left
  · simp only [Act.put, sA, s0_, sS, i64_w, i32_w]
    rfl
  refine pure_ (i := 7) (N := some 68) (v := ?_) (a' := ?_) #[T,T,T,F,T,F,F,T,F,F,F,F,F,F,F,F,F,F,F,F,F,F,F,F,F,F] rfl rfl (by kernel_rfl) (fun _ _ _ h => h) (Or.inl ⟨by rfl, ?_⟩) ?_ ?_
  rotate_left
  · intro w'
    go_simp
    with_reducible rfl
  rotate_left
  · simp only [Act.put, sA, s0_, sS, i64_w, i32_w]
    rfl
  refine pure_ (i := 8) (N := some 69) (v := ?_) (a' := ?_) #[T,T,T,F,T,F,F,T,T,F,F,F,F,F,F,F,F,F,F,F,F,F,F,F,F,F] rfl rfl (by kernel_rfl) (fun _ _ _ h => h) (Or.inl ⟨by rfl, ?_⟩) ?_ ?_
  rotate_left
  · intro w'
    go_simp
    with_reducible rfl
  rotate_left
  · simp only [Act.put, sA, s0_, sS, i64_w, i32_w]
    rfl
  refine pure_ (i := 9) (N := some 70) (v := ?_) (a' := ?_) #[T,T,T,F,T,F,F,T,T,T,F,F,F,F,F,F,F,F,F,F,F,F,F,F,F,F] rfl rfl (by kernel_rfl) (fun _ _ _ h => h) (Or.inl ⟨by rfl, ?_⟩) ?_ ?_
  rotate_left
  · intro w'
    go_simp
    with_reducible rfl
  rotate_left
  · simp only [Act.put, sA, s0_, sS, i64_w, i32_w]
    rfl
  refine pure_ (i := 11) (N := some 72) (v := ?_) (a' := ?_) #[T,T,T,F,T,F,F,T,T,T,F,T,F,F,F,F,F,F,F,F,F,F,F,F,F,F] rfl rfl (by kernel_rfl) (fun _ _ _ h => h) (Or.inl ⟨by rfl, ?_⟩) ?_ ?_
  rotate_left
  · intro w'
    go_simp
    with_reducible rfl
  rotate_left
  · simp only [Act.put, sA, s0_, sS, i64_w, i32_w]
    rfl
  refine pure_ (i := 16) (N := some 77) (v := ?_) (a' := ?_) #[T,T,T,F,T,F,F,T,T,T,F,T,F,F,F,F,T,F,F,F,F,F,F,F,F,F] rfl rfl (by kernel_rfl) (fun _ _ _ h => h) (Or.inl ⟨by rfl, ?_⟩) ?_ ?_
  rotate_left
  · intro w'
    go_simp
    with_reducible rfl
  rotate_left
  · simp only [Act.put, sA, s0_, sS, i64_w, i32_w]
    rfl
  refine pure_ (i := 17) (N := some 78) (v := ?_) (a' := ?_) #[T,T,T,F,T,F,F,T,T,T,F,T,F,F,F,F,T,T,F,F,F,F,F,F,F,F] rfl rfl (by kernel_rfl) (fun _ _ _ h => h) (Or.inl ⟨by rfl, ?_⟩) ?_ ?_
  rotate_left
  · intro w'
    go_simp
    with_reducible rfl
  rotate_left
  · simp only [Act.put, sA, s0_, sS, i64_w, i32_w]
    rfl
  refine pure_ (i := 18) (N := some 79) (v := ?_) (a' := ?_) #[T,T,T,F,T,F,F,T,T,T,F,T,F,F,F,F,T,T,T,F,F,F,F,F,F,F] rfl rfl (by kernel_rfl) (fun _ _ _ h => h) (Or.inl ⟨by rfl, ?_⟩) ?_ ?_
  rotate_left
  · intro w'
    go_simp
    with_reducible rfl
  rotate_left
  · simp only [Act.put, sA, s0_, sS, i64_w, i32_w]
    rfl
  refine pure_ (i := 20) (N := some 81) (v := ?_) (a' := ?_) #[T,T,T,F,T,F,F,T,T,T,F,T,F,F,F,F,T,T,T,F,T,F,F,F,F,F] rfl rfl (by kernel_rfl) (fun _ _ _ h => h) (Or.inl ⟨by rfl, ?_⟩) ?_ ?_
  rotate_left
  · intro w'
    go_simp
    with_reducible rfl
  rotate_left
  · simp only [Act.put, sA, s0_, sS, i64_w, i32_w]
    rfl
  refine take_ (i := 3) (N := some 64) (v := ?_) (a' := ?_) #[T,T,T,T,T,F,F,T,T,T,F,T,F,F,F,F,T,T,T,F,T,F,F,F,F,F] rfl rfl (by kernel_rfl) (fun _ _ _ h => h) (Or.inl ⟨by rfl, ?_⟩) hHeld ?_ ?_
  rotate_left
  · intro w' s0
    obtain ⟨s1, s2, s3, s4, s5, s6, s7⟩ := s0
    go_simp
    with_reducible rfl
  rotate_left
  · simp only [Act.put, sA, s0_, sS, i64_w, i32_w]
    rfl
  refine pure_ (i := 5) (N := some 66) (v := ?_) (a' := ?_) #[T,T,T,T,T,T,F,T,T,T,F,T,F,F,F,F,T,T,T,F,T,F,F,F,F,F] rfl rfl (by kernel_rfl) (fun _ _ _ h => h) (Or.inl ⟨by rfl, ?_⟩) ?_ ?_
  rotate_left
  · intro w'
    go_simp
    with_reducible rfl
  rotate_left
  · simp only [Act.put, sA, s0_, sS, i64_w, i32_w]
    rfl
  refine take_ (i := 6) (N := some 67) (v := ?_) (a' := ?_) #[T,T,T,T,T,T,T,T,T,T,F,T,F,F,F,F,T,T,T,F,T,F,F,F,F,F] rfl rfl (by kernel_rfl) (fun _ _ _ h => h) (Or.inl ⟨by rfl, ?_⟩) hHeld ?_ ?_
  rotate_left
  · intro w' s0
    obtain ⟨s1, s2, s3, s4, s5, s6, s7⟩ := s0
    go_simp
    with_reducible rfl
  rotate_left
  · simp only [Act.put, sA, s0_, sS, i64_w, i32_w]
    rfl
  refine take_ (i := 10) (N := some 71) (v := ?_) (a' := ?_) #[T,T,T,T,T,T,T,T,T,T,T,T,F,F,F,F,T,T,T,F,T,F,F,F,F,F] rfl rfl (by kernel_rfl) (fun _ _ _ h => h) (Or.inl ⟨by rfl, ?_⟩) hHeld ?_ ?_
  rotate_left
  · intro w' s0
    obtain ⟨s1, s2, s3, s4, s5, s6, s7⟩ := s0
    go_simp
    with_reducible rfl
  rotate_left
  · simp only [Act.put, sA, s0_, sS, i64_w, i32_w]
    rfl
  refine pure_ (i := 12) (N := some 73) (v := ?_) (a' := ?_) #[T,T,T,T,T,T,T,T,T,T,T,T,T,F,F,F,T,T,T,F,T,F,F,F,F,F] rfl rfl (by kernel_rfl) (fun _ _ _ h => h) (Or.inl ⟨by rfl, ?_⟩) ?_ ?_
  rotate_left
  · intro w'
    go_simp
    with_reducible rfl
  rotate_left
  · simp only [Act.put, sA, s0_, sS, i64_w, i32_w]
    rfl
  refine take_ (i := 13) (N := some 74) (v := ?_) (a' := ?_) #[T,T,T,T,T,T,T,T,T,T,T,T,T,T,F,F,T,T,T,F,T,F,F,F,F,F] rfl rfl (by kernel_rfl) (fun _ _ _ h => h) (Or.inl ⟨by rfl, ?_⟩) hHeld ?_ ?_
  rotate_left
  · intro w' s0
    obtain ⟨s1, s2, s3, s4, s5, s6, s7⟩ := s0
    go_simp
    with_reducible rfl
  rotate_left
  · simp only [Act.put, sA, s0_, sS, i64_w, i32_w]
    rfl
  refine pure_ (i := 14) (N := some 75) (v := ?_) (a' := ?_) #[T,T,T,T,T,T,T,T,T,T,T,T,T,T,T,F,T,T,T,F,T,F,F,F,F,F] rfl rfl (by kernel_rfl) (fun _ _ _ h => h) (Or.inl ⟨by rfl, ?_⟩) ?_ ?_
  rotate_left
  · intro w'
    go_simp
    with_reducible rfl
  rotate_left
  · simp only [Act.put, sA, s0_, sS, i64_w, i32_w]
    rfl
  refine take_ (i := 15) (N := some 76) (v := ?_) (a' := ?_) #[T,T,T,T,T,T,T,T,T,T,T,T,T,T,T,T,T,T,T,F,T,F,F,F,F,F] rfl rfl (by kernel_rfl) (fun _ _ _ h => h) (Or.inl ⟨by rfl, ?_⟩) hHeld ?_ ?_
  rotate_left
  · intro w' s0
    obtain ⟨s1, s2, s3, s4, s5, s6, s7⟩ := s0
    go_simp
    with_reducible rfl
  rotate_left
  · simp only [Act.put, sA, s0_, sS, i64_w, i32_w]
    rfl
  refine take_ (i := 19) (N := some 80) (v := ?_) (a' := ?_) #[T,T,T,T,T,T,T,T,T,T,T,T,T,T,T,T,T,T,T,T,T,F,F,F,F,F] rfl rfl (by kernel_rfl) (fun _ _ _ h => h) (Or.inl ⟨by rfl, ?_⟩) hHeld ?_ ?_
  rotate_left
  · intro w' s0
    obtain ⟨s1, s2, s3, s4, s5, s6, s7⟩ := s0
    go_simp
    with_reducible rfl
  rotate_left
  · simp only [Act.put, sA, s0_, sS, i64_w, i32_w]
    rfl
  refine pure_ (i := 21) (N := some 82) (v := ?_) (a' := ?_) #[T,T,T,T,T,T,T,T,T,T,T,T,T,T,T,T,T,T,T,T,T,T,F,F,F,F] rfl rfl (by kernel_rfl) (fun _ _ _ h => h) (Or.inl ⟨by rfl, ?_⟩) ?_ ?_
  rotate_left
  · intro w'
    go_simp
    with_reducible rfl
  rotate_left
  · simp only [Act.put, sA, s0_, sS, i64_w, i32_w]
    rfl
  refine take_ (i := 22) (N := some 83) (v := ?_) (a' := ?_) #[T,T,T,T,T,T,T,T,T,T,T,T,T,T,T,T,T,T,T,T,T,T,T,F,F,F] rfl rfl (by kernel_rfl) (fun _ _ _ h => h) (Or.inl ⟨by rfl, ?_⟩) hHeld ?_ ?_
  rotate_left
  · intro w' s0
    obtain ⟨s1, s2, s3, s4, s5, s6, s7⟩ := s0
    go_simp
    with_reducible rfl
  rotate_left
  · simp only [Act.put, sA, s0_, sS, i64_w, i32_w]
    rfl
  refine join_ (σ := (Option Addr × Nat) × Nat) 1 #[T,T,T,T,T,T,T,T,T,T,T,T,T,T,T,T,T,T,T,T,T,T,T,T,T,F] (fun s_ => [(84, .agg #[.bool d0, .bool d1, .slice s_.1.1 wk.length s_.1.2]), (8, .pointer (some ⟨s_.2, 0, none⟩))]) (fun s_ w' => (Kd.int .i64).C W s_.1.1 wk.length wk ∧ Below wd.heap.size wd w' ∧ wd.heap.size ≤ s_.2 ∧ w'.heap[s_.2]? = some (.cells #[.bool false, .bool false, .slice none 0 0] 26 (0, 0))) ?_ ?_
  rotate_left
  · intro hCont
    refine two_ (i := 23) (j := 24) (Ni := some 84) (Nj := some 8) #[T,T,T,T,T,T,T,T,T,T,T,T,T,T,T,T,T,T,T,T,T,T,T,T,F,F] #[T,T,T,T,T,T,T,T,T,T,T,T,T,T,T,T,T,T,T,T,T,T,T,F,T,F] rfl rfl rfl rfl (by kernel_rfl) (by decide) (by decide) (fun K hK => ?_) (fun K hK => ?_)
    · skip
      refine goes_ Try.func13 (by kernel_rfl) rfl #[.slice A1 tl c1, .int .i64 (x.taken t : Int)] (by rfl) rfl rfl (by (try simp only [List.map_toArray, List.map_cons, List.map_nil]); first | done | rfl) ?_
      with_reducible refine (KT.out wd (BW5.out.trans (BD.out.mono BW5.out.size))).mono ?_
      rintro e w6 ⟨A6, c6, rfl, hC6, hb6⟩
      refine ⟨_, rfl, ?_⟩
      have C6 := Aside0.mk hC6
      have B6 := Aside0.mk hb6
      clear hC6 hb6
      refine hK.out _ _ (by exact ⟨pw_cell_below B6.out q0, pw_cell_below B6.out q1, pw_cell_below B6.out q2, pw_cell_below B6.out q3, pw_cell_below B6.out q4, pw_cell_below B6.out q5, pw_cell_below B6.out q6⟩) (fun hHeld => ?_)
      clear hK K
      refine norm_ (a' := ?_) ?_ ?_
      rotate_left
      · show Act.put _ (some 84) _ = _
        simp only [Act.put, sA, s0_, sS, i64_w, i32_w]
        rfl
      refine one_ (i := 24) (N := some 8) #[T,T,T,T,T,T,T,T,T,T,T,T,T,T,T,T,T,T,T,T,T,T,T,T,T,F] rfl rfl (by kernel_rfl) (by decide) (fun K hK => ?_)
      refine value_ (w1 := ?_) (v := ?_) (by rfl) rfl ?_ ?_
      rotate_left 2
      · go_simp
        constructor
        · rfl
        · rfl
      refine hK.out _ _ (by exact ⟨pw_cell_below (B6.out.alloc B6.out.size _) q0, pw_cell_below (B6.out.alloc B6.out.size _) q1, pw_cell_below (B6.out.alloc B6.out.size _) q2, pw_cell_below (B6.out.alloc B6.out.size _) q3, pw_cell_below (B6.out.alloc B6.out.size _) q4, pw_cell_below (B6.out.alloc B6.out.size _) q5, pw_cell_below (B6.out.alloc B6.out.size _) q6⟩) (fun hHeld => ?_)
      clear hK K
      refine norm_ (a' := ?_) ?_ ?_
      rotate_left
      · show Act.put _ (some 8) _ = _
        simp only [Act.put, sA, s0_, sS, i64_w, i32_w]
        rfl
      exact norm_ (by simp only [putAll, Act.put, sA, s0_, sS]) (hCont ((A6, c6), w6.heap.size) _ ⟨C6.out, B6.out.alloc B6.out.size _, B6.out.size, blk_new w6 _⟩)
    · skip
      refine value_ (w1 := ?_) (v := ?_) (by rfl) rfl ?_ ?_
      rotate_left 2
      · go_simp
        constructor
        · rfl
        · rfl
      refine hK.out _ _ (by exact ⟨pw_cell_below (below_alloc (Below.refl wd.heap.size wd) _) q0, pw_cell_below (below_alloc (Below.refl wd.heap.size wd) _) q1, pw_cell_below (below_alloc (Below.refl wd.heap.size wd) _) q2, pw_cell_below (below_alloc (Below.refl wd.heap.size wd) _) q3, pw_cell_below (below_alloc (Below.refl wd.heap.size wd) _) q4, pw_cell_below (below_alloc (Below.refl wd.heap.size wd) _) q5, pw_cell_below (below_alloc (Below.refl wd.heap.size wd) _) q6⟩) (fun hHeld => ?_)
      clear hK K
      refine norm_ (a' := ?_) ?_ ?_
      rotate_left
      · show Act.put _ (some 8) _ = _
        simp only [Act.put, sA, s0_, sS, i64_w, i32_w]
        rfl
      refine one_ (i := 23) (N := some 84) #[T,T,T,T,T,T,T,T,T,T,T,T,T,T,T,T,T,T,T,T,T,T,T,T,T,F] rfl rfl (by kernel_rfl) (by decide) (fun K hK => ?_)
      refine goes_ Try.func13 (by kernel_rfl) rfl #[.slice A1 tl c1, .int .i64 (x.taken t : Int)] (by rfl) rfl rfl (by (try simp only [List.map_toArray, List.map_cons, List.map_nil]); first | done | rfl) ?_
      with_reducible refine (KT.out (wd.alloc (.cells #[.bool false, .bool false, .slice none 0 0] 26)) ((BW5.out.trans (BD.out.mono BW5.out.size)).alloc (BW5.out.trans (BD.out.mono BW5.out.size)).size _)).mono ?_
      rintro e w6 ⟨A6, c6, rfl, hC6, hb6⟩
      refine ⟨_, rfl, ?_⟩
      have C6 := Aside0.mk hC6
      have B6 := Aside0.mk hb6
      clear hC6 hb6
      have B7 := Aside0.mk ((below_alloc (Below.refl wd.heap.size wd) (.cells #[.bool false, .bool false, .slice none 0 0] 26)).trans (B6.out.mono (by simp)))
      refine hK.out _ _ (by exact ⟨pw_cell_below B7.out q0, pw_cell_below B7.out q1, pw_cell_below B7.out q2, pw_cell_below B7.out q3, pw_cell_below B7.out q4, pw_cell_below B7.out q5, pw_cell_below B7.out q6⟩) (fun hHeld => ?_)
      clear hK K
      refine norm_ (a' := ?_) ?_ ?_
      rotate_left
      · show Act.put _ (some 84) _ = _
        simp only [Act.put, sA, s0_, sS, i64_w, i32_w]
        rfl
      exact norm_ (by simp only [putAll, Act.put, sA, s0_, sS]) (hCont ((A6, c6), wd.heap.size) _ ⟨C6.out, B7.out, Nat.le_refl _, blk_below (blk_new wd _) B6.out⟩)
  intro s_ w7 hF
  obtain ⟨⟨Aw, cvw⟩, bx⟩ := s_
  obtain ⟨hF1, hF2, hF3, hF4⟩ := hF
  have FC := Aside0.mk hF1
  have FB := Aside0.mk hF2
  have FS := Aside0.mk hF3
  simp only at hF4
  have FK := Aside0.mk hF4
  have j0 := blk_cell hF4 0
  have j1 := blk_cell hF4 1
  have j2 := blk_cell hF4 2
  have l0 := blk_frozen hF4 0
  have l1 := blk_frozen hF4 1
  have l2 := blk_frozen hF4 2
  clear hF1 hF2 hF3 hF4
  refine norm_ (a' := ?_) ?_ ?_
  rotate_left
  · simp only [putAll, Act.put, sA, s0_, sS]
    rfl
  refine last_ (i := 25) (N := none) #[T,T,T,T,T,T,T,T,T,T,T,T,T,T,T,T,T,T,T,T,T,T,T,T,T,T] rfl rfl (by kernel_rfl) (by decide) (fun K hK => ?_)
  refine skip_ (w1 := ?_) (by rfl) rfl ?_ ?_
  rotate_left
  · go_simp
    rfl
  refine hK.out _ _ ?_
  clear hK K
  refine done_ (by kernel_rfl) ?_
  go_upto_region 8 with (fail)
  clear q0 q1 q2 q3 q4 q5 q6 j0 j1 j2 l0 l1 l2 hat hat2 ix1
  obtain ⟨w8, hw8⟩ : ∃ w8, ((w7.setCell ⟨bx, 0, none⟩ (.bool d0)).setCell ⟨bx, 1, none⟩ (.bool d1)).setCell ⟨bx, 2, none⟩ (.slice Aw wk.length cvw) = w8 := ⟨_, rfl⟩
  rw [hw8]
  obtain ⟨f8, hf8⟩ : ∃ f8, owns f5 w5.heap.size bx = f8 := ⟨_, rfl⟩
  have HX8 : Aside0 (DocG W.heap.size f8 w8 xb { x with events := x.events ++ x.begins t } (.slice (some ad) x.n c) ev ga gt gw ca ct cw ∧ Mv W.heap.size (· = xb) f w f8 w8 ∧ w8.heap[bx]? = some (.cells #[.bool d0, .bool d1, .slice Aw wk.length cvw] 26 (0, 0)) ∧ f8 bx ≠ xb) := ⟨by
    obtain ⟨h1, h2⟩ := HX5.out
    have hbx : w5.heap.size ≤ bx := Nat.le_trans BD.out.size FS.out
    have b1 : Below w5.heap.size w5 w8 := by rw [← hw8]; exact below3 (BD.out.trans (FB.out.mono BD.out.size)) hbx _ _ _
    have m1 : ∀ o : Nat → Prop, Mv W.heap.size o f5 w5 f8 w8 := fun o => Mv.of_below b1 BW5.out.size (fun k hk => by rw [← hf8]; exact owns_old _ _ _ k hk)
    have hlt := blk_lt h1.blk
    refine ⟨h1.mv (m1 (fun _ => False)) (fun e => e), h2.trans (m1 _), by rw [← hw8]; exact put3 FK.out _ _ _, ?_⟩
    rw [← hf8, owns_new _ _ _ _ hbx]
    omega⟩
  clear hw8 hf8 HX5 FK FB FS BD KT BW5
  obtain ⟨hd0, hd1⟩ := HDD.out
  clear HDD
  subst hd0
  subst hd1
  have q2 : w8.cell? ⟨xb, 2, none⟩ = some (.slice (some ⟨gt, 0, none⟩) x.n ct) := HX8.out.1.c2
  obtain ⟨q4, l4⟩ : w8.cell? ⟨gt, t, none⟩ = some (.int .i64 (x.taken t : Int)) ∧ w8.frozen? ⟨gt, t, none⟩ = false := HX8.out.1.tk_c t HWHO.out.1
  obtain ⟨tk, htk⟩ : ∃ tk, x.taken t = tk := ⟨_, rfl⟩
  have htk2 : tk ≤ 140737488355328 := by rw [← htk]; exact HTK.out
  rw [htk] at q4
  go_upto_region 9 with (fail)
  obtain ⟨w9, hw9⟩ : ∃ w9, w8.setCell ⟨gt, t, none⟩ (.int .i64 ((tk : Int) + 1)) = w9 := ⟨_, rfl⟩
  rw [hw9]
  have HX9 : Aside0 (DocG W.heap.size f8 w9 xb { x with events := x.events ++ x.begins t, taken := upd x.taken t (x.taken t + 1) } (.slice (some ad) x.n c) ev ga gt gw ca ct cw ∧ Mv W.heap.size (· = xb) f w f8 w9 ∧ w9.heap[bx]? = some (.cells #[.bool true, .bool true, .slice Aw wk.length cvw] 26 (0, 0)) ∧ f8 bx ≠ xb) := ⟨by
    obtain ⟨h1, h2, h3, h4⟩ := HX8.out
    obtain ⟨h5, h6⟩ := h1.setTaken t (x.taken t + 1)
    have e : w8.setCell ⟨gt, t, none⟩ (.int .i64 ((x.taken t + 1 : Nat) : Int)) = w9 := by rw [htk]; exact hw9
    rw [e] at h5 h6
    exact ⟨h5, h2.trans h6, h6.blk h3 h4, h4⟩⟩
  clear q2 q4 l4 htk htk2 hw9 HX8
  have q3 : w9.cell? ⟨xb, 3, none⟩ = some (.slice (some ⟨gw, 0, none⟩) x.n cw) := HX9.out.1.c3
  obtain ⟨qw, lw4⟩ : w9.cell? ⟨gw, t, none⟩ = some (.bool (x.waits t)) ∧ w9.frozen? ⟨gw, t, none⟩ = false := HX9.out.1.w_c t HWHO.out.1
  have bk9 := HX9.out.2.2.1
  have j0 := blk_cell bk9 0
  have j1 := blk_cell bk9 1
  simp only [List.getElem?_toArray, List.getElem?_cons_zero, List.getElem?_cons_succ] at j0 j1
  clear bk9
  refine start_ (n := 14) (S := fun w' => w'.cell? ⟨xb, 3, none⟩ = some (.slice (some ⟨gw, 0, none⟩) x.n cw) ∧ w'.cell? ⟨bx, 0, none⟩ = some (.bool true) ∧ w'.cell? ⟨bx, 1, none⟩ = some (.bool true)) (ds := [13]) #[F,F,F,F,F,F,F,F,F,F,F,F,F,F] (by kernel_rfl) rfl rfl (⟨q3, j0, j1⟩) (fun hHeld => ?_)
  refine pure_ (i := 0) (N := some 94) (v := ?_) (a' := ?_) #[T,F,F,F,F,F,F,F,F,F,F,F,F,F] rfl rfl (by kernel_rfl) (fun _ _ _ h => h) (Or.inl ⟨by rfl, ?_⟩) ?_ ?_
  rotate_left
  · intro w'
    go_simp
    with_reducible rfl
  rotate_left
  · simp only [Act.put, sA, s0_, sS, i64_w, i32_w]
    rfl
  refine pure_ (i := 1) (N := some 95) (v := ?_) (a' := ?_) #[T,T,F,F,F,F,F,F,F,F,F,F,F,F] rfl rfl (by kernel_rfl) (fun _ _ _ h => h) (Or.inl ⟨by rfl, ?_⟩) ?_ ?_
  rotate_left
  · intro w'
    go_simp
    with_reducible rfl
  rotate_left
  · simp only [Act.put, sA, s0_, sS, i64_w, i32_w]
    rfl
  refine pure_ (i := 2) (N := some 96) (v := ?_) (a' := ?_) #[T,T,T,F,F,F,F,F,F,F,F,F,F,F] rfl rfl (by kernel_rfl) (fun _ _ _ h => h) (Or.inl ⟨by rfl, ?_⟩) ?_ ?_
  rotate_left
  · intro w'
    go_simp
    with_reducible rfl
  rotate_left
  · simp only [Act.put, sA, s0_, sS, i64_w, i32_w]
    rfl
  refine take_ (i := 3) (N := some 97) (v := ?_) (a' := ?_) #[T,T,T,T,F,F,F,F,F,F,F,F,F,F] rfl rfl (by kernel_rfl) (fun _ _ _ h => h) (Or.inl ⟨by rfl, ?_⟩) hHeld ?_ ?_
  rotate_left
  · intro w' s0
    obtain ⟨s1, s2, s3⟩ := s0
    go_simp
    with_reducible rfl
  rotate_left
  · simp only [Act.put, sA, s0_, sS, i64_w, i32_w]
    rfl
  refine pure_ (i := 4) (N := some 98) (v := ?_) (a' := ?_) #[T,T,T,T,T,F,F,F,F,F,F,F,F,F] rfl rfl (by kernel_rfl) (fun _ _ _ h => h) (Or.inl ⟨by rfl, ?_⟩) ?_ ?_
  rotate_left
  · intro w'
    go_simp
    with_reducible rfl
  rotate_left
  · simp only [Act.put, sA, s0_, sS, i64_w, i32_w]
    rfl
  refine pure_ (i := 5) (N := some 99) (v := ?_) (a' := ?_) #[T,T,T,T,T,T,F,F,F,F,F,F,F,F] rfl rfl (by kernel_rfl) (fun _ _ _ h => h) (Or.inl ⟨by rfl, ?_⟩) ?_ ?_
  rotate_left
  · intro w'
    go_simp
    with_reducible rfl
  rotate_left
  · simp only [Act.put, sA, s0_, sS, i64_w, i32_w]
    rfl
  refine take_ (i := 6) (N := some 100) (v := ?_) (a' := ?_) #[T,T,T,T,T,T,T,F,F,F,F,F,F,F] rfl rfl (by kernel_rfl) (fun _ _ _ h => h) (Or.inl ⟨by rfl, ?_⟩) hHeld ?_ ?_
  rotate_left
  · intro w' s0
    obtain ⟨s1, s2, s3⟩ := s0
    go_simp
    with_reducible rfl
  rotate_left
  · simp only [Act.put, sA, s0_, sS, i64_w, i32_w]
    rfl
  refine pure_ (i := 7) (N := some 101) (v := ?_) (a' := ?_) #[T,T,T,T,T,T,T,T,F,F,F,F,F,F] rfl rfl (by kernel_rfl) (fun _ _ _ h => h) (Or.inl ⟨by rfl, ?_⟩) ?_ ?_
  rotate_left
  · intro w'
    go_simp
    with_reducible rfl
  rotate_left
  · simp only [Act.put, sA, s0_, sS, i64_w, i32_w]
    rfl
  refine pure_ (i := 8) (N := some 102) (v := ?_) (a' := ?_) #[T,T,T,T,T,T,T,T,T,F,F,F,F,F] rfl rfl (by kernel_rfl) (fun _ _ _ h => h) (Or.inl ⟨by rfl, ?_⟩) ?_ ?_
  rotate_left
  · intro w'
    go_simp
    with_reducible rfl
  rotate_left
  · simp only [Act.put, sA, s0_, sS, i64_w, i32_w]
    rfl
  refine take_ (i := 9) (N := some 103) (v := ?_) (a' := ?_) #[T,T,T,T,T,T,T,T,T,T,F,F,F,F] rfl rfl (by kernel_rfl) (fun _ _ _ h => h) (Or.inl ⟨by rfl, ?_⟩) hHeld ?_ ?_
  rotate_left
  · intro w' s0
    obtain ⟨s1, s2, s3⟩ := s0
    go_simp
    with_reducible rfl
  rotate_left
  · simp only [Act.put, sA, s0_, sS, i64_w, i32_w]
    rfl
  refine pure_ (i := 10) (N := some 104) (v := ?_) (a' := ?_) #[T,T,T,T,T,T,T,T,T,T,T,F,F,F] rfl rfl (by kernel_rfl) (fun _ _ _ h => h) (Or.inl ⟨by rfl, ?_⟩) ?_ ?_
  rotate_left
  · intro w'
    go_simp
    with_reducible rfl
  rotate_left
  · simp only [Act.put, sA, s0_, sS, i64_w, i32_w]
    rfl
  refine pure_ (i := 11) (N := some 105) (v := ?_) (a' := ?_) #[T,T,T,T,T,T,T,T,T,T,T,T,F,F] rfl rfl (by kernel_rfl) (fun _ _ _ h => h) (Or.inl ⟨by rfl, ?_⟩) ?_ ?_
  rotate_left
  · intro w'
    go_simp
    with_reducible rfl
  rotate_left
  · simp only [Act.put, sA, s0_, sS, i64_w, i32_w]
    rfl
  refine pure_ (i := 12) (N := some 106) (v := ?_) (a' := ?_) #[T,T,T,T,T,T,T,T,T,T,T,T,T,F] rfl rfl (by kernel_rfl) (fun _ _ _ h => h) (Or.inl ⟨by rfl, ?_⟩) ?_ ?_
  rotate_left
  · intro w'
    go_simp
    with_reducible rfl
  rotate_left
  · simp only [Act.put, sA, s0_, sS, i64_w, i32_w]
    rfl
  refine last_ (i := 13) (N := none) #[T,T,T,T,T,T,T,T,T,T,T,T,T,T] rfl rfl (by kernel_rfl) (by decide) (fun K hK => ?_)
  refine skip_ (w1 := ?_) (by rfl) rfl ?_ ?_
  rotate_left
  · go_simp
    rfl
  refine hK.out _ _ ?_
  clear hK K
  refine done_ (by kernel_rfl) ?_
  go_upto_region 10 with (fail)
  clear q3 qw lw4 j0 j1
  obtain ⟨w10, hw10⟩ : ∃ w10, (w9.setCell ⟨gw, t, none⟩ (.bool false)).drew = w10 := ⟨_, rfl⟩
  rw [hw10]
  have HX10 : Aside0 (DocG W.heap.size f8 w10 xb { x with events := x.events ++ x.begins t, taken := upd x.taken t (x.taken t + 1), waits := upd x.waits t false } (.slice (some ad) x.n c) ev ga gt gw ca ct cw ∧ Mv W.heap.size (· = xb) f w f8 w10 ∧ w10.heap[bx]? = some (.cells #[.bool true, .bool true, .slice Aw wk.length cvw] 26 (0, 0)) ∧ f8 bx ≠ xb) := ⟨by
    obtain ⟨h1, h2, h3, h4⟩ := HX9.out
    obtain ⟨h5, h6⟩ := h1.setWaits t false
    rw [← hw10]
    exact ⟨h5.below (below_drew (Below.refl _ _)), (h2.trans h6).drewN 1, h6.blk h3 h4, h4⟩⟩
  clear hw10 HX9
  have bk10 := HX10.out.2.2.1
  have j0 := blk_cell bk10 0
  simp only [List.getElem?_toArray, List.getElem?_cons_zero] at j0
  clear bk10
  go_upto_region 11 with (fail)
  clear j0
  obtain ⟨es, hes⟩ : ∃ es, x.events ++ x.begins t = es := ⟨_, rfl⟩
  have HC0 := HX10.out.1
  rw [hes] at HC0
  obtain ⟨me, hme⟩ : ∃ me, es.length = me := ⟨_, rfl⟩
  obtain ⟨Ae, ce, hee⟩ : ∃ Ae ce, ev = Value.slice Ae me ce := by
    obtain ⟨Ae, ce, hee⟩ := Kd.R_slice HC0.erow
    exact ⟨Ae, ce, by rw [← hme]; exact hee⟩
  have HME := Aside0.mk hme
  have HC_ : Aside0 (DocG W.heap.size f8 w10 xb { x with events := es, taken := upd x.taken t (x.taken t + 1), waits := upd x.waits t false } (.slice (some ad) x.n c) (.slice Ae me ce) ga gt gw ca ct cw) := ⟨by rw [← hee]; exact HC0⟩
  clear HC0 hee hme
  have n5 : w10.cell? ⟨xb, 5, none⟩ = some (.slice Ae me ce) := HC_.out.c5
  have n4 : w10.cell? ⟨xb, 4, none⟩ = some (.int .i64 x.steps) := HC_.out.c4
  have n1 : w10.cell? ⟨xb, 1, none⟩ = some (.slice (some ⟨ga, 0, none⟩) x.n ca) := HC_.out.c1
  have nt : w10.cell? ⟨ga, t, none⟩ = some (.int .i64 (x.at_ t : Int)) := (HC_.out.at_c t HWHO.out.1).1
  have hBs : Aside0 (W.heap.size ≤ w10.heap.size) := ⟨Nat.le_trans HW.out.size HX10.out.2.1.below.size⟩
  have HL : Aside0 ((es.length + 1) * 32 ≤ 140737488355328) := ⟨by rw [← hes]; exact few_of HEV.out⟩
  have RE : Aside0 (k51.R 51 w10.drew W.heap.size (fun k => owns f8 w10.heap.size xb k = xb) (.slice Ae me ce) es) := ⟨by
    have h1 := Kd.R_bound HC_.out.erow
    exact Kd.R_mono h1 (fun k hk => (owns_old f8 _ _ k hk.2.2.1).trans hk.1)⟩
  refine start_ (n := 23) (S := fun w' => w'.cell? ⟨xb, 5, none⟩ = some (.slice Ae me ce) ∧ w'.cell? ⟨xb, 4, none⟩ = some (.int .i64 x.steps) ∧ w'.cell? ⟨xb, 1, none⟩ = some (.slice (some ⟨ga, 0, none⟩) x.n ca) ∧ w'.cell? ⟨ga, t, none⟩ = some (.int .i64 (x.at_ t : Int))) (ds := [19, 22]) #[F,F,F,F,F,F,F,F,F,F,F,F,F,F,F,F,F,F,F,F,F,F,F] (by kernel_rfl) rfl rfl (⟨n5, n4, n1, nt⟩) (fun hHeld => ?_)
  generalize hwd : w10.drew = wd at hHeld ⊢
  have BD : Aside0 (Below w10.heap.size w10 wd) := ⟨by rw [← hwd]; exact below_drew (Below.refl _ _)⟩
  have RED := Aside0.mk (RE.out)
  rw [hwd] at RED
  have HWD := Aside0.mk hwd
  clear hwd
  refine pure_ (i := 0) (N := some 109) (v := ?_) (a' := ?_) #[T,F,F,F,F,F,F,F,F,F,F,F,F,F,F,F,F,F,F,F,F,F,F] rfl rfl (by kernel_rfl) (fun _ _ _ h => h) (Or.inl ⟨by rfl, ?_⟩) ?_ ?_
  rotate_left
  · intro w'
    go_simp
    with_reducible rfl
  rotate_left
  · simp only [Act.put, sA, s0_, sS, i64_w, i32_w]
    rfl
  refine pure_ (i := 1) (N := some 110) (v := ?_) (a' := ?_) #[T,T,F,F,F,F,F,F,F,F,F,F,F,F,F,F,F,F,F,F,F,F,F] rfl rfl (by kernel_rfl) (fun _ _ _ h => h) (Or.inl ⟨by rfl, ?_⟩) ?_ ?_
  rotate_left
  · intro w'
    go_simp
    with_reducible rfl
  rotate_left
  · simp only [Act.put, sA, s0_, sS, i64_w, i32_w]
    rfl
  refine pure_ (i := 2) (N := some 111) (v := ?_) (a' := ?_) #[T,T,T,F,F,F,F,F,F,F,F,F,F,F,F,F,F,F,F,F,F,F,F] rfl rfl (by kernel_rfl) (fun _ _ _ h => h) (Or.inl ⟨by rfl, ?_⟩) ?_ ?_
  rotate_left
  · intro w'
    go_simp
    with_reducible rfl
  rotate_left
  · simp only [Act.put, sA, s0_, sS, i64_w, i32_w]
    rfl
  refine pure_ (i := 3) (N := some 112) (v := ?_) (a' := ?_) #[T,T,T,T,F,F,F,F,F,F,F,F,F,F,F,F,F,F,F,F,F,F,F] rfl rfl (by kernel_rfl) (fun _ _ _ h => h) (Or.inl ⟨by rfl, ?_⟩) ?_ ?_
  rotate_left
  · intro w'
    go_simp
    with_reducible rfl
  rotate_left
  · simp only [Act.put, sA, s0_, sS, i64_w, i32_w]
    rfl
  refine pure_ (i := 5) (N := some 114) (v := ?_) (a' := ?_) #[T,T,T,T,F,T,F,F,F,F,F,F,F,F,F,F,F,F,F,F,F,F,F] rfl rfl (by kernel_rfl) (fun _ _ _ h => h) (Or.inl ⟨by rfl, ?_⟩) ?_ ?_
  rotate_left
  · intro w'
    go_simp
    with_reducible rfl
  rotate_left
  · simp only [Act.put, sA, s0_, sS, i64_w, i32_w]
    rfl
  refine pure_ (i := 6) (N := some 115) (v := ?_) (a' := ?_) #[T,T,T,T,F,T,T,F,F,F,F,F,F,F,F,F,F,F,F,F,F,F,F] rfl rfl (by kernel_rfl) (fun _ _ _ h => h) (Or.inl ⟨by rfl, ?_⟩) ?_ ?_
  rotate_left
  · intro w'
    go_simp
    with_reducible rfl
  rotate_left
  · simp only [Act.put, sA, s0_, sS, i64_w, i32_w]
    rfl
  refine pure_ (i := 7) (N := some 116) (v := ?_) (a' := ?_) #[T,T,T,T,F,T,T,T,F,F,F,F,F,F,F,F,F,F,F,F,F,F,F] rfl rfl (by kernel_rfl) (fun _ _ _ h => h) (Or.inl ⟨by rfl, ?_⟩) ?_ ?_
  rotate_left
  · intro w'
    go_simp
    with_reducible rfl
  rotate_left
  · simp only [Act.put, sA, s0_, sS, i64_w, i32_w]
    rfl
  refine pure_ (i := 9) (N := some 118) (v := ?_) (a' := ?_) #[T,T,T,T,F,T,T,T,F,T,F,F,F,F,F,F,F,F,F,F,F,F,F] rfl rfl (by kernel_rfl) (fun _ _ _ h => h) (Or.inl ⟨by rfl, ?_⟩) ?_ ?_
  rotate_left
  · intro w'
    go_simp
    with_reducible rfl
  rotate_left
  · simp only [Act.put, sA, s0_, sS, i64_w, i32_w]
    rfl
  refine pure_ (i := 10) (N := some 119) (v := ?_) (a' := ?_) #[T,T,T,T,F,T,T,T,F,T,T,F,F,F,F,F,F,F,F,F,F,F,F] rfl rfl (by kernel_rfl) (fun _ _ _ h => h) (Or.inl ⟨by rfl, ?_⟩) ?_ ?_
  rotate_left
  · intro w'
    go_simp
    with_reducible rfl
  rotate_left
  · simp only [Act.put, sA, s0_, sS, i64_w, i32_w]
    rfl
  refine pure_ (i := 11) (N := some 120) (v := ?_) (a' := ?_) #[T,T,T,T,F,T,T,T,F,T,T,T,F,F,F,F,F,F,F,F,F,F,F] rfl rfl (by kernel_rfl) (fun _ _ _ h => h) (Or.inl ⟨by rfl, ?_⟩) ?_ ?_
  rotate_left
  · intro w'
    go_simp
    with_reducible rfl
  rotate_left
  · simp only [Act.put, sA, s0_, sS, i64_w, i32_w]
    rfl
  refine pure_ (i := 12) (N := some 121) (v := ?_) (a' := ?_) #[T,T,T,T,F,T,T,T,F,T,T,T,T,F,F,F,F,F,F,F,F,F,F] rfl rfl (by kernel_rfl) (fun _ _ _ h => h) (Or.inl ⟨by rfl, ?_⟩) ?_ ?_
  rotate_left
  · intro w'
    go_simp
    with_reducible rfl
  rotate_left
  · simp only [Act.put, sA, s0_, sS, i64_w, i32_w]
    rfl
  refine pure_ (i := 14) (N := some 123) (v := ?_) (a' := ?_) #[T,T,T,T,F,T,T,T,F,T,T,T,T,F,T,F,F,F,F,F,F,F,F] rfl rfl (by kernel_rfl) (fun _ _ _ h => h) (Or.inl ⟨by rfl, ?_⟩) ?_ ?_
  rotate_left
  · intro w'
    go_simp
    with_reducible rfl
  rotate_left
  · simp only [Act.put, sA, s0_, sS, i64_w, i32_w]
    rfl
  refine take_ (i := 4) (N := some 113) (v := ?_) (a' := ?_) #[T,T,T,T,T,T,T,T,F,T,T,T,T,F,T,F,F,F,F,F,F,F,F] rfl rfl (by kernel_rfl) (fun _ _ _ h => h) (Or.inl ⟨by rfl, ?_⟩) hHeld ?_ ?_
  rotate_left
  · intro w' s0
    obtain ⟨s1, s2, s3, s4⟩ := s0
    go_simp
    with_reducible rfl
  rotate_left
  · simp only [Act.put, sA, s0_, sS, i64_w, i32_w]
    rfl
  refine take_ (i := 8) (N := some 117) (v := ?_) (a' := ?_) #[T,T,T,T,T,T,T,T,T,T,T,T,T,F,T,F,F,F,F,F,F,F,F] rfl rfl (by kernel_rfl) (fun _ _ _ h => h) (Or.inl ⟨by rfl, ?_⟩) hHeld ?_ ?_
  rotate_left
  · intro w' s0
    obtain ⟨s1, s2, s3, s4⟩ := s0
    go_simp
    with_reducible rfl
  rotate_left
  · simp only [Act.put, sA, s0_, sS, i64_w, i32_w]
    rfl
  refine take_ (i := 13) (N := some 122) (v := ?_) (a' := ?_) #[T,T,T,T,T,T,T,T,T,T,T,T,T,T,T,F,F,F,F,F,F,F,F] rfl rfl (by kernel_rfl) (fun _ _ _ h => h) (Or.inl ⟨by rfl, ?_⟩) hHeld ?_ ?_
  rotate_left
  · intro w' s0
    obtain ⟨s1, s2, s3, s4⟩ := s0
    go_simp
    with_reducible rfl
  rotate_left
  · simp only [Act.put, sA, s0_, sS, i64_w, i32_w]
    rfl
  refine pure_ (i := 15) (N := some 124) (v := ?_) (a' := ?_) #[T,T,T,T,T,T,T,T,T,T,T,T,T,T,T,T,F,F,F,F,F,F,F] rfl rfl (by kernel_rfl) (fun _ _ _ h => h) (Or.inl ⟨by rfl, ?_⟩) ?_ ?_
  rotate_left
  · intro w'
    go_simp
    with_reducible rfl
  rotate_left
  · simp only [Act.put, sA, s0_, sS, i64_w, i32_w]
    rfl
  refine take_ (i := 16) (N := some 125) (v := ?_) (a' := ?_) #[T,T,T,T,T,T,T,T,T,T,T,T,T,T,T,T,T,F,F,F,F,F,F] rfl rfl (by kernel_rfl) (fun _ _ _ h => h) (Or.inl ⟨by rfl, ?_⟩) hHeld ?_ ?_
  rotate_left
  · intro w' s0
    obtain ⟨s1, s2, s3, s4⟩ := s0
    go_simp
    with_reducible rfl
  rotate_left
  · simp only [Act.put, sA, s0_, sS, i64_w, i32_w]
    rfl
  refine pure_ (i := 17) (N := some 126) (v := ?_) (a' := ?_) #[T,T,T,T,T,T,T,T,T,T,T,T,T,T,T,T,T,T,F,F,F,F,F] rfl rfl (by kernel_rfl) (fun _ _ _ h => h) (Or.inl ⟨by rfl, ?_⟩) ?_ ?_
  rotate_left
  · intro w'
    go_simp
    with_reducible rfl
  rotate_left
  · simp only [Act.put, sA, s0_, sS, i64_w, i32_w]
    rfl
  refine one_ (i := 18) (N := some 127) #[T,T,T,T,T,T,T,T,T,T,T,T,T,T,T,T,T,T,T,F,F,F,F] rfl rfl (by kernel_rfl) (by decide) (fun K hK => ?_)
  refine value_ (w1 := ?_) (v := ?_) (by rfl) rfl ?_ ?_
  rotate_left 2
  · go_simp
    constructor
    · rfl
    · rfl
  refine hK.out _ _ (by exact ⟨pw_cell_below (below_alloc BD.out _) n5, pw_cell_below (below_alloc BD.out _) n4, pw_cell_below (below_alloc BD.out _) n1, pw_cell_below (below_alloc BD.out _) nt⟩) (fun hHeld => ?_)
  clear hK K
  refine norm_ (a' := ?_) ?_ ?_
  rotate_left
  · show Act.put _ (some 127) _ = _
    simp only [Act.put, sA, s0_, sS, i64_w, i32_w]
    rfl
  refine last_ (i := 19) (N := some 128) #[T,T,T,T,T,T,T,T,T,T,T,T,T,T,T,T,T,T,T,T,F,F,F] rfl rfl (by kernel_rfl) (by decide) (fun K hK => ?_)
  refine Kd.R_append_step k51 (w0 := wd) W.heap.size (by rfl) (.tmp 113) (.tmp 127) 47 51 (.agg #[.int .i64 0, .int .i64 0, .int .i64 0, .bool false]) 32 rfl Try.underlying47 info51' rfl (by decide) (by decide) (.slice Ae me ce) es ⟨x.steps, t, x.at_ t, true⟩ [.int .i64 x.steps, .int .i64 (t : Int), .int .i64 (x.at_ t : Int), .bool true] (fun k => owns f8 w10.heap.size xb k = xb) (fun _ => False) rfl rfl (k51_mkM _ _ _ _) (fun _ h => h.elim) (fun k hk => owns_new _ _ _ _ (Nat.le_trans BD.out.size hk)) RED.out (Below.refl _ _) (Nat.le_trans hBs.out BD.out.size) HL.out ?_
  intro v1 w4 hR4 hb4 hg4 hat4
  obtain ⟨A4, c4, hv4⟩ := Kd.R_slice hR4
  rw [List.length_append, List.length_singleton, HME.out] at hv4
  subst hv4
  have R4 := Aside0.mk hR4
  have B4 := Aside0.mk hb4
  have G4 := Aside0.mk hg4
  clear hR4 hb4 hg4 hat4
  refine hK.out _ _ ?_
  clear hK K
  refine norm_ (a' := ?_) ?_ ?_
  rotate_left
  · show Act.put _ (some 128) _ = _
    simp only [Act.put, sA, s0_, sS, i64_w, i32_w]
    rfl
  refine pure_ (i := 20) (N := some 129) (v := ?_) (a' := ?_) #[T,T,T,T,T,T,T,T,T,T,T,T,T,T,T,T,T,T,T,T,T,F,F] rfl rfl (by kernel_rfl) (fun _ _ _ h => h) (Or.inl ⟨by rfl, ?_⟩) ?_ ?_
  rotate_left
  · intro w'
    go_simp
    with_reducible rfl
  rotate_left
  · simp only [Act.put, sA, s0_, sS, i64_w, i32_w]
    rfl
  refine pure_ (i := 21) (N := some 130) (v := ?_) (a' := ?_) #[T,T,T,T,T,T,T,T,T,T,T,T,T,T,T,T,T,T,T,T,T,T,F] rfl rfl (by kernel_rfl) (fun _ _ _ h => h) (Or.inl ⟨by rfl, ?_⟩) ?_ ?_
  rotate_left
  · intro w'
    go_simp
    with_reducible rfl
  rotate_left
  · simp only [Act.put, sA, s0_, sS, i64_w, i32_w]
    rfl
  have b4 := blk_grown (blk_below HC_.out.blk BD.out) G4.out (Kd.R_ne HC_.out.erow HC_.out.blk (by decide))
  have y4 := blk_cell b4 5
  have f4 := blk_frozen b4 5
  clear b4
  refine last_ (i := 22) (N := none) #[T,T,T,T,T,T,T,T,T,T,T,T,T,T,T,T,T,T,T,T,T,T,T] rfl rfl (by kernel_rfl) (by decide) (fun K hK => ?_)
  refine skip_ (w1 := ?_) (by rfl) rfl ?_ ?_
  rotate_left
  · go_simp
    rfl
  refine hK.out _ _ ?_
  clear hK K
  refine done_ (by kernel_rfl) ?_
  go_upto_region 12 with (fail)
  obtain ⟨w11, hw11⟩ : ∃ w11, w4.setCell ⟨xb, 5, none⟩ (.slice A4 (me + 1) c4) = w11 := ⟨_, rfl⟩
  rw [hw11]
  obtain ⟨f11, hf11⟩ : ∃ f11, owns f8 w10.heap.size xb = f11 := ⟨_, rfl⟩
  have HX11 : Aside0 (DocG W.heap.size f11 w11 xb { x with events := es ++ [⟨x.steps, t, x.at_ t, true⟩], taken := upd x.taken t (x.taken t + 1), waits := upd x.waits t false } (.slice (some ad) x.n c) (.slice A4 (me + 1) c4) ga gt gw ca ct cw ∧ Mv W.heap.size (· = xb) f w f11 w11 ∧ w11.heap[bx]? = some (.cells #[.bool true, .bool true, .slice Aw wk.length cvw] 26 (0, 0)) ∧ f11 bx ≠ xb) := ⟨by
    have g := G4.out
    rw [← HWD.out] at g
    obtain ⟨h1, h2⟩ := HC_.out.noted 1 R4.out g
    rw [hw11, hf11] at h1 h2
    obtain ⟨_, h3, h4, h5⟩ := HX10.out
    exact ⟨h1, h3.trans h2, h2.blk h4 h5, by rw [h2.own_at h4]; exact h5⟩⟩
  clear hf11 hw11 n5 n4 n1 nt y4 f4 RE RED HL HC_ HX10
  have n1 : w11.cell? ⟨xb, 1, none⟩ = some (.slice (some ⟨ga, 0, none⟩) x.n ca) := HX11.out.1.c1
  obtain ⟨nt, lt⟩ : w11.cell? ⟨ga, t, none⟩ = some (.int .i64 (x.at_ t : Int)) ∧ w11.frozen? ⟨ga, t, none⟩ = false := HX11.out.1.at_c t HWHO.out.1
  obtain ⟨a, ha⟩ : ∃ a, x.at_ t = a := ⟨_, rfl⟩
  have ha2 : a ≤ 256 := by rw [← ha]; have := HATC.out; omega
  rw [ha] at nt
  go_upto_region 13 with (fail)
  obtain ⟨w12, hw12⟩ : ∃ w12, w11.setCell ⟨ga, t, none⟩ (.int .i64 ((a : Int) + 1)) = w12 := ⟨_, rfl⟩
  rw [hw12]
  have HX12 : Aside0 (DocG W.heap.size f11 w12 xb { x with events := es ++ [⟨x.steps, t, x.at_ t, true⟩], taken := upd x.taken t (x.taken t + 1), waits := upd x.waits t false, at_ := upd x.at_ t (x.at_ t + 1) } (.slice (some ad) x.n c) (.slice A4 (me + 1) c4) ga gt gw ca ct cw ∧ Mv W.heap.size (· = xb) f w f11 w12 ∧ w12.heap[bx]? = some (.cells #[.bool true, .bool true, .slice Aw wk.length cvw] 26 (0, 0)) ∧ f11 bx ≠ xb) := ⟨by
    obtain ⟨h1, h2, h3, h4⟩ := HX11.out
    obtain ⟨h5, h6⟩ := h1.setAt t (x.at_ t + 1)
    have e : w11.setCell ⟨ga, t, none⟩ (.int .i64 ((x.at_ t + 1 : Nat) : Int)) = w12 := by rw [ha]; exact hw12
    rw [e] at h5 h6
    exact ⟨h5, h2.trans h6, h6.blk h3 h4, h4⟩⟩
  clear n1 nt lt ha ha2 hw12 HX11
  have q2 : w12.cell? ⟨xb, 2, none⟩ = some (.slice (some ⟨gt, 0, none⟩) x.n ct) := HX12.out.1.c2
  obtain ⟨q4, l4⟩ := HX12.out.1.tk_c t HWHO.out.1
  obtain ⟨tz, htz⟩ : ∃ tz : Nat, upd x.taken t (x.taken t + 1) t = tz := ⟨_, rfl⟩
  have q4' : w12.cell? ⟨gt, t, none⟩ = some (.int .i64 (tz : Int)) := by rw [← htz]; exact q4
  clear q4 htz
  go_upto_region 14 with (fail)
  obtain ⟨w13, hw13⟩ : ∃ w13, w12.setCell ⟨gt, t, none⟩ (.int .i64 0) = w13 := ⟨_, rfl⟩
  rw [hw13]
  obtain ⟨mx, hmx⟩ : ∃ mx : X, { x with events := es ++ [⟨x.steps, t, x.at_ t, true⟩], taken := upd (upd x.taken t (x.taken t + 1)) t 0, waits := upd x.waits t false, at_ := upd x.at_ t (x.at_ t + 1) } = mx := ⟨_, rfl⟩
  have S0 : Aside0 (DWak W.heap.size f w xb mx (.slice (some ad) x.n c) ga gt gw ca ct cw bx #[.bool true, .bool true, .slice Aw wk.length cvw] wk 0 w13) := ⟨by
    obtain ⟨h1, h2, h3, h4⟩ := HX12.out
    obtain ⟨h5, h6⟩ := h1.setTaken t 0
    have e : w12.setCell ⟨gt, t, none⟩ (.int .i64 ((0 : Nat) : Int)) = w13 := hw13
    rw [e] at h5 h6
    rw [← hmx]
    exact DWak.start h5 (h2.trans h6) (h6.blk h3 h4) h4⟩
  have EQ : Aside0 (x.step t = { mx with waits := woke wk mx.waits, steps := wrap64 (x.steps + 1) }) := ⟨by
    have hb : x.ends t = [⟨x.steps, t, x.at_ t, true⟩] := by unfold X.ends; rw [HD.out]; rfl
    rw [← hmx, ← hes]
    unfold X.step
    rw [HD.out, hb]
    rw [upd_upd]
    rfl⟩
  clear hw13 HX12 q2 l4 q4'
  have HMX : Aside0 (mx.n = x.n ∧ mx.steps = x.steps) := ⟨by rw [← hmx]; exact ⟨rfl, rfl⟩⟩
  obtain ⟨lw, hlw⟩ : ∃ lw, wk.length = lw := ⟨_, rfl⟩
  have HLW := Aside0.mk hlw
  have hlw63 : lw ≤ 9223372036854775807 := by rw [← hlw]; exact FC.out.2.1
  rw [hlw] at S0
  clear hmx hlw
  go_wp2
  go_loopw [9, 10] (fun idx v wr => ∃ k : Nat, k ≤ lw ∧ idx = .int .i64 (k : Int) ∧ Aside0 (DWak W.heap.size f w xb mx (.slice (some ad) x.n c) ga gt gw ca ct cw bx #[.bool true, .bool true, .slice Aw lw cvw] wk k wr)) (fun idx _ _ => lw - (intOf idx).toNat)
  case atStart => exact ⟨0, Nat.zero_le _, rfl, S0⟩
  case round =>
    obtain ⟨k, hk, rfl, SK⟩ := hrel
    obtain ⟨f', ev', h1, h2, h3, h4⟩ := SK.out
    have j2 := blk_cell h3 2
    simp only [List.getElem?_toArray, List.getElem?_cons_zero, List.getElem?_cons_succ] at j2
    by_cases hlt : k < lw
    · have HBR : Aside0 (Below W.heap.size W wr) := ⟨HW.out.trans h2.below⟩
      obtain ⟨adw, eadw, cz⟩ := (Kd.reads_of_C (d := 0) (Kd.C_below FC.out HBR.out)).at_ (k : Int) (by omega) (by have := HLW.out; omega)
      simp only [Int.toNat_natCast, rdOf] at cz
      have q3 : wr.cell? ⟨xb, 3, none⟩ = some (.slice (some ⟨gw, 0, none⟩) x.n cw) := by have h := h1.c3; rw [show ({ mx with waits := woke (wk.take k) mx.waits } : X).n = x.n from HMX.out.1] at h; exact h
      have hkl : k < wk.length := by rw [HLW.out]; exact hlt
      obtain ⟨z, hz⟩ : ∃ z, wk.getD k 0 = z := ⟨_, rfl⟩
      rw [hz] at cz
      subst eadw
      have ix : decide ((k : Int) < (lw : Int)) = true := decide_eq_true (by omega)
      by_cases hz0 : 0 ≤ z
      · obtain ⟨u, rfl⟩ : ∃ u : Nat, z = (u : Int) := ⟨z.toNat, by omega⟩
        by_cases hun : u < x.n
        · obtain ⟨c3', c4'⟩ := h1.w_c u (by show u < mx.n; rw [HMX.out.1]; exact hun)
          have SK1 := Aside0.mk (SK.out.in_ hkl u hz)
          have i1 : decide ((u : Int) < (x.n : Int)) = true := decide_eq_true (by omega)
          clear h1 h2 h3 h4 hkl hz
          go_wp2
          go_roundw
          case rel => exact ⟨k + 1, by omega, by go_num, SK1⟩
          case measure => simp [intOf]; omega
        · have SK1 := Aside0.mk (SK.out.out hkl (fun s hs e => by rw [hz] at e; have := HMX.out.1; omega))
          have i1 : decide ((u : Int) < (x.n : Int)) = false := decide_eq_false (by omega)
          clear h1 h2 h3 h4 hkl hz
          go_wp2
          go_roundw
          case rel => exact ⟨k + 1, by omega, by go_num, SK1⟩
          case measure => simp [intOf]; omega
      · have SK1 := Aside0.mk (SK.out.out hkl (fun s hs e => by rw [hz] at e; omega))
        have i1 : decide (0 ≤ z) = false := decide_eq_false hz0
        clear h1 h2 h3 h4 hkl hz
        go_wp2
        go_roundw
        case rel => exact ⟨k + 1, by omega, by go_num, SK1⟩
        case measure => simp [intOf]; omega
    · have hkl : k = lw := by omega
      subst hkl
      have HE := Aside0.mk (show DWak W.heap.size f w xb mx (.slice (some ad) x.n c) ga gt gw ca ct cw bx #[.bool true, .bool true, .slice Aw k cvw] wk wk.length wr by rw [HLW.out]; exact SK.out)
      have q4 : wr.cell? ⟨xb, 4, none⟩ = some (.int .i64 x.steps) := by have h := h1.c4; rw [show ({ mx with waits := woke (wk.take k) mx.waits } : X).steps = x.steps from HMX.out.2] at h; exact h
      have l4 := blk_frozen h1.blk 4
      clear h1 h2 h3 h4
      go_wp2
      go_ret2
      refine ⟨rfl, ?_⟩
      rw [EQ.out]
      have hE := HE.out.end_ (wrap64 (x.steps + 1))
      rw [← HMX.out.1] at hE
      exact hE
end Go.Proofs.Ytkigbgabnbjomaa.Sched
