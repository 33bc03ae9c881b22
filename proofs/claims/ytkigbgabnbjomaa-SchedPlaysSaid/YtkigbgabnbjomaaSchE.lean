/- Steps, picks, runs of the runner.
   No condition. -/
import Derived.Test.YtkigbgabnbjomaaSchC
import Derived.Test.YtkigbgabnbjomaaSchD
import Derived.ArgAppend
import Derived.BigRegion
import Derived.Deep.QuietTactic
import Derived.BigQuiet
import Derived.Deep.RegionHeld3
import Derived.ChangeAlike
import Derived.RegionTactic
import Derived.Deep.DeepCutAuto
import Derived.Deep.CutBlock
import Derived.Deep.RegionLaw
import Derived.StillTailTactics
import Derived.WalkSpells
import Derived.Lib.SliceRun
namespace Go.Proofs.Ytkigbgabnbjomaa.Sched
open Go.Proofs.Ytkigbgabnbjomaa.PSchedPlays
open Go.RowKit Go.Proofs.YtkigbgabnbjomaaW.PrintWords Go.Proofs.YtkigbgabnbjomaaW.PrintLast Go.Proofs.YtkigbgabnbjomaaW.PrintMore
attribute [local go_sem] max2_int min2_int max_two min_two   -- for this text's walks alone
set_option linter.unusedVariables false
set_option linter.unusedSimpArgs false
/-! ### A step of the runner -/
/-- By whom each play was stepped, as far as it counts. -/
def TkOk (x : X) (tk : Nat → Nat → List Int) : Prop := ∀ t, t < x.n → (x.at_ t < x.len t → (tk t (x.at_ t)).length = x.taken t) ∧ ∀ c, x.at_ t < c → tk t c = []
/-- Runner rb is x. -/
def RunX (B : Nat) (f : Owner) (w : World) (rb : Nat) (P : Nat → Prop) (x : X) (tv : Value) (tb : Nat → Nat) (cv : Nat → Value) (C : Nat → List (Option Nat)) : Prop :=
  ∃ ev tk, RunG B f w rb P (x.mem tk) tv ev tb cv C ∧ TkOk x tk
def AfterX (B : Nat) (f : Owner) (w : World) (rb : Nat) (P : Nat → Prop) (x : X) (tv : Value) (tb : Nat → Nat) (cv : Nat → Value) (C : Nat → List (Option Nat)) (w' : World) : Prop := ∃ f', RunX B f' w' rb P x tv tb cv C ∧ Mv B P f w f' w'
theorem mem_step (x : X) (t : Nat) (tk tk' : Nat → Nat → List Int) : (x.mem tk).stepWith t (x.told t) tk' = (x.step t).mem tk' := by
  unfold M.stepWith X.mem
  have e1 : upd (fun t => decide (0 < x.taken t)) t (!(x.told t).f0) = fun u => decide (0 < (x.step t).taken u) := by
    funext u
    show (if u = t then (!(x.told t).f0) else decide (0 < x.taken u)) = decide (0 < (if u = t then (if (x.told t).f0 then 0 else x.taken t + 1) else x.taken u))
    by_cases e : u = t
    · subst e
      simp only [if_true]
      cases (x.told u).f0 <;> simp
    · simp only [if_neg e]
  have e2 : x.events ++ (if decide (0 < x.taken t) then [] else [⟨x.steps, t, x.at_ t, false⟩]) ++ (if (x.told t).f0 then [⟨x.steps, t, x.at_ t, true⟩] else []) = (x.step t).events := by
    show _ = x.events ++ x.begins t ++ x.ends t
    unfold X.begins X.ends
    by_cases e : x.taken t = 0
    · simp [e]
    · simp [e, Nat.pos_of_ne_zero e]
  simp only [e1, e2]
  rfl
theorem tk_step {x : X} {tk : Nat → Nat → List Int} (h : TkOk x tk) (t : Nat) (ht : t < x.n) (ha : x.at_ t < x.len t) (l : List Int) (hl : (x.told t).f0 = false → l.length = x.taken t + 1) :
    TkOk (x.step t) (fun s c => if s = t ∧ c = x.at_ t then l else tk s c) := by
  intro u hu
  by_cases e : u = t
  · subst e
    have h1 := h u ht
    have a' : (x.step u).at_ u = if (x.told u).f0 then x.at_ u + 1 else x.at_ u := if_pos rfl
    have t' : (x.step u).taken u = if (x.told u).f0 then 0 else x.taken u + 1 := if_pos rfl
    rw [a', t']
    cases hf : (x.told u).f0 with
    | true =>
      simp only [if_true]
      refine ⟨fun _ => ?_, fun c hc => ?_⟩
      · rw [if_neg (by omega), h1.2 _ (by omega)]; rfl
      · rw [if_neg (by omega)]; exact h1.2 c (by omega)
    | false =>
      simp only [Bool.false_eq_true, if_false]
      refine ⟨fun _ => ?_, fun c hc => ?_⟩
      · simp only [and_self, if_true]; exact hl hf
      · rw [if_neg (by omega)]; exact h1.2 c hc
  · have a' : (x.step t).at_ u = x.at_ u := if_neg e
    have t' : (x.step t).taken u = x.taken u := if_neg e
    have h1 := h u hu
    rw [a', t']
    refine ⟨fun hl => ?_, fun c hc => ?_⟩
    · show (if u = t ∧ x.at_ u = x.at_ t then l else tk u (x.at_ u)).length = _
      rw [if_neg (fun e2 => e e2.1)]; exact h1.1 hl
    · show (if u = t ∧ c = x.at_ t then l else tk u c) = _
      rw [if_neg (fun e2 => e e2.1)]; exact h1.2 c hc
theorem stepX {B : Nat} {f : Owner} {w : World} {rb : Nat} {P : Nat → Prop} {x : X} {tv : Value} {tb : Nat → Nat} {cv : Nat → Value} {C : Nat → List (Option Nat)} (h : RunX B f w rb P x tv tb cv C) (ok : x.Ok) (hP : ∀ i, P i → i < w.heap.size) (t : Nat) (ht : t < x.n) (ha : x.at_ t < x.len t) :
    Calls Try.prog 41 #[.pointer (some ⟨rb, 0, none⟩), .int .i64 (t : Int)] w (Quits (AfterX B f w rb P (x.step t) tv tb cv C)) := by
  obtain ⟨ev, tk, hg, hk⟩ := h
  have hev : ((x.mem tk).events.length + 2) * 32 ≤ 140737488355328 := by
    have := ok.few_le
    show (x.events.length + 2) * 32 ≤ _
    omega
  have h256 : (x.mem tk).len t ≤ 256 := ok.len256 t ht
  have hlen := hg.clen t ht
  obtain ⟨o, ho⟩ : ∃ o, (C t)[x.at_ t]? = some o := ⟨_, List.getElem?_eq_getElem (by rw [hlen]; exact ha)⟩
  have fin : ∀ tk', TkOk (x.step t) tk' → ∀ {d : S26}, x.told t = d → ∀ {e w'}, Quits (After B f w rb P ((x.mem tk).stepWith t d tk') tv tb cv C P) e w' → Quits (AfterX B f w rb P (x.step t) tv tb cv C) e w' := by
    intro tk' hk' d hd e w' hq
    obtain ⟨he, f', ev', h1, h2⟩ := hq
    rw [← hd, mem_step] at h1
    exact ⟨he, f', ⟨ev', tk', h1, hk'⟩, h2⟩
  cases o with
  | none =>
    have hp : x.proc t (x.at_ t) = none := hg.noplay t _ ht ho
    have ht0 : x.taken t = 0 := by
      have := ok.taken_lt t ht ha
      rw [hp] at this
      simp [stepsOf] at this
      exact this
    have hd : x.told t = ⟨true, false, []⟩ := by unfold X.told; rw [hp]
    have hbg : (x.mem tk).bg t = false := by show decide (0 < x.taken t) = false; rw [ht0]; rfl
    have hk' : TkOk (x.step t) tk := by
      have h1 := tk_step hk t ht ha (tk t (x.at_ t)) (fun e => by rw [hd] at e; cases e)
      have e : (fun s c => if s = t ∧ c = x.at_ t then tk t (x.at_ t) else tk s c) = tk := by
        funext s c
        split
        · rename_i e; rw [e.1, e.2]
        · rfl
      rw [e] at h1
      exact h1
    exact (stepFN hg t ht ha hev h256 hP hbg ho).mono (fun e w' hq => fin tk hk' hd hq)
  | some pb =>
    obtain ⟨_, _, turns, hp, _⟩ := hg.play t _ pb ht ho
    have hp' : x.proc t (x.at_ t) = some turns := hp
    obtain ⟨hs, hw⟩ := ok.short t _ turns ht hp'
    have htk : (tk t (x.at_ t)).length = x.taken t := (hk t ht).1 ha
    have hlt := ok.taken_lt t ht ha
    rw [hp'] at hlt
    have htl : (((x.mem tk).tk t ((x.mem tk).at_ t)).length + 1) * 8 ≤ 140737488355328 := by
      show ((tk t (x.at_ t)).length + 1) * 8 ≤ _
      rw [htk]
      unfold stepsOf at hlt
      simp only at hlt
      split at hlt <;> omega
    have hd : x.told t = pTurn turns (tk t (x.at_ t)).length := by unfold X.told; rw [hp', htk]
    have hk' := tk_step hk t ht ha (tk t (x.at_ t) ++ [(t : Int)]) (fun _ => by rw [List.length_append, List.length_singleton, htk])
    obtain ⟨⟨d0, d1, wk⟩, hd2⟩ : ∃ d, pTurn turns (tk t (x.at_ t)).length = d := ⟨_, rfl⟩
    rw [hd2] at hd
    cases hbg : (x.mem tk).bg t <;> cases d0 <;> cases d1
    · exact (stepFOf hg t ht ha hev h256 hP hbg ho hp hs hw htl hd2).mono (fun e w' hq => fin _ hk' hd hq)
    · exact (stepFOt hg t ht ha hev h256 hP hbg ho hp hs hw htl hd2).mono (fun e w' hq => fin _ hk' hd hq)
    · exact (stepFDf hg t ht ha hev h256 hP hbg ho hp hs hw htl hd2).mono (fun e w' hq => fin _ hk' hd hq)
    · exact (stepFDt hg t ht ha hev h256 hP hbg ho hp hs hw htl hd2).mono (fun e w' hq => fin _ hk' hd hq)
    · exact (stepBOf hg t ht ha hev h256 hP hbg ho hp hs hw htl hd2).mono (fun e w' hq => fin _ hk' hd hq)
    · exact (stepBOt hg t ht ha hev h256 hP hbg ho hp hs hw htl hd2).mono (fun e w' hq => fin _ hk' hd hq)
    · exact (stepBDf hg t ht ha hev h256 hP hbg ho hp hs hw htl hd2).mono (fun e w' hq => fin _ hk' hd hq)
    · exact (stepBDt hg t ht ha hev h256 hP hbg ho hp hs hw htl hd2).mono (fun e w' hq => fin _ hk' hd hq)
/-! ### Picks -/
def Picked (B : Nat) (f : Owner) (w : World) (rb : Nat) (P : Nat → Prop) (x : X) (p : Int) (tv : Value) (tb : Nat → Nat) (cv : Nat → Value) (C : Nat → List (Option Nat)) (en : Ending) (w' : World) : Prop :=
  en = .returned (.tuple #[.int .i64 ((x.pick p).2.1 : Int), .bool (x.pick p).2.2]) ∧ AfterX B f w rb P (x.pick p).1 tv tb cv C w'
theorem who_lt (x : X) (p : Int) (h : x.pickable p = true) : x.who p < x.n ∧ x.at_ (x.who p) < x.len (x.who p) ∧ (x.waits (x.who p)) = false := by
  unfold X.pickable at h
  simp only [Bool.and_eq_true, Bool.not_eq_true', beq_eq_false_iff_ne, ne_eq] at h
  have hl : p.toNat % x.ready.length < x.ready.length := Nat.mod_lt _ (by omega)
  have hm : x.who p ∈ x.ready := by
    unfold X.who
    rw [List.getD_eq_getElem?_getD, List.getElem?_eq_getElem hl]
    exact List.getElem_mem hl
  unfold X.ready at hm
  rw [List.mem_filter, List.mem_range] at hm
  refine ⟨hm.1, ?_⟩
  have := hm.2
  unfold X.can at this
  simpa using this
section
variable {B : Nat} {f : Owner} {w : World} {rb : Nat} {P : Nat → Prop} {x : X} {tv : Value} {tb : Nat → Nat} {cv : Nat → Value} {C : Nat → List (Option Nat)}
theorem RunX.below (h : RunX B f w rb P x tv tb cv C) {w1 : World} (hb : Below w.heap.size w w1) : RunX B f w1 rb P x tv tb cv C := by
  obtain ⟨ev, tk, hg, hk⟩ := h
  exact ⟨ev, tk, hg.below hb, hk⟩
theorem RunX.mv (h : RunX B f w rb P x tv tb cv C) {B' : Nat} {o : Nat → Prop} {f1 : Owner} {w1 : World} (m : Mv B' o f w f1 w1) (hn : ∀ i, P i → ¬ o i) : RunX B f1 w1 rb P x tv tb cv C := by
  obtain ⟨ev, tk, hg, hk⟩ := h
  exact ⟨ev, tk, hg.mv m hn, hk⟩
theorem RunX.size (h : RunX B f w rb P x tv tb cv C) : B ≤ w.heap.size ∧ rb < w.heap.size := by
  obtain ⟨ev, tk, hg, hk⟩ := h
  have := blk_lt hg.rblk
  have := hg.rbase
  omega
theorem AfterX.of_below (h : RunX B f w rb P x tv tb cv C) {w1 : World} (hb : Below w.heap.size w w1) : AfterX B f w rb P x tv tb cv C w1 :=
  ⟨f, h.below hb, Mv.of_below hb h.size.1 (fun _ _ => rfl)⟩
theorem AfterX.then (h : RunX B f w rb P x tv tb cv C) {w1 w2 : World} {y : X} (hb : Below w.heap.size w w1) (k : AfterX B f w1 rb P y tv tb cv C w2) : AfterX B f w rb P y tv tb cv C w2 := by
  obtain ⟨f', h1, h2⟩ := k
  exact ⟨f', h1, (Mv.of_below hb h.size.1 (fun _ _ => rfl)).trans h2⟩
theorem readyX (h : RunX B f w rb P x tv tb cv C) : Calls Try.prog 20 #[.pointer (some ⟨rb, 0, none⟩)] w (Made (Kd.int .i64) 3 w (ints x.ready)) := by
  obtain ⟨ev, tk, hg, hk⟩ := h; exact ready_walk hg
theorem waitingX (h : RunX B f w rb P x tv tb cv C) : Calls Try.prog 24 #[.pointer (some ⟨rb, 0, none⟩)] w (Made (Kd.int .i64) 3 w (ints x.waiting)) := by
  obtain ⟨ev, tk, hg, hk⟩ := h; exact waiting_walk hg
theorem doneX (h : RunX B f w rb P x tv tb cv C) : Calls Try.prog 28 #[.pointer (some ⟨rb, 0, none⟩)] w (Says w x.done) := by
  obtain ⟨ev, tk, hg, hk⟩ := h; exact done_walk hg
theorem stuckX (h : RunX B f w rb P x tv tb cv C) : Calls Try.prog 25 #[.pointer (some ⟨rb, 0, none⟩)] w (Says w x.stuck) := by
  obtain ⟨ev, tk, hg, hk⟩ := h; exact stuck_walk hg
theorem stepsX (h : RunX B f w rb P x tv tb cv C) : Calls Try.prog 23 #[.pointer (some ⟨rb, 0, none⟩)] w fun e w' => e = .returned (.int .i64 x.steps) ∧ w = w' := by
  obtain ⟨ev, tk, hg, hk⟩ := h; exact steps_walk hg
theorem eventsX (h : RunX B f w rb P x tv tb cv C) (ok : x.Ok) : Calls Try.prog 22 #[.pointer (some ⟨rb, 0, none⟩)] w (Made k51 51 w x.events) := by
  obtain ⟨ev, tk, hg, hk⟩ := h
  exact events_walk hg (by have := ok.few_le; show x.events.length * 32 ≤ _; omega)
end
set_option maxHeartbeats 4000000 in
set_option maxRecDepth 100000 in
theorem pick_walk {B : Nat} {f : Owner} {w : World} {rb : Nat} {P : Nat → Prop} {x : X} {tv : Value} {tb : Nat → Nat} {cv : Nat → Value} {C : Nat → List (Option Nat)} (h : RunX B f w rb P x tv tb cv C) (ok : x.Ok) (hP : ∀ i, P i → i < w.heap.size) (p : Int) :
    Calls Try.prog 21 #[.pointer (some ⟨rb, 0, none⟩), .int .i64 p] w (Picked B f w rb P x p tv tb cv C) := by
  have H := Aside0.mk h
  have HR := Aside0.mk (readyX h)
  have HOK := Aside0.mk ok
  have HPP := Aside0.mk hP
  obtain ⟨m, hm⟩ : ∃ m, x.ready.length = m := ⟨_, rfl⟩
  have HM := Aside0.mk hm
  have hm16 : m ≤ 16 := by
    rw [← hm]
    have h1 : x.ready.length ≤ (List.range x.n).length := List.length_filter_le _ _
    rw [List.length_range] at h1
    have := ok.n16
    omega
  by_cases hp : x.pickable p = true
  · have hw := who_lt x p hp
    have e : x.pick p = (x.step (x.who p), x.who p, true) := by unfold X.pick; rw [if_pos hp]
    unfold Picked
    rw [e]
    unfold X.pickable at hp
    simp only [Bool.and_eq_true, Bool.not_eq_true', beq_eq_false_iff_ne, ne_eq, decide_eq_true_eq] at hp
    obtain ⟨⟨h0, h1⟩, h2⟩ := hp
    have hm0 : 0 < m := by omega
    have hm0' : ¬ m = 0 := by omega
    have hm0'' : ((m : Int) == 0) = false := by rw [beq0]; simpa using hm0'
    obtain ⟨q, rfl⟩ : ∃ q : Nat, p = (q : Int) := ⟨p.toNat, by omega⟩
    obtain ⟨t, ht⟩ : ∃ t, x.who (q : Int) = t := ⟨_, rfl⟩
    have HT := Aside0.mk ht
    rw [ht] at hw
    rw [ht]
    have HW := Aside0.mk hw
    have g1 : decide ((q : Int) < 0) = false := decide_eq_false (by omega)
    have g2 : decide ((2147483647 : Int) < (q : Int)) = false := decide_eq_false (by omega)
    have hq1 : (q : Int) ≤ 2147483647 := h1
    have hqm : q % m < m := Nat.mod_lt _ hm0
    obtain ⟨i, hi⟩ : ∃ i, q % m = i := ⟨_, rfl⟩
    rw [hi] at hqm
    have em : (q : Int) % (m : Int) = (i : Int) := by rw [← hi]; rfl
    have et : (q : Int).tmod (m : Int) = (i : Int) := by rw [← hi]; rfl
    have HTV : Aside0 ((ints x.ready).getD i 0 = (t : Int)) := ⟨by
      have h3 : x.ready.getD ((q : Int).toNat % x.ready.length) 0 = t := ht
      rw [hm, Int.toNat_natCast, hi] at h3
      rw [← h3]
      unfold ints
      rw [List.getD_eq_getElem?_getD, List.getElem?_map, List.getD_eq_getElem?_getD, List.getElem?_eq_getElem (by rw [hm]; exact hqm)]
      rfl⟩
    have g3 : decide ((i : Int) < (m : Int)) = true := decide_eq_true (by omega)
    have HI := Aside0.mk hqm
    clear hi
    clear h ok hP hm h2 e hw ht
    go_enter Try.func21, Try.ntmps21
    go_wp2_with (first
      | (go_at_call 20; refine HR.out.mono ?_; rintro e w1 ⟨v, rfl, hR, hb⟩; obtain ⟨A1, c1, hv⟩ := Kd.R_slice hR; rw [len_ints, HM.out] at hv; subst hv; have R1 := Aside0.mk hR; obtain ⟨ad1, ea, x1⟩ := (Kd.reads_of_C (d := 0) (R_C hR).1).at_ (i : Int) (by omega) (by have := HI.out; omega); subst ea; simp only [Int.toNat_natCast, rdOf, HTV.out] at x1; have B1 := Aside0.mk hb; clear hR hb)
      | (go_at_call 41; refine (stepX (H.out.below B1.out) HOK.out (fun i hi => Nat.lt_of_lt_of_le (HPP.out i hi) B1.out.size) t HW.out.1 HW.out.2.1).mono ?_; rintro e w2 ⟨rfl, hh⟩; have A2 := Aside0.mk hh; clear hh))
    go_ret2
    exact ⟨rfl, AfterX.then H.out B1.out A2.out⟩
  · have e : x.pick p = (x, 0, false) := by unfold X.pick; rw [if_neg hp]
    unfold Picked
    rw [e]
    unfold X.pickable at hp
    have hcase : p < 0 ∨ (0 ≤ p ∧ 2147483647 < p) ∨ (0 ≤ p ∧ p ≤ 2147483647 ∧ m = 0) := by
      by_cases c1 : p < 0
      · exact .inl c1
      · by_cases c2 : p ≤ 2147483647
        · refine .inr (.inr ⟨by omega, c2, ?_⟩)
          by_cases c3 : m = 0
          · exact c3
          · exfalso
            apply hp
            simp only [Bool.and_eq_true, Bool.not_eq_true', beq_eq_false_iff_ne, ne_eq, decide_eq_true_eq]
            exact ⟨⟨by omega, c2⟩, by omega⟩
        · exact .inr (.inl ⟨by omega, by omega⟩)
    clear h ok hP hm hp e
    rcases hcase with c | ⟨c1, c2⟩ | ⟨c1, c2, c3⟩
    · have g1 : decide (p < 0) = true := decide_eq_true c
      go_enter Try.func21, Try.ntmps21
      go_wp2_with (go_at_call 20; refine HR.out.mono ?_; rintro e w1 ⟨v, rfl, hR, hb⟩; obtain ⟨A1, c1, hv⟩ := Kd.R_slice hR; rw [len_ints, HM.out] at hv; subst hv; have B1 := Aside0.mk hb; clear hR hb)
      go_ret2
      exact ⟨rfl, AfterX.of_below H.out B1.out⟩
    · have g1 : decide (p < 0) = false := decide_eq_false (by omega)
      have g2 : decide (2147483647 < p) = true := decide_eq_true c2
      go_enter Try.func21, Try.ntmps21
      go_wp2_with (go_at_call 20; refine HR.out.mono ?_; rintro e w1 ⟨v, rfl, hR, hb⟩; obtain ⟨A1, c1, hv⟩ := Kd.R_slice hR; rw [len_ints, HM.out] at hv; subst hv; have B1 := Aside0.mk hb; clear hR hb)
      go_ret2
      exact ⟨rfl, AfterX.of_below H.out B1.out⟩
    · have g1 : decide (p < 0) = false := decide_eq_false (by omega)
      have g2 : decide (2147483647 < p) = false := decide_eq_false (by omega)
      subst c3
      go_enter Try.func21, Try.ntmps21
      go_wp2_with (go_at_call 20; refine HR.out.mono ?_; rintro e w1 ⟨v, rfl, hR, hb⟩; obtain ⟨A1, c1, hv⟩ := Kd.R_slice hR; rw [len_ints, HM.out] at hv; subst hv; have B1 := Aside0.mk hb; clear hR hb)
      go_ret2
      exact ⟨rfl, AfterX.of_below H.out B1.out⟩
/-! ### Run and Finish -/
theorem run_snoc (x : X) (l : List Int) (p : Int) : x.run (l ++ [p]) = (((x.run l).1.pick p).1, (x.run l).2 + if ((x.run l).1.pick p).2.2 then 1 else 0) := by
  induction l generalizing x with
  | nil => rfl
  | cons q l ih =>
    show ((((x.pick q).1.run (l ++ [p])).1, ((x.pick q).1.run (l ++ [p])).2 + if (x.pick q).2.2 then 1 else 0) : X × Nat) = _
    rw [ih]
    show _ = ((((x.pick q).1.run l).1.pick p).1, (((x.pick q).1.run l).2 + if (x.pick q).2.2 then 1 else 0) + if (((x.pick q).1.run l).1.pick p).2.2 then 1 else 0)
    congr 1
    simp only
    omega
theorem pick_ok {x : X} (h : x.Ok) (p : Int) : (x.pick p).1.Ok := by
  unfold X.pick
  by_cases hp : x.pickable p = true
  · rw [if_pos hp]
    have hw := who_lt x p hp
    exact X.step_ok h _ hw.1 hw.2.1
  · rw [if_neg hp]; exact h
theorem run_ok {x : X} (h : x.Ok) (l : List Int) : (x.run l).1.Ok := by
  induction l generalizing x with
  | nil => exact h
  | cons q l ih => exact ih (pick_ok h q)
theorem run_le (x : X) (l : List Int) : (x.run l).2 ≤ l.length := by
  induction l generalizing x with
  | nil => simp [X.run]
  | cons q l ih =>
    show ((x.pick q).1.run l).2 + (if (x.pick q).2.2 then 1 else 0) ≤ l.length + 1
    have := ih (x.pick q).1
    split <;> omega
/-- The least that can run takes a step, n times. -/
def X.fin (x : X) : Nat → X
  | 0 => x
  | n + 1 => ((x.fin n).pick 0).1
theorem fin_ok {x : X} (h : x.Ok) : ∀ n, (x.fin n).Ok
  | 0 => h
  | n + 1 => pick_ok (fin_ok h n) 0
theorem fin_stop {x : X} {k : Nat} (h : (x.fin k).pickable 0 = false) : ∀ j, x.fin (k + j) = x.fin k
  | 0 => rfl
  | j + 1 => by
    show ((x.fin (k + j)).pick 0).1 = _
    rw [fin_stop h j]
    unfold X.pick
    rw [if_neg (by rw [h]; decide)]
theorem pick_said (x : X) (p : Int) : (x.pick p).2.2 = x.pickable p := by
  unfold X.pick
  by_cases h : x.pickable p = true
  · rw [if_pos h, h]
  · rw [if_neg h]; rw [Bool.not_eq_true] at h; exact h.symm
section
variable {B : Nat} {f : Owner} {w : World} {rb : Nat} {P : Nat → Prop} {x : X} {tv : Value} {tb : Nat → Nat} {cv : Nat → Value} {C : Nat → List (Option Nat)}
theorem AfterX.pick {w1 : World} (h : AfterX B f w rb P x tv tb cv C w1) (ok : x.Ok) (hP : ∀ i, P i → i < w.heap.size) (p : Int) :
    Calls Try.prog 21 #[.pointer (some ⟨rb, 0, none⟩), .int .i64 p] w1 fun en w2 => en = .returned (.tuple #[.int .i64 ((x.pick p).2.1 : Int), .bool (x.pick p).2.2]) ∧ AfterX B f w rb P (x.pick p).1 tv tb cv C w2 := by
  obtain ⟨f', h1, m1⟩ := h
  refine (pick_walk h1 ok (fun i hi => Nat.lt_of_lt_of_le (hP i hi) m1.below.size) p).mono ?_
  rintro e w2 ⟨he, f2, h2, m2⟩
  exact ⟨he, f2, h2, m1.trans m2⟩
end
def Counted (B : Nat) (f : Owner) (w : World) (rb : Nat) (P : Nat → Prop) (x : X) (n : Nat) (tv : Value) (tb : Nat → Nat) (cv : Nat → Value) (C : Nat → List (Option Nat)) (en : Ending) (w' : World) : Prop := en = .returned (.int .i64 (n : Int)) ∧ AfterX B f w rb P x tv tb cv C w'
def Ended (B : Nat) (f : Owner) (w : World) (rb : Nat) (P : Nat → Prop) (x : X) (tv : Value) (tb : Nat → Nat) (cv : Nat → Value) (C : Nat → List (Option Nat)) (en : Ending) (w' : World) : Prop := en = .returned (.bool x.done) ∧ AfterX B f w rb P x tv tb cv C w'
set_option maxHeartbeats 4000000 in
set_option maxRecDepth 100000 in
theorem run_walk {w0 : World} {f : Owner} {w : World} {rb : Nat} {P : Nat → Prop} {x : X} {tv : Value} {tb : Nat → Nat} {cv : Nat → Value} {C : Nat → List (Option Nat)} (h : RunX w0.heap.size f w rb P x tv tb cv C) (ok : x.Ok) (hP : ∀ i, P i → i < w.heap.size)
    (hb : Below w0.heap.size w0 w) {A : Option Addr} {c : Nat} {l : List Int} (hC : (Kd.int .i64).C w0 A l.length l) :
    Calls Try.prog 19 #[.pointer (some ⟨rb, 0, none⟩), .slice A l.length c] w (Counted w0.heap.size f w rb P (x.run l).1 (x.run l).2 tv tb cv C) := by
  have HC := Aside0.mk hC
  have HPP := Aside0.mk hP
  have HOK := Aside0.mk ok
  have HB := Aside0.mk hb
  have S0 : Aside0 (AfterX w0.heap.size f w rb P (x.run (l.take 0)).1 tv tb cv C w) := ⟨AfterX.of_below h (Below.refl _ _)⟩
  obtain ⟨ln, hln⟩ : ∃ ln, l.length = ln := ⟨_, rfl⟩
  have HLN := Aside0.mk hln
  have hmax : ln ≤ 9223372036854775807 := by rw [← hln]; exact hC.2.1
  rw [hln]
  clear h ok hP hb hC hln
  go_enter Try.func19, Try.ntmps19
  go_wp2
  go_loopw [5, 12] (fun v idx wr => ∃ k : Nat, k ≤ ln ∧ idx = .int .i64 (k : Int) ∧ v = .int .i64 (((x.run (l.take k)).2 : Nat) : Int) ∧ Aside0 (AfterX w0.heap.size f w rb P (x.run (l.take k)).1 tv tb cv C wr)) (fun _ idx _ => ln - (intOf idx).toNat)
  case atStart => exact ⟨0, Nat.zero_le _, rfl, rfl, S0⟩
  case round =>
    obtain ⟨k, hk, rfl, rfl, SK⟩ := hrel
    have hcnt : (x.run (l.take k)).2 ≤ k := Nat.le_trans (run_le _ _) (List.length_take_le _ _)
    obtain ⟨cnt, hc⟩ : ∃ cnt, (x.run (l.take k)).2 = cnt := ⟨_, rfl⟩
    have HCN := Aside0.mk hc
    rw [hc] at hcnt
    rw [hc]
    clear hc
    by_cases hlt : k < ln
    · have HBR : Aside0 (Below w0.heap.size w0 wr) := ⟨by obtain ⟨f', _, m⟩ := SK.out; exact HB.out.trans m.below⟩
      obtain ⟨ad, ead, cz⟩ := (Kd.reads_of_C (d := 0) (Kd.C_below HC.out HBR.out)).at_ (k : Int) (by omega) (by have := HLN.out; omega)
      simp only [Int.toNat_natCast, rdOf] at cz
      subst ead
      obtain ⟨p, hp⟩ : ∃ p, l.getD k 0 = p := ⟨_, rfl⟩
      rw [hp] at cz
      have hs : l.take (k + 1) = l.take k ++ [p] := by
        have hkl : k < l.length := by have := HLN.out; omega
        rw [List.take_succ_eq_append_getElem hkl, ← hp, List.getD_eq_getElem?_getD, List.getElem?_eq_getElem hkl]
        rfl
      have HP1 := Aside0.mk (AfterX.pick SK.out (run_ok HOK.out _) HPP.out p)
      have HS := Aside0.mk (show x.run (l.take (k + 1)) = _ by rw [hs, run_snoc])
      clear hp hs
      cases hok : ((x.run (l.take k)).1.pick p).2.2 with
      | true =>
        rw [hok] at HP1 HS
        clear hok
        go_wp2_with (go_at_call 21; refine HP1.out.mono ?_; rintro e w2 ⟨rfl, hh⟩; have A2 := Aside0.mk hh; clear hh)
        go_roundw
        case rel => exact ⟨k + 1, by omega, by go_num, by rw [HS.out, HCN.out]; rfl, ⟨by rw [HS.out]; exact A2.out⟩⟩
        case measure => simp [intOf]; omega
      | false =>
        rw [hok] at HP1 HS
        clear hok
        go_wp2_with (go_at_call 21; refine HP1.out.mono ?_; rintro e w2 ⟨rfl, hh⟩; have A2 := Aside0.mk hh; clear hh)
        go_roundw
        case rel => exact ⟨k + 1, by omega, by go_num, by rw [HS.out, HCN.out]; rfl, ⟨by rw [HS.out]; exact A2.out⟩⟩
        case measure => simp [intOf]; omega
    · have hkl : k = ln := by omega
      subst hkl
      go_wp2
      go_ret
      have e : l.take k = l := by rw [← HLN.out, List.take_length]
      have h1 := SK.out
      have h2 := HCN.out
      rw [e] at h1 h2
      exact ⟨by rw [h2]; rfl, h1⟩
set_option maxHeartbeats 4000000 in
set_option maxRecDepth 100000 in
theorem finish_walk {B : Nat} {f : Owner} {w : World} {rb : Nat} {P : Nat → Prop} {x : X} {tv : Value} {tb : Nat → Nat} {cv : Nat → Value} {C : Nat → List (Option Nat)} (h : RunX B f w rb P x tv tb cv C) (ok : x.Ok) (hP : ∀ i, P i → i < w.heap.size) (most : Int) (hm : most ≤ 9223372036854775807) :
    Calls Try.prog 26 #[.pointer (some ⟨rb, 0, none⟩), .int .i64 most] w (Ended B f w rb P (x.fin most.toNat) tv tb cv C) := by
  have HPP := Aside0.mk hP
  have HOK := Aside0.mk ok
  have S0 : Aside0 (AfterX B f w rb P (x.fin 0) tv tb cv C w) := ⟨AfterX.of_below h (Below.refl _ _)⟩
  have DN := Aside0.mk (fun (w2 : World) (y : X) (k : AfterX B f w rb P y tv tb cv C w2) => (show Calls Try.prog 28 #[.pointer (some ⟨rb, 0, none⟩)] w2 (fun en w3 => en = .returned (.bool y.done) ∧ AfterX B f w rb P y tv tb cv C w3) from by
    obtain ⟨f', h1, m1⟩ := k
    refine (doneX h1).mono ?_
    rintro e w3 ⟨he, hb⟩
    exact ⟨he, f', h1.below hb, m1.trans (Mv.of_below hb h1.size.1 (fun _ _ => rfl))⟩))
  obtain ⟨mn, hmn⟩ : ∃ mn, most.toNat = mn := ⟨_, rfl⟩
  rw [hmn]
  have HMN : Aside0 (mn ≤ 9223372036854775807) := ⟨by omega⟩
  have emax : (if most < 0 then (0 : Int) else most) = (mn : Int) := by split <;> omega
  have emax2 : (if (0 : Int) < most then most else 0) = (mn : Int) := by split <;> omega
  clear h ok hP hmn hm
  go_enter Try.func26, Try.ntmps26
  go_wp2
  go_loopw [9] (fun idx wr => ∃ k : Nat, k ≤ mn ∧ idx = .int .i64 (k : Int) ∧ Aside0 (AfterX B f w rb P (x.fin k) tv tb cv C wr)) (fun idx _ => mn - (intOf idx).toNat)
  case atStart => exact ⟨0, Nat.zero_le _, rfl, S0⟩
  case round =>
    obtain ⟨k, hk, rfl, SK⟩ := hrel
    have hmn := HMN.out
    by_cases hlt : k < mn
    · have HP1 := Aside0.mk (AfterX.pick SK.out (fin_ok HOK.out k) HPP.out 0)
      cases hp : (x.fin k).pickable 0 with
      | true =>
        rw [pick_said, hp] at HP1
        clear hp
        go_wp2_with (go_at_call 21; refine HP1.out.mono ?_; rintro e w2 ⟨rfl, hh⟩; have A2 := Aside0.mk hh; clear hh)
        go_roundw
        case rel => exact ⟨k + 1, by omega, by go_num, A2⟩
        case measure => simp [intOf]; omega
      | false =>
        rw [pick_said, hp] at HP1
        have HSTOP : Aside0 (x.fin mn = x.fin k ∧ ((x.fin k).pick 0).1 = x.fin k) := ⟨by
          refine ⟨?_, fin_stop hp 1⟩
          obtain ⟨j, hj⟩ : ∃ j, mn = k + j := ⟨mn - k, by omega⟩
          rw [hj]; exact fin_stop hp j⟩
        clear hp
        go_wp2_with (first
          | (go_at_call 21; refine HP1.out.mono ?_; rintro e w2 ⟨rfl, hh⟩; have A2 := Aside0.mk hh; clear hh)
          | (go_at_call 28; refine (DN.out _ _ (by have h := A2.out; rw [HSTOP.out.2] at h; exact h)).mono ?_; rintro e w3 ⟨rfl, hh⟩; have A3 := Aside0.mk hh; clear hh))
        go_ret
        exact ⟨by rw [HSTOP.out.1]; rfl, by rw [HSTOP.out.1]; exact A3.out⟩
    · have hkl : k = mn := by omega
      subst hkl
      go_wp2_with (go_at_call 28; refine (DN.out _ _ SK.out).mono ?_; rintro e w3 ⟨rfl, hh⟩; have A3 := Aside0.mk hh; clear hh)
      go_ret
      exact ⟨rfl, A3.out⟩
end Go.Proofs.Ytkigbgabnbjomaa.Sched
