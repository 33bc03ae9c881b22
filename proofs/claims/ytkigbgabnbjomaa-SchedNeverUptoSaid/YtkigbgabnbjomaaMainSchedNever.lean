/- The law SchedNever, walked by hand; and the call.
   No condition. -/
import Derived.Test.YtkigbgabnbjomaaSchI
import Derived.ArgAppend
import Derived.BigRegion
import Derived.Deep.QuietTactic
import Derived.BigQuiet
import Derived.Deep.RegionHeld3
import Derived.ChangeAlike
import Derived.RegionTactic
import Derived.Deep.DeepCutAuto
import Derived.Deep.CutBlock
import Derived.Deep.RegionLaw
import Derived.StillTailTactics
import Derived.WalkSpells
import Derived.Lib.SliceRun
namespace Go.Proofs.Ytkigbgabnbjomaa.Sched
open Go.Proofs.Ytkigbgabnbjomaa.PSchedPlays
open Go.RowKit Go.Proofs.YtkigbgabnbjomaaW.PrintWords Go.Proofs.YtkigbgabnbjomaaW.PrintLast Go.Proofs.YtkigbgabnbjomaaW.PrintMore
attribute [local go_sem] max2_int min2_int max_two min_two   -- for this text's walks alone
set_option linter.unusedVariables false
set_option linter.unusedSimpArgs false
/-! ### Where no step waits -/
structure CalmX (x : X) : Prop where
  procs : ∀ (t c : Nat) turns, x.proc t c = some turns → turns = List.replicate turns.length z26
  still : ∀ t, x.waits t = false
theorem calm_turn {turns : List S26} (h : turns = List.replicate turns.length z26) (k : Nat) : (pTurn turns k).f1 = false ∧ (pTurn turns k).f2 = [] := by
  unfold pTurn
  split
  · exact ⟨rfl, rfl⟩
  · rename_i h0
    have e : ∀ i, turns.getD i z26 = z26 := fun i => by
      rw [h, List.getD_eq_getElem?_getD]
      by_cases hi : i < turns.length
      · rw [List.getElem?_replicate, if_pos hi]; rfl
      · rw [List.getElem?_replicate, if_neg hi]; rfl
    simp only [e]
    exact ⟨rfl, rfl⟩
theorem CalmX.told {x : X} (h : CalmX x) (t : Nat) : (x.told t).f1 = false ∧ (x.told t).f2 = [] := by
  unfold X.told
  cases hp : x.proc t (x.at_ t) with
  | none => exact ⟨rfl, rfl⟩
  | some turns => exact calm_turn (h.procs _ _ _ hp) _
theorem CalmX.step {x : X} (h : CalmX x) (t : Nat) : CalmX (x.step t) := by
  refine ⟨h.procs, fun u => ?_⟩
  show (if (u : Int) ∈ (x.told t).f2 then false else if u = t then ((x.told t).f1 && !(x.told t).f0) else x.waits u) = false
  rw [(h.told t).1, (h.told t).2, h.still u]
  simp
theorem CalmX.pick {x : X} (h : CalmX x) (p : Int) : CalmX (x.pick p).1 := by
  unfold X.pick
  split
  · exact h.step _
  · exact h
theorem CalmX.run : ∀ (l : List Int) {x : X}, CalmX x → CalmX (x.run l).1
  | [], _, h => h
  | p :: l, x, h => CalmX.run l (h.pick p)
theorem CalmX.can {x : X} (h : CalmX x) (t : Nat) : x.can t = decide (x.at_ t < x.len t) := by
  unfold X.can
  rw [h.still t]
  simp
theorem ready_nodup (x : X) : x.ready.Nodup := List.nodup_range.sublist List.filter_sublist
theorem mem_ready (x : X) (t : Nat) : t ∈ x.ready ↔ t < x.n ∧ x.can t = true := by
  unfold X.ready
  rw [List.mem_filter, List.mem_range]
/-- Behind a step of t just t may have gone. -/
theorem CalmX.ready_step {x : X} (h : CalmX x) {A B : List Nat} {t : Nat} (hr : x.ready = A ++ t :: B) : (x.step t).ready = A ++ ((if (x.step t).can t then [t] else []) ++ B) := by
  have hs := h.step t
  have ht : t ∈ x.ready := by rw [hr]; simp
  obtain ⟨htn, htc⟩ := (mem_ready x t).1 ht
  have other : ∀ u, u ≠ t → (x.step t).can u = x.can u := fun u hu => by
    rw [hs.can, h.can]
    show decide ((if u = t then _ else x.at_ u) < x.len u) = _
    rw [if_neg hu]
  have e : (x.step t).ready = x.ready.filter (x.step t).can := by
    unfold X.ready
    rw [List.filter_filter]
    show (List.range x.n).filter (x.step t).can = _
    apply List.filter_congr
    intro u _
    by_cases hu : u = t
    · subst hu; rw [htc, Bool.and_true]
    · rw [other u hu, Bool.and_self]
  have nd := ready_nodup x
  rw [hr, List.nodup_append] at nd
  obtain ⟨nA, nB, nAB⟩ := nd
  have htB : t ∉ B := (List.nodup_cons.1 nB).1
  rw [e, hr, List.filter_append, List.filter_cons]
  have fA : A.filter (x.step t).can = A := by
    rw [List.filter_eq_self]
    intro u hu
    rw [other u (nAB u hu t (List.mem_cons_self ..))]
    exact ((mem_ready x u).1 (by rw [hr]; exact List.mem_append_left _ hu)).2
  have fB : B.filter (x.step t).can = B := by
    rw [List.filter_eq_self]
    intro u hu
    rw [other u (fun e => htB (by rw [← e]; exact hu))]
    exact ((mem_ready x u).1 (by rw [hr]; exact List.mem_append_right _ (List.mem_cons_of_mem _ hu))).2
  rw [fA, fB]
  cases (x.step t).can t <;> rfl
/-- i of those that were ready have taken a step; d of them are done. -/
structure FairSt (R : List Nat) (i d : Nat) (y : X) : Prop where
  ok : y.Ok
  calm : CalmX y
  rest : ∃ A, y.ready = A ++ R.drop i ∧ A.length + d = i
theorem FairSt.len {R : List Nat} {i d : Nat} {y : X} (h : FairSt R i d y) (hi : i ≤ R.length) : d ≤ i ∧ y.ready.length = i - d + (R.length - i) ∧ y.ready.length ≤ 16 := by
  obtain ⟨A, hr, hd⟩ := h.rest
  refine ⟨by omega, by rw [hr, List.length_append, List.length_drop]; omega, ?_⟩
  have h1 : y.ready.length ≤ (List.range y.n).length := List.length_filter_le _ _
  rw [List.length_range] at h1
  have := h.ok.n16
  omega
theorem FairSt.next {R : List Nat} {i d : Nat} {y : X} (h : FairSt R i d y) (hi : i < R.length) :
    y.pick ((i - d : Nat) : Int) = (y.step R[i], R[i], true) ∧ (y.step R[i]).ready.length ≤ y.ready.length ∧ FairSt R (i + 1) (d + (y.ready.length - (y.step R[i]).ready.length)) (y.step R[i]) := by
  have hl := h.len (Nat.le_of_lt hi)
  obtain ⟨A, hr, hd⟩ := h.rest
  rw [List.drop_eq_getElem_cons hi] at hr
  have hp : y.pickable ((i - d : Nat) : Int) = true := by
    unfold X.pickable
    simp only [Bool.and_eq_true, Bool.not_eq_true', beq_eq_false_iff_ne, ne_eq, decide_eq_true_eq]
    refine ⟨⟨by omega, by omega⟩, by omega⟩
  have hw : y.who ((i - d : Nat) : Int) = R[i] := by
    unfold X.who
    rw [Int.toNat_natCast, Nat.mod_eq_of_lt (by omega), List.getD_eq_getElem?_getD, hr, List.getElem?_append_right (by omega), show i - d - A.length = 0 by omega]
    rfl
  have hs := h.calm.ready_step hr
  have ht : R[i] ∈ y.ready := by rw [hr]; exact List.mem_append_right _ (List.mem_cons_self ..)
  obtain ⟨htn, htc⟩ := (mem_ready y _).1 ht
  rw [h.calm.can, decide_eq_true_eq] at htc
  have l1 : y.ready.length = A.length + (1 + (R.drop (i + 1)).length) := by rw [hr, List.length_append, List.length_cons]; omega
  have l2 : (y.step R[i]).ready.length = A.length + ((if (y.step R[i]).can R[i] then 1 else 0) + (R.drop (i + 1)).length) := by
    rw [hs, List.length_append, List.length_append]
    cases (y.step R[i]).can R[i] <;> rfl
  refine ⟨by unfold X.pick; rw [if_pos hp, hw], by rw [l1, l2]; split <;> omega, X.step_ok h.ok _ htn htc, h.calm.step _, ?_⟩
  cases hc : (y.step R[i]).can R[i] with
  | true =>
    rw [hc] at l2 hs
    exact ⟨A ++ [R[i]], by rw [hs]; simp, by rw [l1, l2, List.length_append, List.length_singleton]; simp; omega⟩
  | false =>
    rw [hc] at l2 hs
    exact ⟨A, by rw [hs]; simp, by rw [l1, l2]; simp; omega⟩
theorem sizes_calms {calls : List (List (List S26))} (h : Sizes calls) : Sizes (calms calls) := by
  refine ⟨by unfold calms; rw [List.length_map]; exact h.1, fun cl hcl => ?_⟩
  obtain ⟨x, hx, rfl⟩ := List.mem_map.1 hcl
  obtain ⟨h3, h4⟩ := h.2 x hx
  refine ⟨by unfold calm; rw [List.length_map]; exact h3, fun turns ht => ?_⟩
  obtain ⟨y, hy, rfl⟩ := List.mem_map.1 ht
  refine ⟨by rw [List.length_replicate]; exact (h4 y hy).1, fun z hz => ?_⟩
  rw [(List.mem_replicate.1 hz).2]
  decide
theorem calm_xOf (calls : List (List (List S26))) : CalmX (xOf (calms calls)) := by
  refine ⟨fun t c turns hp => ?_, fun t => rfl⟩
  have hp' : ((calms calls).getD t [])[c]? = some turns := hp
  unfold calms at hp'
  rw [List.getD_eq_getElem?_getD, List.getElem?_map] at hp'
  cases hc : calls[t]? with
  | none => rw [hc] at hp'; simp at hp'
  | some cl =>
    rw [hc] at hp'
    have hp2 : (calm cl)[c]? = some turns := hp'
    unfold calm at hp2
    rw [List.getElem?_map] at hp2
    cases hd : cl[c]? with
    | none => rw [hd] at hp2; cases hp2
    | some ts =>
      rw [hd] at hp2
      injection hp2 with hp2
      rw [← hp2, List.length_replicate]
/-! ### How many steps there are -/
def rowSum (cl : List (List S26)) : Nat := (cl.map fun turns => turns.length + 1).sum
def turnsSum (calls : List (List (List S26))) : Nat := (calls.map rowSum).sum
theorem sumTo_list {α : Type} (F : Option α → Nat) (G : α → Nat) (h : ∀ a, F (some a) ≤ G a) (l : List α) : sumTo (fun c => F l[c]?) l.length ≤ (l.map G).sum := by
  have key : ∀ n, n ≤ l.length → sumTo (fun c => F l[c]?) n ≤ ((l.take n).map G).sum := by
    intro n
    induction n with
    | zero => intro _; exact Nat.zero_le _
    | succ n ih =>
      intro hn
      have hlt : n < l.length := by omega
      unfold sumTo
      rw [List.take_succ_eq_append_getElem hlt, List.map_append, List.sum_append, List.getElem?_eq_getElem hlt]
      have := ih (by omega)
      have := h l[n]
      simp only [List.map_cons, List.map_nil, List.sum_cons, List.sum_nil]
      omega
  have := key l.length (Nat.le_refl _)
  rwa [List.take_length] at this
theorem sumTo_mono (g g' : Nat → Nat) : ∀ n, (∀ u, u < n → g u ≤ g' u) → sumTo g n ≤ sumTo g' n
  | 0, _ => Nat.le_refl _
  | n + 1, h => by
    unfold sumTo
    have := sumTo_mono g g' n (fun u hu => h u (by omega))
    have := h n (by omega)
    omega
theorem sumTo_lt (g g' : Nat → Nat) (t : Nat) : ∀ n, t < n → (∀ u, u < n → g u ≤ g' u) → g t < g' t → sumTo g n < sumTo g' n
  | 0, h, _, _ => by omega
  | n + 1, h, hm, hl => by
    unfold sumTo
    have h1 := hm n (by omega)
    by_cases e : t = n
    · subst e
      have := sumTo_mono g g' t (fun u hu => hm u (by omega))
      omega
    · have := sumTo_lt g g' t n (by omega) (fun u hu => hm u (by omega)) hl
      omega
theorem sumTo_up (g : Nat → Nat) : ∀ {a b : Nat}, a ≤ b → sumTo g a ≤ sumTo g b
  | a, b, h => by
    induction b with
    | zero => have : a = 0 := by omega
              subst this; exact Nat.le_refl _
    | succ b ih =>
      by_cases e : a = b + 1
      · subst e; exact Nat.le_refl _
      · have := ih (by omega)
        show sumTo g a ≤ sumTo g b + g b
        omega
/-- All steps of a task, and those taken. -/
def X.allT (x : X) (t : Nat) : Nat := sumTo (fun c => stepsOf (x.proc t c)) (x.len t)
def X.progT (x : X) (t : Nat) : Nat := sumTo (fun c => stepsOf (x.proc t c)) (x.at_ t) + x.taken t
def X.total (x : X) : Nat := sumTo x.allT x.n
def X.prog (x : X) : Nat := sumTo x.progT x.n
theorem progT_lt {x : X} (h : x.Ok) (t : Nat) (ht : t < x.n) (ha : x.at_ t < x.len t) : x.progT t < x.allT t := by
  have h1 := h.taken_lt t ht ha
  have h2 : sumTo (fun c => stepsOf (x.proc t c)) (x.at_ t + 1) ≤ x.allT t := sumTo_up _ ha
  have h3 : sumTo (fun c => stepsOf (x.proc t c)) (x.at_ t + 1) = sumTo (fun c => stepsOf (x.proc t c)) (x.at_ t) + stepsOf (x.proc t (x.at_ t)) := rfl
  unfold X.progT
  omega
theorem progT_le {x : X} (h : x.Ok) (t : Nat) (ht : t < x.n) : x.progT t ≤ x.allT t := by
  by_cases ha : x.at_ t < x.len t
  · exact Nat.le_of_lt (progT_lt h t ht ha)
  · have e : x.at_ t = x.len t := by have := h.at_le t ht; omega
    unfold X.progT X.allT
    rw [h.taken_0 t ht (by omega), e]
    exact Nat.le_refl _
theorem calm_done {turns : List S26} (h : turns = List.replicate turns.length z26) {k : Nat} (hk : (pTurn turns k).f0 = true) (hlt : k < stepsOf (some turns)) : k + 1 = stepsOf (some turns) := by
  unfold stepsOf at hlt ⊢
  simp only at hlt ⊢
  by_cases h0 : turns.length = 0
  · rw [if_pos h0] at hlt ⊢; omega
  · rw [if_neg h0] at hlt ⊢
    unfold pTurn at hk
    rw [if_neg h0] at hk
    have e : ∀ i, turns.getD i z26 = z26 := fun i => by
      rw [h, List.getD_eq_getElem?_getD]
      by_cases hi : i < turns.length
      · rw [List.getElem?_replicate, if_pos hi]; rfl
      · rw [List.getElem?_replicate, if_neg hi]; rfl
    simp only [e] at hk
    have h2 : (z26.f0 || decide ((if k < turns.length - 1 then k else turns.length - 1) = turns.length - 1)) = true := hk
    have h3 : z26.f0 = false := rfl
    rw [h3, Bool.false_or, decide_eq_true_eq] at h2
    split at h2 <;> omega
theorem prog_step {x : X} (h : x.Ok) (hc : CalmX x) (t : Nat) (ht : t < x.n) (ha : x.at_ t < x.len t) : (x.step t).prog = x.prog + 1 := by
  have h1 := sumTo_upd x.progT (x.step t).progT t x.n ht (fun u hu => by
    show sumTo (fun c => stepsOf (x.proc u c)) (if u = t then _ else x.at_ u) + (if u = t then _ else x.taken u) = _
    simp only [if_neg hu]
    rfl)
  have h2 : (x.step t).progT t = sumTo (fun c => stepsOf (x.proc t c)) (if (x.told t).f0 then x.at_ t + 1 else x.at_ t) + (if (x.told t).f0 then 0 else x.taken t + 1) := by
    show sumTo (fun c => stepsOf (x.proc t c)) (if t = t then _ else _) + (if t = t then _ else _) = _
    simp only [if_true]
  have h3 : x.progT t = sumTo (fun c => stepsOf (x.proc t c)) (x.at_ t) + x.taken t := rfl
  have h4 : (x.step t).progT t = x.progT t + 1 := by
    rw [h2, h3]
    cases hd : (x.told t).f0 with
    | false => simp only [Bool.false_eq_true, if_false]; omega
    | true =>
      simp only [if_true]
      have h5 : sumTo (fun c => stepsOf (x.proc t c)) (x.at_ t + 1) = sumTo (fun c => stepsOf (x.proc t c)) (x.at_ t) + stepsOf (x.proc t (x.at_ t)) := rfl
      have h6 := h.taken_lt t ht ha
      unfold X.told at hd
      cases hp : x.proc t (x.at_ t) with
      | none =>
        rw [hp] at h6 h5
        rw [show stepsOf none = 1 from rfl] at h6 h5
        omega
      | some turns =>
        rw [hp] at hd h5 h6
        have := calm_done (hc.procs _ _ _ hp) hd h6
        omega
  show sumTo (x.step t).progT x.n = sumTo x.progT x.n + 1
  omega
theorem done_iff (x : X) : x.done = true ↔ ∀ t, t < x.n → ¬ x.at_ t < x.len t := by
  unfold X.done X.left X.more
  rw [beq_iff_eq, List.length_eq_zero_iff, List.filter_eq_nil_iff]
  simp
theorem done_ready {x : X} (h : x.done = true) : x.ready = [] := by
  unfold X.ready
  rw [List.filter_eq_nil_iff]
  intro t ht
  rw [List.mem_range] at ht
  have := (done_iff x).1 h t ht
  unfold X.can
  simp [this]
theorem not_done_pick {x : X} (hc : CalmX x) (h : x.done = false) : x.pickable 0 = true := by
  have h1 : ¬ ∀ t, t < x.n → ¬ x.at_ t < x.len t := fun e => by rw [(done_iff x).2 e] at h; cases h
  have h2 : ∃ t, t ∈ x.ready := by
    by_cases e : ∃ t, t < x.n ∧ x.at_ t < x.len t
    · obtain ⟨t, ht, ha⟩ := e
      exact ⟨t, (mem_ready x t).2 ⟨ht, by rw [hc.can]; exact decide_eq_true ha⟩⟩
    · exact absurd (fun t ht ha => e ⟨t, ht, ha⟩) h1
  obtain ⟨t, ht⟩ := h2
  have h3 : x.ready.length ≠ 0 := fun e => by rw [List.length_eq_zero_iff] at e; rw [e] at ht; simp at ht
  unfold X.pickable
  simp only [Bool.and_eq_true, Bool.not_eq_true', beq_eq_false_iff_ne, ne_eq, decide_eq_true_eq]
  exact ⟨⟨by omega, by omega⟩, h3⟩
theorem fin_calm {x : X} (h : CalmX x) : ∀ k, CalmX (x.fin k)
  | 0 => h
  | k + 1 => (fin_calm h k).pick 0
theorem pick_n (x : X) (p : Int) : (x.pick p).1.n = x.n ∧ (x.pick p).1.total = x.total := by
  unfold X.pick
  split <;> exact ⟨rfl, rfl⟩
theorem fin_total (x : X) : ∀ k, (x.fin k).total = x.total
  | 0 => rfl
  | k + 1 => by rw [show x.fin (k + 1) = ((x.fin k).pick 0).1 from rfl, (pick_n _ 0).2, fin_total x k]
theorem run_total : ∀ (l : List Int) (x : X), (x.run l).1.total = x.total
  | [], _ => rfl
  | p :: l, x => by
    show ((x.pick p).1.run l).1.total = _
    rw [run_total l, (pick_n x p).2]
theorem fin_done {x : X} (h : x.Ok) (hc : CalmX x) : ∀ k, (x.fin k).done = true ∨ x.prog + k ≤ (x.fin k).prog
  | 0 => .inr (Nat.le_refl _)
  | k + 1 => by
    cases hd : (x.fin k).done with
    | true =>
      left
      have hp : (x.fin k).pickable 0 = false := by
        unfold X.pickable
        rw [done_ready hd]
        rfl
      rw [fin_stop hp 1]
      exact hd
    | false =>
      right
      rcases fin_done h hc k with h1 | h1
      · rw [h1] at hd; cases hd
      · have hp := not_done_pick (fin_calm hc k) hd
        have hw := who_lt (x.fin k) 0 hp
        show x.prog + (k + 1) ≤ ((x.fin k).pick 0).1.prog
        unfold X.pick
        rw [if_pos hp]
        show _ ≤ ((x.fin k).step _).prog
        rw [prog_step (fin_ok h k) (fin_calm hc k) _ hw.1 hw.2.1]
        omega
theorem fin_all {x : X} (h : x.Ok) (hc : CalmX x) (k : Nat) (hk : x.total ≤ k) : (x.fin k).done = true := by
  rcases fin_done h hc k with h1 | h1
  · exact h1
  · cases hd : (x.fin k).done with
    | true => rfl
    | false =>
      exfalso
      have h2 : ¬ ∀ t, t < (x.fin k).n → ¬ (x.fin k).at_ t < (x.fin k).len t := fun e => by rw [(done_iff _).2 e] at hd; cases hd
      by_cases e : ∃ t, t < (x.fin k).n ∧ (x.fin k).at_ t < (x.fin k).len t
      · obtain ⟨t, ht, ha⟩ := e
        have h3 : (x.fin k).prog < (x.fin k).total := sumTo_lt _ _ t _ ht (fun u hu => progT_le (fin_ok h k) u hu) (progT_lt (fin_ok h k) t ht ha)
        rw [fin_total] at h3
        omega
      · exact h2 (fun t ht ha => e ⟨t, ht, ha⟩)
theorem total_le (calls : List (List (List S26))) : (xOf (calms calls)).total ≤ turnsSum calls := by
  have h1 : (calms calls).length = calls.length := by unfold calms; rw [List.length_map]
  show sumTo _ (calms calls).length ≤ _
  rw [h1]
  refine Nat.le_trans (sumTo_mono _ (fun t => (fun o : Option (List (List S26)) => rowSum (o.getD [])) calls[t]?) _ (fun t ht => ?_)) (sumTo_list (fun o : Option (List (List S26)) => rowSum (o.getD [])) rowSum (fun a => Nat.le_refl _) calls)
  have e : calls[t]? = some calls[t] := List.getElem?_eq_getElem ht
  have e2 : (calms calls).getD t [] = calm calls[t] := by
    unfold calms
    rw [List.getD_eq_getElem?_getD, List.getElem?_map, e]
    rfl
  show sumTo (fun c => stepsOf ((calms calls).getD t [])[c]?) ((calms calls).getD t []).length ≤ rowSum (calls[t]?.getD [])
  rw [e2, e]
  have e3 : (calm calls[t]).length = calls[t].length := by unfold calm; rw [List.length_map]
  rw [e3]
  refine Nat.le_trans (sumTo_mono _ (fun c => (fun o : Option (List S26) => stepsOf (o.map fun turns => List.replicate turns.length z26)) calls[t][c]?) _ (fun c hc => ?_)) (sumTo_list (α := List S26) (fun o => stepsOf (o.map fun turns => List.replicate turns.length z26)) (fun turns => turns.length + 1) (fun turns => ?_) calls[t])
  · unfold calm
    rw [List.getElem?_map]
    exact Nat.le_refl _
  · show stepsOf (some (List.replicate turns.length z26)) ≤ _
    unfold stepsOf
    simp only [List.length_replicate]
    split <;> omega
theorem rowSum_le {cl : List (List S26)} (h : ∀ turns ∈ cl, turns.length ≤ 4398046511104) (k : Nat) : rowSum (cl.take k) ≤ k * 8796093022208 := by
  induction k with
  | zero => simp [rowSum]
  | succ k ih =>
    by_cases hk : k < cl.length
    · unfold rowSum at ih ⊢
      rw [List.take_succ_eq_append_getElem hk, List.map_append, List.sum_append]
      have := h _ (List.getElem_mem hk)
      simp only [List.map_cons, List.map_nil, List.sum_cons, List.sum_nil]
      omega
    · rw [List.take_of_length_le (by omega)]
      rw [List.take_of_length_le (by omega)] at ih
      exact Nat.le_trans ih (Nat.mul_le_mul_right _ (Nat.le_succ k))
theorem turnsSum_le {calls : List (List (List S26))} (h : ∀ cl ∈ calls, cl.length ≤ 256 ∧ ∀ turns ∈ cl, turns.length ≤ 4398046511104) (k : Nat) : turnsSum (calls.take k) ≤ k * 2251799813685248 := by
  induction k with
  | zero => simp [turnsSum]
  | succ k ih =>
    by_cases hk : k < calls.length
    · unfold turnsSum at ih ⊢
      rw [List.take_succ_eq_append_getElem hk, List.map_append, List.sum_append]
      obtain ⟨h1, h2⟩ := h _ (List.getElem_mem hk)
      have h3 := rowSum_le h2 calls[k].length
      rw [List.take_length] at h3
      have : calls[k].length * 8796093022208 ≤ 256 * 8796093022208 := Nat.mul_le_mul_right _ h1
      simp only [List.map_cons, List.map_nil, List.sum_cons, List.sum_nil]
      omega
    · rw [List.take_of_length_le (by omega)]
      rw [List.take_of_length_le (by omega)] at ih
      exact Nat.le_trans ih (Nat.mul_le_mul_right _ (Nat.le_succ k))
set_option maxHeartbeats 8000000 in
set_option maxRecDepth 100000 in
theorem turnsOf_walk {w : World} {A : Option Addr} {c : Nat} {calls : List (List (List S26))} (hC : (Kd.slice 22 (Kd.slice 26 k26)).C w A calls.length calls) (hn16 : calls.length ≤ 16) (hs : ∀ cl ∈ calls, cl.length ≤ 256 ∧ ∀ turns ∈ cl, turns.length ≤ 4398046511104) :
    Calls Try.prog 27 #[.slice A calls.length c] w fun e w' => e = .returned (.int .i64 (turnsSum calls : Int)) ∧ w = w' := by
  have HC := Aside0.mk hC
  have HS := Aside0.mk hs
  obtain ⟨n, hn⟩ : ∃ n, calls.length = n := ⟨_, rfl⟩
  have HN := Aside0.mk hn
  rw [hn] at hn16
  rw [hn]
  clear hC hs hn
  go_enter Try.func27, Try.ntmps27
  go_wp2
  go_loop [3, 4] (fun va idx => ∃ i : Nat, i ≤ n ∧ idx = .int .i64 (i : Int) ∧ va = .int .i64 (turnsSum (calls.take i) : Int)) (fun _ idx => n - (intOf idx).toNat)
  case atStart => exact ⟨0, Nat.zero_le _, rfl, rfl⟩
  case round =>
    obtain ⟨i, hi, rfl, rfl⟩ := hrel
    have hbd := turnsSum_le HS.out i
    obtain ⟨s, hs⟩ : ∃ s, turnsSum (calls.take i) = s := ⟨_, rfl⟩
    rw [hs] at hbd
    rw [hs]
    have HSS := Aside0.mk hs
    clear hs
    by_cases hlt : i < n
    · obtain ⟨cl, hcl⟩ : ∃ cl, rd_L5 calls (i : Int) = cl := ⟨_, rfl⟩
      have hil : i < calls.length := by have := HN.out; omega
      have hmem : cl ∈ calls := by
        rw [← hcl]
        simp only [rd_L5, Int.toNat_natCast]
        rw [List.getD_eq_getElem?_getD, List.getElem?_eq_getElem hil]
        exact List.getElem_mem hil
      have HT : Aside0 (turnsSum (calls.take (i + 1)) = s + rowSum cl) := ⟨by
        rw [← HSS.out]
        unfold turnsSum
        rw [List.take_succ_eq_append_getElem hil, ← hcl, List.map_append, List.sum_append]
        simp [rd_L5, List.getD_eq_getElem?_getD, List.getElem?_eq_getElem hil]⟩
      have HSZ := Aside0.mk (HS.out cl hmem)
      obtain ⟨m, hm⟩ : ∃ m, cl.length = m := ⟨_, rfl⟩
      have HM := Aside0.mk hm
      have hm256 : m ≤ 256 := by rw [← hm]; exact HSZ.out.1
      obtain ⟨ad, A0, c0, ea, z0, hl0, Cz⟩ := at_L5 HC.out (i : Int) (by omega) (by have := HN.out; omega)
      rw [hcl, hm] at z0 Cz
      subst ea
      simp only [Int.toNat_natCast] at z0
      have HCZ := Aside0.mk Cz
      have ix0 : decide ((i : Int) < (n : Int)) = true := decide_eq_true (by omega)
      clear hcl hil hmem hm hl0 Cz
      go_upto_region 6 with (fail)
      go_loop [3, 5] (fun va idx => ∃ k : Nat, k ≤ m ∧ idx = .int .i64 (k : Int) ∧ va = .int .i64 ((s + rowSum (cl.take k) : Nat) : Int)) (fun _ idx => m - (intOf idx).toNat)
      case atStart => exact ⟨0, Nat.zero_le _, rfl, rfl⟩
      case round =>
        obtain ⟨k, hk, rfl, rfl⟩ := hrel
        have hbk := rowSum_le HSZ.out.2 k
        obtain ⟨r, hr⟩ : ∃ r, rowSum (cl.take k) = r := ⟨_, rfl⟩
        rw [hr] at hbk
        rw [hr]
        have HRR := Aside0.mk hr
        clear hr
        by_cases hlt2 : k < m
        · obtain ⟨ad0, A1, c1, ea0, y0, hl1, Cy⟩ := at_L4 HCZ.out (k : Int) (by omega) (by omega)
          subst ea0
          simp only [Int.toNat_natCast] at y0
          obtain ⟨turns, htn⟩ : ∃ turns, rd_L4 cl (k : Int) = turns := ⟨_, rfl⟩
          rw [htn] at y0
          have hkl : k < cl.length := by have := HM.out; omega
          have hmem : turns ∈ cl := by
            rw [← htn]
            simp only [rd_L4, Int.toNat_natCast]
            rw [List.getD_eq_getElem?_getD, List.getElem?_eq_getElem hkl]
            exact List.getElem_mem hkl
          have hsz := HSZ.out.2 turns hmem
          obtain ⟨tl, htl⟩ : ∃ tl, turns.length = tl := ⟨_, rfl⟩
          have HT2 : Aside0 (rowSum (cl.take (k + 1)) = r + (tl + 1)) := ⟨by
            rw [← HRR.out, ← htl]
            unfold rowSum
            rw [List.take_succ_eq_append_getElem hkl, ← htn, List.map_append, List.sum_append]
            simp [rd_L4, List.getD_eq_getElem?_getD, List.getElem?_eq_getElem hkl]⟩
          rw [htl] at hsz y0
          have ix1 : decide ((k : Int) < (m : Int)) = true := decide_eq_true (by omega)
          have hb1 : ((s + r : Nat) : Int) ≤ 4611686018427387904 := by omega
          have hb0 : (0 : Int) ≤ ((s + r : Nat) : Int) := by omega
          obtain ⟨sr, hsr⟩ : ∃ sr : Nat, s + r = sr := ⟨_, rfl⟩
          have HSR := Aside0.mk hsr
          rw [hsr] at hb0 hb1
          rw [hsr]
          clear hl1 Cy htn hkl hmem htl hsr
          go_wp2
          go_round
          case rel => exact ⟨k + 1, by omega, by go_num, by rw [HT2.out]; have := HSR.out; first | (congr 1; omega) | (simp; omega)⟩
          case measure => simp [intOf]; omega
        · have hkl : k = m := by omega
          have e : r = rowSum cl := by rw [← HRR.out, hkl, ← HM.out, List.take_length]
          have HE := Aside0.mk e
          subst hkl
          clear e
          obtain ⟨sr, hsr⟩ : ∃ sr : Nat, s + r = sr := ⟨_, rfl⟩
          have HSR := Aside0.mk hsr
          rw [hsr]
          clear hsr
          go_wp2
          go_round
          case rel => exact ⟨i + 1, by omega, by go_num, by rw [HT.out, ← HE.out, HSR.out]⟩
          case measure => simp [intOf]; omega
    · have hkl : i = n := by omega
      have e : s = turnsSum calls := by rw [← HSS.out, hkl, ← HN.out, List.take_length]
      have HE := Aside0.mk e
      subst hkl
      clear e
      go_wp2
      go_ret
      exact ⟨by rw [← HE.out]; rfl, rfl⟩
set_option maxHeartbeats 8000000 in
set_option maxRecDepth 100000 in
theorem law_Never (W : World) (A0 : Option Addr) (c0 : Nat) (calls : List (List (List S26))) (A1 : Option Addr) (c1 : Nat) (l1 : List Int) (hC0 : (Kd.slice 22 (Kd.slice 26 k26)).C W A0 calls.length calls) (hs : Sizes calls) (hC1 : (Kd.int .i64).C W A1 l1.length l1) :
    Calls Try.prog 6 #[.slice A0 calls.length c0, .slice A1 l1.length c1] W fun e w' => e = .returned (.bool true) ∧ Below W.heap.size W w' := by
  have q36 := nil36
  have SW := Aside0.mk (fun (w : World) (hb : Below W.heap.size W w) => still_walk (c := c0) (Kd.C_below hC0 hb) hs)
  have HC1 := Aside0.mk hC1
  have HS := Aside0.mk (sizes_calms hs)
  have HCX := Aside0.mk (calm_xOf calls)
  have HTL := Aside0.mk (total_le calls)
  obtain ⟨cs, hcs⟩ : ∃ cs, calms calls = cs := ⟨_, rfl⟩
  rw [hcs] at HS HCX HTL
  have HCS := Aside0.mk hcs
  have TW := Aside0.mk (fun (hm : tooMuch cs = false) (w : World) (hb : Below W.heap.size W w) => (show Calls Try.prog 27 #[.slice A0 calls.length c0] w (fun e w' => e = .returned (.int .i64 (turnsSum calls : Int)) ∧ w = w') ∧ turnsSum calls ≤ 36028797018963968 from by
    have hlen : cs.length = calls.length := by rw [← hcs]; unfold calms; rw [List.length_map]
    unfold tooMuch at hm
    rw [Bool.or_eq_false_iff, decide_eq_false_iff_not, List.any_eq_false, hlen] at hm
    have hcl : ∀ cl ∈ calls, cl.length ≤ 256 ∧ ∀ turns ∈ cl, turns.length ≤ 4398046511104 := fun cl hcl => by
      have h1 := hm.2 (calm cl) (by rw [← hcs]; exact List.mem_map.2 ⟨cl, hcl, rfl⟩)
      unfold calm at h1
      simp at h1
      refine ⟨h1, fun turns ht => ?_⟩
      have := ((hs.2 cl hcl).2 turns ht).1
      omega
    refine ⟨turnsOf_walk (Kd.C_below hC0 hb) (by omega) hcl, ?_⟩
    have h2 := turnsSum_le hcl calls.length
    rw [List.take_length] at h2
    exact Nat.le_trans h2 (Nat.le_trans (Nat.mul_le_mul_right 2251799813685248 (show calls.length ≤ 16 by omega)) (by decide))))
  obtain ⟨n, hn⟩ : ∃ n, calls.length = n := ⟨_, rfl⟩
  rw [hn] at SW TW
  rw [hn]
  obtain ⟨lp, hlp⟩ : ∃ lp, l1.length = lp := ⟨_, rfl⟩
  rw [hlp]
  have HLP := Aside0.mk hlp
  clear hC0 hs hC1 hn hcs hlp
  cases hm : tooMuch cs with
  | true =>
    have HM := Aside0.mk hm
    clear hm
    go_enter Try.func6, Try.ntmps6
    go_wp2_with (first
      | (go_at_call 9; refine (lives_walk _).mono ?_; rintro e w1 ⟨rfl, hb⟩; have B1 := Aside0.mk hb; clear hb)
      | (go_at_call 18; refine (SW.out _ B1.out).mono ?_; rintro e w2 ⟨v, rfl, ho⟩; rw [HCS.out] at ho; obtain ⟨A2, c2, hv⟩ := Kd.R_slice ho.1; subst hv; have HO := Aside0.mk ho; clear ho)
      | (go_at_call 17; refine (procs_walk (c := c2) (R_C HO.out.1).1 HS.out).mono ?_; rintro e w3 ⟨v, rfl, ho⟩; have HO3 := Aside0.mk ho; clear ho)
      | (go_at_call 16; refine (new_no HO3.out HM.out).mono ?_; rintro e w' ⟨rfl, rfl⟩))
    go_ret
    refine ⟨rfl, ?_⟩
    obtain ⟨_, _, _, _, h⟩ := HO3.out
    have b2 := B1.out.trans (HO.out.2.mono B1.out.size)
    exact b2.trans (h.mono b2.size)
  | false =>
    have HM := Aside0.mk hm
    have OK := Aside0.mk (xOf_ok hm HS.out)
    clear hm
    go_enter Try.func6, Try.ntmps6
    go_upto_region 6 with (first
      | (go_at_call 9; refine (lives_walk _).mono ?_; rintro e w1 ⟨rfl, hb⟩; have B1 := Aside0.mk hb; clear hb)
      | (go_at_call 18; refine (SW.out _ B1.out).mono ?_; rintro e w2 ⟨v, rfl, ho⟩; rw [HCS.out] at ho; obtain ⟨A2, c2, hv⟩ := Kd.R_slice ho.1; subst hv; have HO := Aside0.mk ho; clear ho)
      | (go_at_call 17; refine (procs_walk (c := c2) (R_C HO.out.1).1 HS.out).mono ?_; rintro e w3 ⟨v, rfl, ho⟩; have HO3 := Aside0.mk ho; clear ho)
      | (go_at_call 16; refine (new_yes HO3.out HM.out).mono ?_; rintro e w4 ⟨rb, f4, tv, tb, cv, C, rfl, hx, hb⟩; have HX := Aside0.mk hx; have B4 := Aside0.mk hb; clear hx hb))
    have BW2 : Aside0 (Below W.heap.size W w2) := ⟨B1.out.trans (HO.out.2.mono B1.out.size)⟩
    have KR := Aside0.mk (run_walk (c := c1) HX.out OK.out (fun i hi => hi.2) B4.out (Kd.C_below HC1.out BW2.out))
    obtain ⟨x, hx⟩ : ∃ x, ((xOf cs).run l1).1 = x := ⟨_, rfl⟩
    have XOK := Aside0.mk (show x.Ok ∧ CalmX x ∧ x.total ≤ turnsSum calls by
      rw [← hx]
      exact ⟨run_ok OK.out l1, HCX.out.run l1, by rw [run_total]; exact HTL.out⟩)
    rw [hx, HLP.out] at KR
    clear hx
    obtain ⟨cnt, hcnt⟩ : ∃ cnt, ((xOf cs).run l1).2 = cnt := ⟨_, rfl⟩
    rw [hcnt] at KR
    clear hcnt
    have HWT : Aside0 (x.waiting = [] ∧ x.stuck = false) := ⟨by
      refine ⟨?_, ?_⟩
      · unfold X.waiting
        rw [List.filter_eq_nil_iff]
        intro t _
        rw [XOK.out.2.1.still t]
        decide
      · unfold X.stuck
        cases hd : x.done with
        | true => rfl
        | false =>
          have hp := not_done_pick XOK.out.2.1 hd
          unfold X.pickable at hp
          simp only [Bool.and_eq_true, Bool.not_eq_true'] at hp
          rw [hp.2]; rfl⟩
    obtain ⟨y, hy⟩ : ∃ y, x.fin (turnsSum calls) = y := ⟨_, rfl⟩
    have YD : Aside0 (y.done = true ∧ y.ready = []) := ⟨by
      rw [← hy]
      have h := fin_all XOK.out.1 XOK.out.2.1 _ XOK.out.2.2
      exact ⟨h, done_ready h⟩⟩
    have HY := Aside0.mk hy
    clear hy
    go_upto_region 7 with (go_at_call 19; refine KR.out.mono ?_; rintro e w5 ⟨rfl, f5, hx5, m5⟩; have HX5 := Aside0.mk hx5; have M5 := Aside0.mk m5; clear hx5 m5)
    have b5 : Aside0 (Below W.heap.size W w5) := ⟨(BW2.out.trans (B4.out.mono BW2.out.size)).trans (M5.out.below.mono BW2.out.size)⟩
    have KW := Aside0.mk (waitingX HX5.out)
    have KS := Aside0.mk (fun w (hb : Below w5.heap.size w5 w) => stuckX (HX5.out.below hb))
    rw [HWT.out.1] at KW
    rw [HWT.out.2] at KS
    go_upto_region 9 with (first
      | (go_at_call 24; refine KW.out.mono ?_; rintro e w6 ⟨v, rfl, hR, hb⟩; obtain ⟨Ar, cr, hv⟩ := Kd.R_slice hR; rw [show (ints []).length = 0 from rfl] at hv; subst hv; have B6 := Aside0.mk hb; clear hR hb)
      | (go_at_call 25; refine (KS.out _ B6.out).mono ?_; rintro e w7 ⟨rfl, hb⟩; have B7 := Aside0.mk (B6.out.trans (hb.mono B6.out.size)); clear hb))
    have KT := Aside0.mk (TW.out HM.out w7 (b5.out.trans (B7.out.mono b5.out.size)))
    have KF := Aside0.mk (show Calls Try.prog 26 #[.pointer (some ⟨rb, 0, none⟩), .int .i64 (turnsSum calls : Int)] w7 (fun e w' => e = .returned (.bool true) ∧ AfterX w2.heap.size f5 w7 rb (fun id => w2.heap.size ≤ id ∧ id < w4.heap.size) y tv tb cv C w') from by
      have h := finish_walk (HX5.out.below B7.out) XOK.out.1 (fun i hi => Nat.lt_of_lt_of_le hi.2 (Nat.le_trans M5.out.below.size B7.out.size)) (turnsSum calls : Int) (by have := KT.out.2; omega)
      rw [Int.toNat_natCast, HY.out] at h
      exact h.mono (fun e w' hq => ⟨by rw [hq.1, YD.out.1], hq.2⟩))
    obtain ⟨ts, hts⟩ : ∃ ts, turnsSum calls = ts := ⟨_, rfl⟩
    rw [hts] at KT KF
    clear hts
    go_wp2_with (first
      | (go_at_call 27; refine KT.out.1.mono ?_; rintro e w' ⟨rfl, rfl⟩)
      | (go_at_call 26; refine KF.out.mono ?_; rintro e w8 ⟨rfl, f8, hx8, m8⟩; have HX8 := Aside0.mk hx8; have M8 := Aside0.mk m8; have KD := doneX hx8; rw [YD.out.1] at KD; have KD := Aside0.mk KD; clear hx8 m8)
      | (go_at_call 28; refine KD.out.mono ?_; rintro e w9 ⟨rfl, hb⟩; have B9 := Aside0.mk hb; have KY := readyX (HX8.out.below hb); rw [YD.out.2] at KY; have KY := Aside0.mk KY; clear hb)
      | (go_at_call 20; refine KY.out.mono ?_; rintro e w10 ⟨v, rfl, hR, hb⟩; obtain ⟨Ar, cr, hv⟩ := Kd.R_slice hR; rw [show (ints []).length = 0 from rfl] at hv; subst hv; have B10 := Aside0.mk hb; clear hR hb))
    go_ret
    refine ⟨rfl, ?_⟩
    have b7 := b5.out.trans (B7.out.mono b5.out.size)
    have b8 := b7.trans (M8.out.below.mono BW2.out.size)
    have b9 := b8.trans (B9.out.mono b8.size)
    exact b9.trans (B10.out.mono b9.size)
end Go.Proofs.Ytkigbgabnbjomaa.Sched
namespace Go.Proofs.Ytkigbgabnbjomaa.Main
open Go.Proofs.Ytkigbgabnbjomaa.Sched Go.Proofs.Ytkigbgabnbjomaa.PSchedPlays
open Go.RowKit Go.Proofs.YtkigbgabnbjomaaW.PrintWords Go.Proofs.YtkigbgabnbjomaaW.PrintLast Go.Proofs.YtkigbgabnbjomaaW.PrintMore
set_option linter.unusedVariables false
set_option linter.unusedSimpArgs false
theorem SchedNever (W : World) (A0 : Option Addr) (c0 : Nat) (l0 : List (List (List (Bool × (Bool × (List Int)))))) (A1 : Option Addr) (c1 : Nat) (l1 : List Int) (hC0 : Kd.C (Kd.slice 22 (Kd.slice 26 (Kd.pair Kd.bool (Kd.pair Kd.bool (Kd.slice 3 (Kd.int .i64)))))) W A0 l0.length l0) (hc0 : l0.length ≤ c0) (hG0 : (fun l => l.length * 24 ≤ 140737488351232 ∧ l.length ≤ 9223372036854775807 ∧ ∀ x ∈ l, (fun l => l.length * 24 ≤ 140737488351232 ∧ l.length ≤ 9223372036854775807 ∧ ∀ x ∈ l, (fun l => l.length * 32 ≤ 140737488351232 ∧ l.length ≤ 9223372036854775807 ∧ ∀ x ∈ l, (fun x => (fun _ => True) x.1 ∧ (fun x => (fun _ => True) x.1 ∧ (fun l => l.length * 8 ≤ 140737488351232 ∧ l.length ≤ 9223372036854775807 ∧ ∀ x ∈ l, (fun x => (Lit.int .i64 x).wf = true) x) x.2) x.2) x) x) x) l0) (hC1 : Kd.C (Kd.int .i64) W A1 l1.length l1) (hc1 : l1.length ≤ c1) (hG1 : (fun l => l.length * 8 ≤ 140737488351232 ∧ l.length ≤ 9223372036854775807 ∧ ∀ x ∈ l, (fun x => (Lit.int .i64 x).wf = true) x) l1) (hu0 : l0.length ≤ 1048576) (hu1 : l1.length ≤ 1048576) :
    Calls Try.prog 6 #[.slice A0 l0.length c0, .slice A1 l1.length c1] W fun e w' => e = .returned (.bool true) ∧ Below W.heap.size W w' := by
  have h := law_Never W A0 c0 (c26 l0) A1 c1 l1 (by rw [c26_length]; exact C_c26 hC0) (sizes_c26 hG0.1 (fun x hx => ⟨(hG0.2.2 x hx).1, fun y hy => ⟨((hG0.2.2 x hx).2.2 y hy).1, fun z hz => (((hG0.2.2 x hx).2.2 y hy).2.2 z hz).2.2.1⟩⟩)) hC1
  rw [c26_length] at h
  exact h
end Go.Proofs.Ytkigbgabnbjomaa.Main
