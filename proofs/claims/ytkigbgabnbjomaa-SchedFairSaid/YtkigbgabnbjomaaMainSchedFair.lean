/- The law SchedFair, walked by hand; and the call.
   No condition. -/
import Derived.Test.YtkigbgabnbjomaaSchI
import Derived.ArgAppend
import Derived.BigRegion
import Derived.Deep.QuietTactic
import Derived.BigQuiet
import Derived.Deep.RegionHeld3
import Derived.ChangeAlike
import Derived.RegionTactic
import Derived.Deep.DeepCutAuto
import Derived.Deep.CutBlock
import Derived.Deep.RegionLaw
import Derived.StillTailTactics
import Derived.WalkSpells
import Derived.Lib.SliceRun
namespace Go.Proofs.Ytkigbgabnbjomaa.Sched
open Go.Proofs.Ytkigbgabnbjomaa.PSchedPlays
open Go.RowKit Go.Proofs.YtkigbgabnbjomaaW.PrintWords Go.Proofs.YtkigbgabnbjomaaW.PrintLast Go.Proofs.YtkigbgabnbjomaaW.PrintMore
attribute [local go_sem] max2_int min2_int max_two min_two   -- for this text's walks alone
set_option linter.unusedVariables false
set_option linter.unusedSimpArgs false
/-! ### Where no step waits -/
structure CalmX (x : X) : Prop where
  procs : ∀ (t c : Nat) turns, x.proc t c = some turns → turns = List.replicate turns.length z26
  still : ∀ t, x.waits t = false
theorem calm_turn {turns : List S26} (h : turns = List.replicate turns.length z26) (k : Nat) : (pTurn turns k).f1 = false ∧ (pTurn turns k).f2 = [] := by
  unfold pTurn
  split
  · exact ⟨rfl, rfl⟩
  · rename_i h0
    have e : ∀ i, turns.getD i z26 = z26 := fun i => by
      rw [h, List.getD_eq_getElem?_getD]
      by_cases hi : i < turns.length
      · rw [List.getElem?_replicate, if_pos hi]; rfl
      · rw [List.getElem?_replicate, if_neg hi]; rfl
    simp only [e]
    exact ⟨rfl, rfl⟩
theorem CalmX.told {x : X} (h : CalmX x) (t : Nat) : (x.told t).f1 = false ∧ (x.told t).f2 = [] := by
  unfold X.told
  cases hp : x.proc t (x.at_ t) with
  | none => exact ⟨rfl, rfl⟩
  | some turns => exact calm_turn (h.procs _ _ _ hp) _
theorem CalmX.step {x : X} (h : CalmX x) (t : Nat) : CalmX (x.step t) := by
  refine ⟨h.procs, fun u => ?_⟩
  show (if (u : Int) ∈ (x.told t).f2 then false else if u = t then ((x.told t).f1 && !(x.told t).f0) else x.waits u) = false
  rw [(h.told t).1, (h.told t).2, h.still u]
  simp
theorem CalmX.pick {x : X} (h : CalmX x) (p : Int) : CalmX (x.pick p).1 := by
  unfold X.pick
  split
  · exact h.step _
  · exact h
theorem CalmX.run : ∀ (l : List Int) {x : X}, CalmX x → CalmX (x.run l).1
  | [], _, h => h
  | p :: l, x, h => CalmX.run l (h.pick p)
theorem CalmX.can {x : X} (h : CalmX x) (t : Nat) : x.can t = decide (x.at_ t < x.len t) := by
  unfold X.can
  rw [h.still t]
  simp
theorem ready_nodup (x : X) : x.ready.Nodup := List.nodup_range.sublist List.filter_sublist
theorem mem_ready (x : X) (t : Nat) : t ∈ x.ready ↔ t < x.n ∧ x.can t = true := by
  unfold X.ready
  rw [List.mem_filter, List.mem_range]
/-- Behind a step of t just t may have gone. -/
theorem CalmX.ready_step {x : X} (h : CalmX x) {A B : List Nat} {t : Nat} (hr : x.ready = A ++ t :: B) : (x.step t).ready = A ++ ((if (x.step t).can t then [t] else []) ++ B) := by
  have hs := h.step t
  have ht : t ∈ x.ready := by rw [hr]; simp
  obtain ⟨htn, htc⟩ := (mem_ready x t).1 ht
  have other : ∀ u, u ≠ t → (x.step t).can u = x.can u := fun u hu => by
    rw [hs.can, h.can]
    show decide ((if u = t then _ else x.at_ u) < x.len u) = _
    rw [if_neg hu]
  have e : (x.step t).ready = x.ready.filter (x.step t).can := by
    unfold X.ready
    rw [List.filter_filter]
    show (List.range x.n).filter (x.step t).can = _
    apply List.filter_congr
    intro u _
    by_cases hu : u = t
    · subst hu; rw [htc, Bool.and_true]
    · rw [other u hu, Bool.and_self]
  have nd := ready_nodup x
  rw [hr, List.nodup_append] at nd
  obtain ⟨nA, nB, nAB⟩ := nd
  have htB : t ∉ B := (List.nodup_cons.1 nB).1
  rw [e, hr, List.filter_append, List.filter_cons]
  have fA : A.filter (x.step t).can = A := by
    rw [List.filter_eq_self]
    intro u hu
    rw [other u (nAB u hu t (List.mem_cons_self ..))]
    exact ((mem_ready x u).1 (by rw [hr]; exact List.mem_append_left _ hu)).2
  have fB : B.filter (x.step t).can = B := by
    rw [List.filter_eq_self]
    intro u hu
    rw [other u (fun e => htB (by rw [← e]; exact hu))]
    exact ((mem_ready x u).1 (by rw [hr]; exact List.mem_append_right _ (List.mem_cons_of_mem _ hu))).2
  rw [fA, fB]
  cases (x.step t).can t <;> rfl
/-- i of those that were ready have taken a step; d of them are done. -/
structure FairSt (R : List Nat) (i d : Nat) (y : X) : Prop where
  ok : y.Ok
  calm : CalmX y
  rest : ∃ A, y.ready = A ++ R.drop i ∧ A.length + d = i
theorem FairSt.len {R : List Nat} {i d : Nat} {y : X} (h : FairSt R i d y) (hi : i ≤ R.length) : d ≤ i ∧ y.ready.length = i - d + (R.length - i) ∧ y.ready.length ≤ 16 := by
  obtain ⟨A, hr, hd⟩ := h.rest
  refine ⟨by omega, by rw [hr, List.length_append, List.length_drop]; omega, ?_⟩
  have h1 : y.ready.length ≤ (List.range y.n).length := List.length_filter_le _ _
  rw [List.length_range] at h1
  have := h.ok.n16
  omega
theorem FairSt.next {R : List Nat} {i d : Nat} {y : X} (h : FairSt R i d y) (hi : i < R.length) :
    y.pick ((i - d : Nat) : Int) = (y.step R[i], R[i], true) ∧ (y.step R[i]).ready.length ≤ y.ready.length ∧ FairSt R (i + 1) (d + (y.ready.length - (y.step R[i]).ready.length)) (y.step R[i]) := by
  have hl := h.len (Nat.le_of_lt hi)
  obtain ⟨A, hr, hd⟩ := h.rest
  rw [List.drop_eq_getElem_cons hi] at hr
  have hp : y.pickable ((i - d : Nat) : Int) = true := by
    unfold X.pickable
    simp only [Bool.and_eq_true, Bool.not_eq_true', beq_eq_false_iff_ne, ne_eq, decide_eq_true_eq]
    refine ⟨⟨by omega, by omega⟩, by omega⟩
  have hw : y.who ((i - d : Nat) : Int) = R[i] := by
    unfold X.who
    rw [Int.toNat_natCast, Nat.mod_eq_of_lt (by omega), List.getD_eq_getElem?_getD, hr, List.getElem?_append_right (by omega), show i - d - A.length = 0 by omega]
    rfl
  have hs := h.calm.ready_step hr
  have ht : R[i] ∈ y.ready := by rw [hr]; exact List.mem_append_right _ (List.mem_cons_self ..)
  obtain ⟨htn, htc⟩ := (mem_ready y _).1 ht
  rw [h.calm.can, decide_eq_true_eq] at htc
  have l1 : y.ready.length = A.length + (1 + (R.drop (i + 1)).length) := by rw [hr, List.length_append, List.length_cons]; omega
  have l2 : (y.step R[i]).ready.length = A.length + ((if (y.step R[i]).can R[i] then 1 else 0) + (R.drop (i + 1)).length) := by
    rw [hs, List.length_append, List.length_append]
    cases (y.step R[i]).can R[i] <;> rfl
  refine ⟨by unfold X.pick; rw [if_pos hp, hw], by rw [l1, l2]; split <;> omega, X.step_ok h.ok _ htn htc, h.calm.step _, ?_⟩
  cases hc : (y.step R[i]).can R[i] with
  | true =>
    rw [hc] at l2 hs
    exact ⟨A ++ [R[i]], by rw [hs]; simp, by rw [l1, l2, List.length_append, List.length_singleton]; simp; omega⟩
  | false =>
    rw [hc] at l2 hs
    exact ⟨A, by rw [hs]; simp, by rw [l1, l2]; simp; omega⟩
/-- The runner and the row of those that were ready. -/
def FairMem (w2 : World) (rb : Nat) (P : Nat → Prop) (tv : Value) (tb : Nat → Nat) (cv : Nat → Value) (C : Nat → List (Option Nat)) (sz cr : Nat) (Ar : Option Addr) (R : List Nat) (y : X) (wr : World) : Prop :=
  ∃ f, RunX w2.heap.size f wr rb P y tv tb cv C ∧ (Kd.int .i64).R 3 wr w2.heap.size (fun k => f k = sz) (.slice Ar (ints R).length cr) (ints R) ∧ Below w2.heap.size w2 wr ∧ sz ≤ wr.heap.size
section
variable {w2 : World} {rb : Nat} {P : Nat → Prop} {tv : Value} {tb : Nat → Nat} {cv : Nat → Value} {C : Nat → List (Option Nat)} {sz cr : Nat} {Ar : Option Addr} {R : List Nat} {y : X} {wr : World}
theorem FairMem.below (h : FairMem w2 rb P tv tb cv C sz cr Ar R y wr) {w' : World} (hb : Below wr.heap.size wr w') : FairMem w2 rb P tv tb cv C sz cr Ar R y w' := by
  obtain ⟨f, h1, h2, h3, h4⟩ := h
  exact ⟨f, h1.below hb, Kd.R_below h2 hb, h3.trans (hb.mono h3.size), Nat.le_trans h4 hb.size⟩
theorem FairMem.ready (h : FairMem w2 rb P tv tb cv C sz cr Ar R y wr) : Calls Try.prog 20 #[.pointer (some ⟨rb, 0, none⟩)] wr (fun e w' => (∃ A c, e = .returned (.slice A y.ready.length c)) ∧ FairMem w2 rb P tv tb cv C sz cr Ar R y w') := by
  have h0 := h
  obtain ⟨f, h1, _⟩ := h
  refine (readyX h1).mono ?_
  rintro e w' ⟨v, rfl, hR, hb⟩
  obtain ⟨A, c, rfl⟩ := Kd.R_slice hR
  exact ⟨⟨A, c, by rw [len_ints]⟩, h0.below hb⟩
theorem FairMem.pick (h : FairMem w2 rb P tv tb cv C sz cr Ar R y wr) (ok : y.Ok) (hP : ∀ i, P i → i < sz) (p : Int) : Calls Try.prog 21 #[.pointer (some ⟨rb, 0, none⟩), .int .i64 p] wr (fun e w' => e = .returned (.tuple #[.int .i64 ((y.pick p).2.1 : Int), .bool (y.pick p).2.2]) ∧ FairMem w2 rb P tv tb cv C sz cr Ar R (y.pick p).1 w') := by
  obtain ⟨f, h1, h2, h3, h4⟩ := h
  refine (pick_walk h1 ok (fun i hi => Nat.lt_of_lt_of_le (hP i hi) h4) p).mono ?_
  rintro e w' ⟨he, f', h5, m⟩
  refine ⟨he, f', h5, m.row h2 (fun k hk _ hp => ?_) (fun k hk hl => (m.old k hl).trans hk), h3.trans m.below, Nat.le_trans h4 m.below.size⟩
  rw [hk] at hp
  exact Nat.lt_irrefl _ (hP _ hp)
end
theorem sizes_calms {calls : List (List (List S26))} (h : Sizes calls) : Sizes (calms calls) := by
  refine ⟨by unfold calms; rw [List.length_map]; exact h.1, fun cl hcl => ?_⟩
  obtain ⟨x, hx, rfl⟩ := List.mem_map.1 hcl
  obtain ⟨h3, h4⟩ := h.2 x hx
  refine ⟨by unfold calm; rw [List.length_map]; exact h3, fun turns ht => ?_⟩
  obtain ⟨y, hy, rfl⟩ := List.mem_map.1 ht
  refine ⟨by rw [List.length_replicate]; exact (h4 y hy).1, fun z hz => ?_⟩
  rw [(List.mem_replicate.1 hz).2]
  decide
theorem calm_xOf (calls : List (List (List S26))) : CalmX (xOf (calms calls)) := by
  refine ⟨fun t c turns hp => ?_, fun t => rfl⟩
  have hp' : ((calms calls).getD t [])[c]? = some turns := hp
  unfold calms at hp'
  rw [List.getD_eq_getElem?_getD, List.getElem?_map] at hp'
  cases hc : calls[t]? with
  | none => rw [hc] at hp'; simp at hp'
  | some cl =>
    rw [hc] at hp'
    have hp2 : (calm cl)[c]? = some turns := hp'
    unfold calm at hp2
    rw [List.getElem?_map] at hp2
    cases hd : cl[c]? with
    | none => rw [hd] at hp2; cases hp2
    | some ts =>
      rw [hd] at hp2
      injection hp2 with hp2
      rw [← hp2, List.length_replicate]
set_option maxHeartbeats 8000000 in
set_option maxRecDepth 100000 in
theorem law_Fair (W : World) (A0 : Option Addr) (c0 : Nat) (calls : List (List (List S26))) (A1 : Option Addr) (c1 : Nat) (l1 : List Int) (hC0 : (Kd.slice 22 (Kd.slice 26 k26)).C W A0 calls.length calls) (hs : Sizes calls) (hC1 : (Kd.int .i64).C W A1 l1.length l1) :
    Calls Try.prog 4 #[.slice A0 calls.length c0, .slice A1 l1.length c1] W fun e w' => e = .returned (.bool true) ∧ Below W.heap.size W w' := by
  have q36 := nil36
  have SW := Aside0.mk (fun (w : World) (hb : Below W.heap.size W w) => still_walk (c := c0) (Kd.C_below hC0 hb) hs)
  have HC1 := Aside0.mk hC1
  obtain ⟨n, hn⟩ : ∃ n, calls.length = n := ⟨_, rfl⟩
  rw [hn] at SW
  rw [hn]
  have HS := Aside0.mk (sizes_calms hs)
  have HCX := Aside0.mk (calm_xOf calls)
  obtain ⟨cs, hcs⟩ : ∃ cs, calms calls = cs := ⟨_, rfl⟩
  rw [hcs] at HS HCX
  have HCS := Aside0.mk hcs
  obtain ⟨lp, hlp⟩ : ∃ lp, l1.length = lp := ⟨_, rfl⟩
  rw [hlp]
  have HLP := Aside0.mk hlp
  clear hC0 hs hC1 hn hcs hlp
  cases hm : tooMuch cs with
  | true =>
    have HM := Aside0.mk hm
    clear hm
    go_enter Try.func4, Try.ntmps4
    go_wp2_with (first
      | (go_at_call 9; refine (lives_walk _).mono ?_; rintro e w1 ⟨rfl, hb⟩; have B1 := Aside0.mk hb; clear hb)
      | (go_at_call 18; refine (SW.out _ B1.out).mono ?_; rintro e w2 ⟨v, rfl, ho⟩; rw [HCS.out] at ho; obtain ⟨A2, c2, hv⟩ := Kd.R_slice ho.1; subst hv; have HO := Aside0.mk ho; clear ho)
      | (go_at_call 17; refine (procs_walk (c := c2) (R_C HO.out.1).1 HS.out).mono ?_; rintro e w3 ⟨v, rfl, ho⟩; have HO3 := Aside0.mk ho; clear ho)
      | (go_at_call 16; refine (new_no HO3.out HM.out).mono ?_; rintro e w' ⟨rfl, rfl⟩))
    go_ret
    refine ⟨rfl, ?_⟩
    obtain ⟨_, _, _, _, h⟩ := HO3.out
    have b2 := B1.out.trans (HO.out.2.mono B1.out.size)
    exact b2.trans (h.mono b2.size)
  | false =>
    have HM := Aside0.mk hm
    have OK := Aside0.mk (xOf_ok hm HS.out)
    clear hm
    go_enter Try.func4, Try.ntmps4
    go_upto_region 6 with (first
      | (go_at_call 9; refine (lives_walk _).mono ?_; rintro e w1 ⟨rfl, hb⟩; have B1 := Aside0.mk hb; clear hb)
      | (go_at_call 18; refine (SW.out _ B1.out).mono ?_; rintro e w2 ⟨v, rfl, ho⟩; rw [HCS.out] at ho; obtain ⟨A2, c2, hv⟩ := Kd.R_slice ho.1; subst hv; have HO := Aside0.mk ho; clear ho)
      | (go_at_call 17; refine (procs_walk (c := c2) (R_C HO.out.1).1 HS.out).mono ?_; rintro e w3 ⟨v, rfl, ho⟩; have HO3 := Aside0.mk ho; clear ho)
      | (go_at_call 16; refine (new_yes HO3.out HM.out).mono ?_; rintro e w4 ⟨rb, f4, tv, tb, cv, C, rfl, hx, hb⟩; have HX := Aside0.mk hx; have B4 := Aside0.mk hb; clear hx hb))
    have BW2 : Aside0 (Below W.heap.size W w2) := ⟨B1.out.trans (HO.out.2.mono B1.out.size)⟩
    have KR := Aside0.mk (run_walk (c := c1) HX.out OK.out (fun i hi => hi.2) B4.out (Kd.C_below HC1.out BW2.out))
    obtain ⟨x, hx⟩ : ∃ x, ((xOf cs).run l1).1 = x := ⟨_, rfl⟩
    have XOK := Aside0.mk (show x.Ok ∧ CalmX x by rw [← hx]; exact ⟨run_ok OK.out l1, HCX.out.run l1⟩)
    rw [hx, HLP.out] at KR
    clear hx
    obtain ⟨cnt, hcnt⟩ : ∃ cnt, ((xOf cs).run l1).2 = cnt := ⟨_, rfl⟩
    rw [hcnt] at KR
    clear hcnt
    go_upto_region 7 with (go_at_call 19; refine KR.out.mono ?_; rintro e w5 ⟨rfl, f5, hx5, m5⟩; have HX5 := Aside0.mk hx5; have M5 := Aside0.mk m5; clear hx5 m5)
    obtain ⟨R, hR⟩ : ∃ R, x.ready = R := ⟨_, rfl⟩
    have HRR := Aside0.mk hR
    have KY := Aside0.mk (readyX HX5.out)
    rw [hR] at KY
    clear hR
    obtain ⟨m, hm⟩ : ∃ m, R.length = m := ⟨_, rfl⟩
    have HM2 := Aside0.mk ((len_ints R).trans hm)
    have HMR := Aside0.mk hm
    clear hm
    go_upto_region 8 with (go_at_call 20; refine KY.out.mono ?_; rintro e w6 ⟨v, rfl, hR, hb⟩; obtain ⟨Ar, cr, hv⟩ := Kd.R_slice hR; rw [HM2.out] at hv; subst hv; have R6 := Aside0.mk hR; have B6 := Aside0.mk hb; clear hR hb)
    have FM0 : Aside0 (FairMem w2 rb (fun id => w2.heap.size ≤ id ∧ id < w4.heap.size) tv tb cv C w5.heap.size cr Ar R x w6) := ⟨by
      have s1 := HX5.out.size.1
      refine ⟨owns f5 w5.heap.size w5.heap.size, HX5.out.mv (o := fun _ => False) (Mv.of_below (B := w5.heap.size) B6.out (Nat.le_refl _) (fun k hk => owns_old _ _ _ _ hk)) (fun _ _ e => e), ?_, (B4.out.trans M5.out.below).trans (B6.out.mono s1), B6.out.size⟩
      rw [HM2.out]
      exact Kd.R_mono (Kd.R_lower R6.out s1) (fun k hk => owns_new _ _ _ _ hk)⟩
    have HPP : Aside0 (∀ i, (fun id => w2.heap.size ≤ id ∧ id < w4.heap.size) i → i < w5.heap.size) := ⟨fun i hi => Nat.lt_of_lt_of_le hi.2 M5.out.below.size⟩
    have FS0 : Aside0 (FairSt R 0 0 x) := ⟨⟨XOK.out.1, XOK.out.2, [], by rw [HRR.out]; rfl, rfl⟩⟩
    obtain ⟨P, hP⟩ : ∃ P, (fun id => w2.heap.size ≤ id ∧ id < w4.heap.size) = P := ⟨_, rfl⟩
    rw [hP] at FM0 HPP
    obtain ⟨sz, hsz⟩ : ∃ sz, w5.heap.size = sz := ⟨_, rfl⟩
    rw [hsz] at FM0 HPP
    have hm16 : m ≤ 16 := by
      rw [← HMR.out]
      have := (FS0.out.len (Nat.zero_le _)).2.2
      rw [HRR.out] at this
      exact this
    clear hP hsz R6 B6 KY KR M5 HX5 HX HO3 OK SW HM q36
    go_wp2
    go_loopw [8, 9] (fun vd idx wr => ∃ (i d : Nat) (y : X), i ≤ m ∧ idx = .int .i64 (i : Int) ∧ vd = .int .i64 (d : Int) ∧ Aside0 (FairSt R i d y) ∧ Aside0 (FairMem w2 rb P tv tb cv C sz cr Ar R y wr)) (fun _ idx _ => m - (intOf idx).toNat)
    case atStart => exact ⟨0, 0, x, Nat.zero_le _, rfl, rfl, FS0, FM0⟩
    case round =>
      obtain ⟨i, d, y, hi, rfl, rfl, FS, FM⟩ := hrel
      by_cases hlt : i < m
      · have hiR : i < R.length := by have := HMR.out; omega
        obtain ⟨hd, hlen, h16⟩ := FS.out.len (Nat.le_of_lt hiR)
        obtain ⟨npk, nle, nst⟩ := FS.out.next hiR
        obtain ⟨t, ht⟩ : ∃ t, R[i] = t := ⟨_, rfl⟩
        rw [ht] at npk nle nst
        obtain ⟨nn, hnn⟩ : ∃ nn, y.ready.length = nn := ⟨_, rfl⟩
        obtain ⟨n2, hn2⟩ : ∃ n2, (y.step t).ready.length = n2 := ⟨_, rfl⟩
        rw [hnn] at nle nst h16 hlen
        rw [hn2] at nle nst
        have K1 := Aside0.mk FM.out.ready
        rw [hnn] at K1
        have K2 := Aside0.mk (fun w (h : FairMem w2 rb P tv tb cv C sz cr Ar R y w) => (show Calls Try.prog 21 #[.pointer (some ⟨rb, 0, none⟩), .int .i64 ((i : Int) - (d : Int))] w (fun e w' => e = .returned (.tuple #[.int .i64 (t : Int), .bool true]) ∧ FairMem w2 rb P tv tb cv C sz cr Ar R (y.step t) w') from by
          have h1 := h.pick FS.out.ok HPP.out ((i - d : Nat) : Int)
          rw [npk, show (((i - d : Nat)) : Int) = (i : Int) - (d : Int) by omega] at h1
          exact h1))
        have K3 := Aside0.mk (fun w (h : FairMem w2 rb P tv tb cv C sz cr Ar R (y.step t) w) => h.ready)
        rw [hn2] at K3
        have KC := Aside0.mk (fun w (h : FairMem w2 rb P tv tb cv C sz cr Ar R (y.step t) w) => (show ∃ ad, Ar = some ad ∧ w.cell? (ad.add i) = some (.int .i64 (t : Int)) from by
          obtain ⟨_, _, h2, _⟩ := h
          rw [HM2.out] at h2
          obtain ⟨ad, e, hc⟩ := (Kd.reads_of_C (d := 0) (R_C h2).1).at_ (i : Int) (by omega) (by omega)
          refine ⟨ad, e, ?_⟩
          simp only [Int.toNat_natCast, rdOf] at hc
          rw [hc, ← ht]
          unfold ints
          rw [List.getD_eq_getElem?_getD, List.getElem?_map, List.getElem?_eq_getElem hiR]
          rfl))
        have NST := Aside0.mk nst
        have ED := Aside0.mk (show (((d + (nn - n2) : Nat)) : Int) = (d : Int) + (nn : Int) - (n2 : Int) by omega)
        clear npk nst ht hnn hn2 hlen hiR
        go_upto_region 13 with (go_at_call 20; refine K1.out.mono ?_; rintro e w7 ⟨⟨A7, c7, rfl⟩, h7⟩; have F7 := Aside0.mk h7; clear h7)
        go_upto_region 14 with (go_at_call 21; refine (K2.out _ F7.out).mono ?_; rintro e w8 ⟨rfl, h8⟩; have F8 := Aside0.mk h8; clear h8)
        obtain ⟨ad, ea, x8⟩ := KC.out _ F8.out
        subst ea
        have i4 : decide ((i : Int) < (m : Int)) = true := decide_eq_true (by omega)
        go_wp2_with (go_at_call 20; refine (K3.out _ F8.out).mono ?_; rintro e w9 ⟨⟨A9, c9, rfl⟩, h9⟩; have F9 := Aside0.mk h9; clear h9)
        go_roundw
        case rel => exact ⟨i + 1, d + (nn - n2), y.step t, by omega, by go_num, by rw [ED.out], NST, F9⟩
        case measure => simp [intOf]; omega
      · have hkl : i = m := by omega
        subst hkl
        go_wp2
        go_ret
        refine ⟨rfl, ?_⟩
        obtain ⟨_, _, _, h, _⟩ := FM.out
        exact BW2.out.trans (h.mono BW2.out.size)
end Go.Proofs.Ytkigbgabnbjomaa.Sched
namespace Go.Proofs.Ytkigbgabnbjomaa.Main
open Go.Proofs.Ytkigbgabnbjomaa.Sched Go.Proofs.Ytkigbgabnbjomaa.PSchedPlays
open Go.RowKit Go.Proofs.YtkigbgabnbjomaaW.PrintWords Go.Proofs.YtkigbgabnbjomaaW.PrintLast Go.Proofs.YtkigbgabnbjomaaW.PrintMore
set_option linter.unusedVariables false
set_option linter.unusedSimpArgs false
theorem SchedFair (W : World) (A0 : Option Addr) (c0 : Nat) (l0 : List (List (List (Bool × (Bool × (List Int)))))) (A1 : Option Addr) (c1 : Nat) (l1 : List Int) (hC0 : Kd.C (Kd.slice 22 (Kd.slice 26 (Kd.pair Kd.bool (Kd.pair Kd.bool (Kd.slice 3 (Kd.int .i64)))))) W A0 l0.length l0) (hc0 : l0.length ≤ c0) (hG0 : (fun l => l.length * 24 ≤ 140737488351232 ∧ l.length ≤ 9223372036854775807 ∧ ∀ x ∈ l, (fun l => l.length * 24 ≤ 140737488351232 ∧ l.length ≤ 9223372036854775807 ∧ ∀ x ∈ l, (fun l => l.length * 32 ≤ 140737488351232 ∧ l.length ≤ 9223372036854775807 ∧ ∀ x ∈ l, (fun x => (fun _ => True) x.1 ∧ (fun x => (fun _ => True) x.1 ∧ (fun l => l.length * 8 ≤ 140737488351232 ∧ l.length ≤ 9223372036854775807 ∧ ∀ x ∈ l, (fun x => (Lit.int .i64 x).wf = true) x) x.2) x.2) x) x) x) l0) (hC1 : Kd.C (Kd.int .i64) W A1 l1.length l1) (hc1 : l1.length ≤ c1) (hG1 : (fun l => l.length * 8 ≤ 140737488351232 ∧ l.length ≤ 9223372036854775807 ∧ ∀ x ∈ l, (fun x => (Lit.int .i64 x).wf = true) x) l1) :
    Calls Try.prog 4 #[.slice A0 l0.length c0, .slice A1 l1.length c1] W fun e w' => e = .returned (.bool true) ∧ Below W.heap.size W w' := by
  have h := law_Fair W A0 c0 (c26 l0) A1 c1 l1 (by rw [c26_length]; exact C_c26 hC0) (sizes_c26 hG0.1 (fun x hx => ⟨(hG0.2.2 x hx).1, fun y hy => ⟨((hG0.2.2 x hx).2.2 y hy).1, fun z hz => (((hG0.2.2 x hx).2.2 y hy).2.2 z hz).2.2.1⟩⟩)) hC1
  rw [c26_length] at h
  exact h
end Go.Proofs.Ytkigbgabnbjomaa.Main
