/- The plain law of CurveHits, over the printed functions.
   No condition. -/
import Derived.Test.YteaidghanfjigaaCurveP
import Derived.Test.YteaidghanfjigaaRCurveHitsx3
namespace Go.Proofs.Yteaidghanfjigaa.RCurveHits
open Go.Proofs.Yteaidghanfjigaa.QCurveCurves
open Go.RowKit Go.Proofs.YteaidghanfjigaaW.PrintWords Go.Proofs.YteaidghanfjigaaW.PrintLast Go.Proofs.YteaidghanfjigaaW.PrintMore
set_option linter.unusedVariables false
set_option linter.unusedSimpArgs false
theorem up_fuel {α : Type} {f : Nat → Option α} (h : ∀ k, LeO (f k) (f (k + 1))) {n : Nat} {x : α} (hx : f n = some x) : ∀ m, n ≤ m → f m = some x := by
  intro m hm
  induction m with
  | zero => obtain rfl : n = 0 := by omega
            exact hx
  | succ m ih =>
    by_cases c : n = m + 1
    · subst c; exact hx
    · exact h m x (ih (by omega))
theorem lives100 : cellarlaw27_lives.f 100 = some true := by decide +kernel
theorem lives_ev : Evn (fun k => cellarlaw27_lives.f k) true := ⟨100, fun k hk => up_fuel cellarlaw27_lives.mono lives100 k hk⟩
theorem Evn.stepK {α : Type} {g h : Nat → Option α} {r : α} (K : Nat) (hs : ∀ k, K ≤ k → g (k + 1) = h k) (hh : Evn h r) : Evn g r := by
  obtain ⟨K2, h2⟩ := hh
  refine ⟨K + K2 + 1, fun k hk => ?_⟩
  obtain ⟨j, rfl⟩ : ∃ j, k = j + 1 := ⟨k - 1, by omega⟩
  rw [hs j (by omega)]
  exact h2 j (by omega)
/-- The document's step. -/
def dst (kind : Int) (L : List Int) (sz i : Nat) (s : List Int × Nat) : List Int × Nat :=
  if rd L (i : Int) ∈ s.1 then ((if kind = 1 then s.1.erase (rd L (i : Int)) ++ [rd L (i : Int)] else s.1), s.2 + 1)
  else if sz = 0 then s else if s.1.length = sz then ((if kind = 3 then s.1.erase (top1 L (i + 1) s.1) else s.1.tail) ++ [rd L (i : Int)], s.2) else (s.1 ++ [rd L (i : Int)], s.2)
def dh (kind : Int) (L : List Int) (sz : Nat) : Nat → List Int × Nat
  | 0 => ([], 0)
  | i + 1 => dst kind L sz i (dh kind L sz i)
theorem dh_best (L : List Int) (sz i : Nat) : dh 3 L sz i = bh L sz i := by
  induction i with
  | zero => rfl
  | succ i ih =>
    simp only [dh, bh]
    rw [ih]
    unfold dst bst
    rw [if_neg (show ¬ (3 : Int) = 1 by decide), if_pos rfl]
theorem snd_le (kind : Int) (L : List Int) (sz : Nat) : ∀ i, (dh kind L sz i).2 ≤ i ∧ (dh kind L sz i).1.length ≤ i := by
  intro i
  induction i with
  | zero => simp [dh]
  | succ i ih =>
    simp only [dh, dst]
    split
    · rename_i hm
      refine ⟨by simp only []; omega, ?_⟩
      simp only []
      split
      · rw [List.length_append, List.length_erase_of_mem hm]; simp only [List.length_cons, List.length_nil]; omega
      · omega
    · split
      · omega
      · split
        · refine ⟨by simp only []; omega, ?_⟩
          simp only [List.length_append, List.length_cons, List.length_nil]
          split
          · have := List.length_erase_le (a := top1 L (i + 1) (dh kind L sz i).1) (l := (dh kind L sz i).1); omega
          · rw [List.length_tail]; omega
        · refine ⟨by simp only []; omega, ?_⟩
          simp only [List.length_append, List.length_cons, List.length_nil]; omega
-- the caches by age and by use
theorem rev_erase (c : List Int) (hn : c.Nodup) (h : Int) : (c.erase h).reverse = c.reverse.erase h := by
  have hr : c.reverse.Nodup := List.pairwise_reverse.2 (List.Pairwise.imp (fun h => Ne.symm h) hn)
  rw [List.Nodup.erase_eq_filter hn h, List.Nodup.erase_eq_filter hr h, List.filter_reverse]
theorem qst_nod (again : Bool) (n : Nat) (c : List Int) (h : Int) (hn : c.Nodup) (hl : c.length ≤ n) : (qst again n c h).1.Nodup ∧ (qst again n c h).1.length ≤ n := by
  unfold qst
  by_cases m : h ∈ c
  · rw [if_pos m]
    cases again with
    | true =>
      simp only [if_true]
      refine ⟨List.nodup_cons.2 ⟨fun g => ((List.Nodup.mem_erase_iff hn).1 g).1 rfl, hn.erase _⟩, ?_⟩
      have := List.length_pos_of_mem m
      rw [List.length_cons, List.length_erase_of_mem m]; omega
    | false => exact ⟨hn, hl⟩
  · rw [if_neg m]
    exact ⟨(List.nodup_cons.2 ⟨m, hn⟩).sublist (List.take_sublist _ _), by simp only [List.length_take]; omega⟩
theorem dh_q (again : Bool) (Ln : List Nat) (sz : Nat) : ∀ i, i ≤ Ln.length → (qC Ln sz again i).Nodup ∧ (qC Ln sz again i).length ≤ sz ∧ dh (if again = true then 1 else 2) (zs Ln) sz i = ((qC Ln sz again i).reverse, qH Ln sz again i) := by
  intro i
  induction i with
  | zero => intro _; simp [qC, dh, qH]
  | succ i ih =>
    intro hi
    obtain ⟨h1, h2, h3⟩ := ih (by omega)
    have e : rd (zs Ln) (i : Int) = ((Ln.getD i 0 : Nat) : Int) := rd_zs Ln i
    have hq := qst_nod again sz (qC Ln sz again i) ((Ln.getD i 0 : Nat) : Int) h1 h2
    refine ⟨hq.1, hq.2, ?_⟩
    simp only [dh, qC, qH]
    rw [h3]
    unfold dst qst
    rw [e]
    generalize ((Ln.getD i 0 : Nat) : Int) = h
    generalize qC Ln sz again i = c at *
    generalize qH Ln sz again i = m
    by_cases hm : h ∈ c
    · rw [if_pos (by simpa using hm), if_pos hm]
      cases again with
      | true => simp only [if_true]; rw [List.reverse_cons, rev_erase c h1]
      | false => simp
    · rw [if_neg (by simpa using hm), if_neg hm]
      by_cases z : sz = 0
      · rw [if_pos z]
        have : c = [] := List.eq_nil_of_length_eq_zero (by omega)
        subst this; subst z; simp
      · rw [if_neg z, List.length_reverse]
        by_cases f : c.length = sz
        · rw [if_pos f, if_neg (by cases again <;> decide)]
          obtain ⟨j, rfl⟩ : ∃ j, sz = j + 1 := ⟨sz - 1, by omega⟩
          simp only [List.take_succ_cons, List.reverse_cons, Bool.false_eq_true, if_false, Nat.add_zero]
          congr 2
          rw [List.tail_reverse, List.dropLast_eq_take, f, Nat.add_sub_cancel]
        · rw [if_neg f, List.take_of_length_le (by simp only [List.length_cons]; omega)]
          simp
theorem ff_zero (H : List Int) (h : Int) : ff H 0 h = H.idxOf h := by unfold ff; simp
theorem hits_l1 {L : List Int} {n kd x9 : Int} {H : List Int} {i : Nat} (hi : i < L.length) (hH : H.length ≤ 1024) {r : Int × Int} : ∀ (d c : Nat), c + d = H.length → Evn (fun k => cellarref27_hits.j2 k L n kd H x9 (i : Int) ((ff H c (rd L (i : Int)) : Nat) : Int)) r → Evn (fun k => cellarref27_hits.l1 k L n kd H x9 (i : Int) (c : Int)) r := by
  intro d
  induction d with
  | zero =>
    intro c hc hr
    obtain rfl : c = H.length := by omega
    rw [ff_end] at hr
    refine Evn.step (fun k => ?_) hr
    simp only [cellarref27_hits.l1]
    rw [if_neg (by omega)]
  | succ d ih =>
    intro c hc hr
    by_cases e : rd H (c : Int) = rd L (i : Int)
    · rw [ff_at H c (by omega), if_pos e] at hr
      refine Evn.step (fun k => ?_) hr
      simp only [cellarref27_hits.l1]
      rw [if_pos (by omega), if_pos (by omega), if_pos (by omega), if_pos (by omega), if_pos e]
    · rw [ff_at H c (by omega), if_neg e] at hr
      refine Evn.step (fun k => ?_) (ih (c + 1) (by omega) hr)
      simp only [cellarref27_hits.l1]
      rw [if_pos (by omega), if_pos (by omega), if_pos (by omega), if_pos (by omega), if_neg e, cw64' (by omega) (by omega)]
      rfl
theorem lat_l1 {L : List Int} (hL : L.length ≤ 1024) {at_ : Int} {H : List Int} {b j : Nat} {far : Int} (hb : b < H.length) (hj : j < H.length) {r : Int} : ∀ (d c : Nat), c + d = L.length →
    Evn (fun k => if ((ff L c (rd H (j : Int)) : Nat) : Int) > far then cellarref27_latest.l0 k L at_ H (j : Int) ((ff L c (rd H (j : Int)) : Nat) : Int) (wrap64 ((j : Int) + 1)) else if ((ff L c (rd H (j : Int)) : Nat) : Int) = far then (if rd H (j : Int) > rd H (b : Int) then cellarref27_latest.l0 k L at_ H (j : Int) ((ff L c (rd H (j : Int)) : Nat) : Int) (wrap64 ((j : Int) + 1)) else cellarref27_latest.l0 k L at_ H (b : Int) far (wrap64 ((j : Int) + 1))) else cellarref27_latest.l0 k L at_ H (b : Int) far (wrap64 ((j : Int) + 1))) r →
    Evn (fun k => cellarref27_latest.l1 k L at_ H (b : Int) far (j : Int) (c : Int)) r := by
  intro d
  induction d with
  | zero =>
    intro c hc hr
    obtain rfl : c = L.length := by omega
    rw [ff_end] at hr
    refine Evn.step (fun k => ?_) hr
    simp only [cellarref27_latest.l1]
    rw [if_neg (show ¬ ((L.length : Nat) : Int) < ((L.length : Nat) : Int) by omega), if_pos (show (0 : Int) ≤ (j : Int) by omega), if_pos (show (j : Int) < (H.length : Int) by omega), if_pos (show (0 : Int) ≤ (b : Int) by omega), if_pos (show (b : Int) < (H.length : Int) by omega)]
  | succ d ih =>
    intro c hc hr
    by_cases e : rd L (c : Int) = rd H (j : Int)
    · rw [ff_at L c (by omega), if_pos e] at hr
      refine Evn.step (fun k => ?_) hr
      simp only [cellarref27_latest.l1]
      rw [if_pos (show (c : Int) < (L.length : Int) by omega), if_pos (show (0 : Int) ≤ (c : Int) by omega), if_pos (show (0 : Int) ≤ (j : Int) by omega), if_pos (show (j : Int) < (H.length : Int) by omega), if_pos e, if_pos (show (0 : Int) ≤ (b : Int) by omega), if_pos (show (b : Int) < (H.length : Int) by omega)]
    · rw [ff_at L c (by omega), if_neg e] at hr
      refine Evn.step (fun k => ?_) (ih (c + 1) (by omega) hr)
      simp only [cellarref27_latest.l1]
      rw [if_pos (show (c : Int) < (L.length : Int) by omega), if_pos (show (0 : Int) ≤ (c : Int) by omega), if_pos (show (0 : Int) ≤ (j : Int) by omega), if_pos (show (j : Int) < (H.length : Int) by omega), if_neg e, cw64' (n := (c : Int) + 1) (by omega) (by omega)]
      rfl
theorem lat_l0 {L : List Int} (hL : L.length ≤ 1024) {i : Nat} (hi : i < L.length) {H : List Int} (hH : H.length ≤ 1024) (h0 : 0 < H.length) : ∀ (d j : Nat), j + d = H.length → Evn (fun k => cellarref27_latest.l0 k L (i : Int) H ((tix L (i + 1) H j : Nat) : Int) (if j = 0 then -1 else ((ff L (i + 1) (rd H (tix L (i + 1) H j : Int)) : Nat) : Int)) (j : Int)) ((tix L (i + 1) H H.length : Nat) : Int) := by
  intro d
  induction d with
  | zero =>
    intro j hj
    obtain rfl : j = H.length := by omega
    exact Evn.of_eq (fun k => by simp only [cellarref27_latest.l0]; rw [if_neg (by omega)])
  | succ d ih =>
    intro j hj
    have hh := ih (j + 1) (by omega)
    have hb : tix L (i + 1) H j < H.length := by
      by_cases z : j = 0
      · subst z; exact h0
      · have := (tix_spec L (i + 1) H j (by omega)).1; omega
    refine Evn.step (h := fun k => cellarref27_latest.l1 k L (i : Int) H ((tix L (i + 1) H j : Nat) : Int) (if j = 0 then -1 else ((ff L (i + 1) (rd H (tix L (i + 1) H j : Int)) : Nat) : Int)) (j : Int) ((i + 1 : Nat) : Int)) (fun k => ?_) (lat_l1 hL hb (by omega) (L.length - (i + 1)) (i + 1) (by omega) ?_)
    · simp only [cellarref27_latest.l0]
      rw [if_pos (show (j : Int) < (H.length : Int) by omega), cw64' (n := (i : Int) + 1) (by omega) (by omega)]
      rfl
    · rw [cw64' (n := (j : Int) + 1) (by omega) (by omega)]
      rw [if_neg (show ¬ j + 1 = 0 by omega)] at hh
      simp only [tix] at hh
      by_cases z : j = 0
      · subst z
        rw [if_pos rfl] at hh
        rw [if_pos rfl]
        obtain ⟨K, hK⟩ := hh
        refine ⟨K, fun k hk => ?_⟩
        dsimp only
        rw [if_pos (show (((ff L (i + 1) (rd H ((0 : Nat) : Int)) : Nat) : Int) > -1) by omega)]
        exact hK k hk
      · rw [if_neg z] at hh
        rw [if_neg z]
        generalize tix L (i + 1) H j = b at *
        obtain ⟨K, hK⟩ := hh
        refine ⟨K, fun k hk => ?_⟩
        have g := hK k hk
        dsimp only at g ⊢
        by_cases c1 : ff L (i + 1) (rd H (j : Int)) > ff L (i + 1) (rd H (b : Int))
        · rw [if_pos (.inl c1)] at g
          rw [if_pos (show ((ff L (i + 1) (rd H (j : Int)) : Nat) : Int) > ((ff L (i + 1) (rd H (b : Int)) : Nat) : Int) by omega)]
          exact g
        · rw [if_neg (show ¬ ((ff L (i + 1) (rd H (j : Int)) : Nat) : Int) > ((ff L (i + 1) (rd H (b : Int)) : Nat) : Int) by omega)]
          by_cases c2 : ff L (i + 1) (rd H (j : Int)) = ff L (i + 1) (rd H (b : Int))
          · rw [if_pos (show ((ff L (i + 1) (rd H (j : Int)) : Nat) : Int) = ((ff L (i + 1) (rd H (b : Int)) : Nat) : Int) by omega)]
            by_cases c3 : rd H (j : Int) > rd H (b : Int)
            · rw [if_pos (.inr ⟨c2, c3⟩)] at g
              rw [if_pos c3]
              exact g
            · rw [if_neg (fun hh => hh.elim c1 (fun q => c3 q.2))] at g
              rw [if_neg c3]
              exact g
          · rw [if_neg (fun hh => hh.elim c1 (fun q => c2 q.1))] at g
            rw [if_neg (show ¬ ((ff L (i + 1) (rd H (j : Int)) : Nat) : Int) = ((ff L (i + 1) (rd H (b : Int)) : Nat) : Int) by omega)]
            exact g
theorem lat_eq {L : List Int} (hL : L.length ≤ 1024) {i : Nat} (hi : i < L.length) {H : List Int} (hH : H.length ≤ 1024) (h0 : 0 < H.length) : Evn (fun k => cellarref27_latest.f k L (i : Int) H) ((tix L (i + 1) H H.length : Nat) : Int) := lat_l0 hL hi hH h0 H.length 0 (by omega)
theorem idx_lt (H : List Int) (h : Int) : H.idxOf h < H.length ↔ h ∈ H := List.idxOf_lt_length_iff
theorem idx_atI (s : List Int) (hn : s.Nodup) : ∀ (k : Nat) (hk : k < s.length), s.idxOf s[k] = k := by
  induction s with
  | nil => intro k hk; simp at hk
  | cons a s ih =>
    intro k hk
    cases k with
    | zero => simp
    | succ k =>
      have hk' : k < s.length := by simpa using hk
      have ha : ¬ a = s[k] := fun e => (List.nodup_cons.1 hn).1 (by rw [e]; exact List.getElem_mem _)
      rw [List.getElem_cons_succ, List.idxOf_cons, show (a == s[k]) = false by simpa using ha, cond_false, ih (List.nodup_cons.1 hn).2 k hk']
theorem cut_at (H : List Int) (g : Nat) (hg : g < H.length) (hn : H.Nodup) (h : Int) (e : rd H (g : Int) = h) : H.take g ++ H.drop (g + 1) = H.erase h := by
  rw [rd_mem H g hg] at e
  rw [← e, List.erase_eq_eraseIdx_of_idxOf (idx_atI H hn g hg), List.eraseIdx_eq_take_drop_succ]
theorem hits_l0 {L : List Int} (hL : L.length ≤ 1024) {n : Nat} {kd : Int} (hkd : kd = 1 ∨ kd = 2 ∨ kd = 3) (hnd : ∀ i, i ≤ L.length → (dh kd L n i).1.Nodup) : ∀ (d i : Nat), i + d = L.length → Evn (fun k => cellarref27_hits.l0 k L (n : Int) kd (dh kd L n i).1 (((dh kd L n i).2 : Nat) : Int) (i : Int)) ((((dh kd L n L.length).2 : Nat) : Int), 0) := by
  intro d
  induction d with
  | zero =>
    intro i hi
    obtain rfl : i = L.length := by omega
    exact Evn.of_eq (fun k => by simp only [cellarref27_hits.l0]; rw [if_neg (by omega)])
  | succ d ih =>
    intro i hi
    have hh := ih (i + 1) (by omega)
    have hsl := snd_le kd L n i
    have hno := hnd i (by omega)
    have hst : dh kd L n (i + 1) = dst kd L n i (dh kd L n i) := rfl
    rw [hst] at hh
    unfold dst at hh
    refine Evn.step (h := fun k => cellarref27_hits.l1 k L (n : Int) kd (dh kd L n i).1 (((dh kd L n i).2 : Nat) : Int) (i : Int) ((0 : Nat) : Int)) (fun k => ?_) (hits_l1 (by omega) (by omega) (dh kd L n i).1.length 0 (by omega) ?_)
    · simp only [cellarref27_hits.l0]
      rw [if_pos (by omega)]
      rfl
    · rw [ff_zero]
      clear hst ih
      generalize dh kd L n i = s at *
      obtain ⟨H, m⟩ := s
      dsimp only at hh hsl hno ⊢
      have hix := idx_lt H (rd L (i : Int))
      by_cases hm : rd L (i : Int) ∈ H
      · rw [if_pos hm] at hh
        have hlt := hix.2 hm
        by_cases k1 : kd = 1
        · rw [if_pos k1] at hh
          have hc := cut_at H (H.idxOf (rd L (i : Int))) hlt hno (rd L (i : Int)) (by rw [rd_mem H _ hlt]; exact List.getElem_idxOf hlt)
          generalize H.idxOf (rd L (i : Int)) = g at *
          refine Evn.step (fun k => ?_) hh
          simp only [cellarref27_hits.j2]
          rw [if_pos (show (g : Int) < (H.length : Int) by omega), if_pos k1, Option.bind_some, if_pos (show (0 : Int) ≤ (g : Int) by omega), if_pos (show (g : Int) ≤ (H.length : Int) by omega), Option.bind_some, if_pos (by simp only [List.length_nil, List.length_take]; omega), Option.bind_some, cw64' (n := (g : Int) + 1) (by omega) (by omega), if_pos (show (0 : Int) ≤ (g : Int) + 1 by omega), if_pos (show (g : Int) + 1 ≤ (H.length : Int) by omega), Option.bind_some, if_pos (by simp only [List.nil_append, List.length_take, List.length_drop]; omega), Option.bind_some, if_pos (show (0 : Int) ≤ (i : Int) by omega), if_pos (show (i : Int) < (L.length : Int) by omega), Option.bind_some, if_pos (by simp only [List.nil_append, List.length_append, List.length_take, List.length_drop, List.length_cons, List.length_nil]; omega), cw64' (n := (m : Int) + 1) (by omega) (by omega), cw64' (n := (i : Int) + 1) (by omega) (by omega), List.nil_append, show ((g : Int)).toNat = g by omega, show ((g : Int) + 1).toNat = g + 1 by omega, hc]
          rfl
        · rw [if_neg k1] at hh
          generalize H.idxOf (rd L (i : Int)) = g at *
          refine Evn.step (fun k => ?_) hh
          simp only [cellarref27_hits.j2]
          rw [if_pos (show (g : Int) < (H.length : Int) by omega), if_neg k1, cw64' (n := (m : Int) + 1) (by omega) (by omega), cw64' (n := (i : Int) + 1) (by omega) (by omega)]
          rfl
      · rw [if_neg hm] at hh
        have hge : ¬ H.idxOf (rd L (i : Int)) < H.length := fun h => hm (hix.1 h)
        generalize H.idxOf (rd L (i : Int)) = g at *
        by_cases z : n = 0
        · rw [if_pos z] at hh
          refine Evn.step (fun k => ?_) hh
          simp only [cellarref27_hits.j2]
          rw [if_neg (show ¬ (g : Int) < (H.length : Int) by omega), if_pos (show (n : Int) = 0 by omega), cw64' (n := (i : Int) + 1) (by omega) (by omega)]
          rfl
        · rw [if_neg z] at hh
          by_cases f : H.length = n
          · rw [if_pos f] at hh
            by_cases k3 : kd = 3
            · rw [if_pos k3] at hh
              obtain ⟨K3, hK3⟩ := lat_eq hL (show i < L.length by omega) (show H.length ≤ 1024 by omega) (show 0 < H.length by omega)
              have hgl := (tix_spec L (i + 1) H H.length (by omega)).1
              have hc := cut_at H (tix L (i + 1) H H.length) hgl hno (top1 L (i + 1) H) rfl
              generalize tix L (i + 1) H H.length = q at *
              refine Evn.stepK K3 (fun k hk => ?_) hh
              have g3 := hK3 k hk
              dsimp only at g3
              simp only [cellarref27_hits.j2]
              rw [if_neg (show ¬ (g : Int) < (H.length : Int) by omega), if_neg (show ¬ (n : Int) = 0 by omega), if_pos (show (H.length : Int) = (n : Int) by omega), if_pos k3, g3, Option.bind_some, Option.bind_some, if_pos (show (0 : Int) ≤ (q : Int) by omega), if_pos (show (q : Int) ≤ (H.length : Int) by omega), Option.bind_some, if_pos (by simp only [List.length_nil, List.length_take]; omega), Option.bind_some, cw64' (n := (q : Int) + 1) (by omega) (by omega), if_pos (show (0 : Int) ≤ (q : Int) + 1 by omega), if_pos (show (q : Int) + 1 ≤ (H.length : Int) by omega), Option.bind_some, if_pos (by simp only [List.nil_append, List.length_take, List.length_drop]; omega), Option.bind_some, if_pos (show (0 : Int) ≤ (i : Int) by omega), if_pos (show (i : Int) < (L.length : Int) by omega), Option.bind_some, if_pos (by simp only [List.nil_append, List.length_append, List.length_take, List.length_drop, List.length_cons, List.length_nil]; omega), cw64' (n := (i : Int) + 1) (by omega) (by omega), List.nil_append, show ((q : Int)).toNat = q by omega, show ((q : Int) + 1).toNat = q + 1 by omega, hc]
              rfl
            · rw [if_neg k3] at hh
              refine Evn.step (fun k => ?_) hh
              simp only [cellarref27_hits.j2]
              rw [if_neg (show ¬ (g : Int) < (H.length : Int) by omega), if_neg (show ¬ (n : Int) = 0 by omega), if_pos (show (H.length : Int) = (n : Int) by omega), if_neg k3, Option.bind_some, if_pos (show (0 : Int) ≤ (H.length : Int) by omega), Option.bind_some, if_pos (by simp only [List.length_nil, List.length_take]; omega), Option.bind_some, if_pos (show (0 : Int) ≤ 0 + 1 by omega), if_pos (show (0 + 1 : Int) ≤ (H.length : Int) by omega), Option.bind_some, if_pos (by simp only [List.nil_append, List.length_take, List.length_drop]; omega), Option.bind_some, if_pos (show (0 : Int) ≤ (i : Int) by omega), if_pos (show (i : Int) < (L.length : Int) by omega), Option.bind_some, if_pos (by simp only [List.nil_append, List.length_append, List.length_take, List.length_drop, List.length_cons, List.length_nil]; omega), cw64' (n := (i : Int) + 1) (by omega) (by omega), List.nil_append, List.take_zero, List.nil_append, show ((0 + 1 : Int)).toNat = 1 by rfl, List.drop_one]
              rfl
          · rw [if_neg f] at hh
            refine Evn.step (fun k => ?_) hh
            simp only [cellarref27_hits.j2]
            rw [if_neg (show ¬ (g : Int) < (H.length : Int) by omega), if_neg (show ¬ (n : Int) = 0 by omega), if_neg (show ¬ (H.length : Int) = (n : Int) by omega), if_pos (show (0 : Int) ≤ (i : Int) by omega), if_pos (show (i : Int) < (L.length : Int) by omega), Option.bind_some, if_pos (by simp only [List.length_cons, List.length_nil]; omega), cw64' (n := (i : Int) + 1) (by omega) (by omega)]
            rfl
theorem rhits_eq (L : List Int) (n : Nat) (kd : Int) (hL : L.length ≤ 1024) (hkd : kd = 1 ∨ kd = 2 ∨ kd = 3) (hnd : ∀ i, i ≤ L.length → (dh kd L n i).1.Nodup) : Evn (fun k => cellarref27_hits.f k L (n : Int) kd) ((((dh kd L n L.length).2 : Nat) : Int), 0) := by
  obtain ⟨K, hK⟩ := hits_l0 hL hkd hnd L.length 0 (by omega)
  refine ⟨K, fun k hk => ?_⟩
  have h := hK k hk
  dsimp only at h ⊢
  unfold cellarref27_hits.f
  rw [if_neg (by omega), if_neg (by omega)]
  exact h
theorem rhits_q (Ln : List Nat) (hL : Ln.length ≤ 1024) (n : Nat) (again : Bool) : Evn (fun k => cellarref27_hits.f k (zs Ln) (n : Int) (if again = true then 1 else 2)) (((qH Ln n again Ln.length : Nat) : Int), 0) := by
  have hzl : (zs Ln).length = Ln.length := zs_length Ln
  have h := rhits_eq (zs Ln) n (if again = true then 1 else 2) (by omega) (by cases again <;> simp) (fun i hi => by
    obtain ⟨h1, _, h3⟩ := dh_q again Ln n i (by omega)
    rw [h3]
    exact List.pairwise_reverse.2 (List.Pairwise.imp (fun h => Ne.symm h) h1))
  rw [hzl, (dh_q again Ln n Ln.length (Nat.le_refl _)).2.2] at h
  exact h
theorem rhits_b (L : List Int) (hL : L.length ≤ 1024) (n : Nat) (hw : ∀ x ∈ L, (Lit.int .u64 x).wf = true) : Evn (fun k => cellarref27_hits.f k L (n : Int) 3) ((((bh L n L.length).2 : Nat) : Int), 0) := by
  have h := rhits_eq L n 3 hL (by simp) (fun i hi => by rw [dh_best]; exact (bh_inv L n hw i hi).1)
  rw [dh_best] at h
  exact h
theorem pure (l0 : List Int) (a : Int) (h1 : l0.length ≤ maxLen) (h2 : l0.length * 8 ≤ 140737488351232) (h3 : ∀ x ∈ l0, (Lit.int .u64 x).wf = true) (h4 : (Lit.int .i64 a).wf = true) : ∃ k, cellarlaw27_CurveHits.f k l0 a = some true := by
  have hw : ∀ x ∈ l0, 0 ≤ x ∧ x < 18446744073709551616 := fun x hx => by have := wf64 (h3 x hx); omega
  have ha : a < 9223372036854775808 := by simp [Lit.wf, IntKind.min, IntKind.max, IntKind.bits, IntKind.signed] at h4; omega
  obtain ⟨K4, hK4⟩ := lives_ev
  have key : ∃ (u v t : Int) (e : Int), queueF l0 a true = some (u, e) ∧ queueF l0 a false = some (v, e) ∧ bestF l0 a = some (t, e) ∧ Evn (fun k => cellarref27_hits.f k l0 a 1) (u, e) ∧ Evn (fun k => cellarref27_hits.f k l0 a 2) (v, e) ∧ Evn (fun k => cellarref27_hits.f k l0 a 3) (t, e) := by
    unfold queueF bestF
    by_cases c : (l0.length : Int) > 1024
    · rw [if_pos c, if_pos c, if_pos c]
      have hr : ∀ kd, Evn (fun k => cellarref27_hits.f k l0 a kd) ((0 : Int), (270 : Int)) := fun kd => ⟨0, fun k _ => by dsimp only; unfold cellarref27_hits.f; rw [if_pos c]⟩
      exact ⟨_, _, _, _, rfl, rfl, rfl, hr 1, hr 2, hr 3⟩
    · by_cases c2 : a < 0
      · rw [if_neg c, if_pos c2, if_neg c, if_pos c2, if_neg c, if_pos c2]
        have hr : ∀ kd, Evn (fun k => cellarref27_hits.f k l0 a kd) ((0 : Int), (1 : Int)) := fun kd => ⟨0, fun k _ => by dsimp only; unfold cellarref27_hits.f; rw [if_neg c, if_pos c2]⟩
        exact ⟨_, _, _, _, rfl, rfl, rfl, hr 1, hr 2, hr 3⟩
      · rw [if_neg c, if_neg c2, if_pos ⟨hw, ha⟩, if_neg c, if_neg c2, if_pos ⟨hw, ha⟩, if_neg c, if_neg c2, if_pos h3]
        obtain ⟨n, rfl⟩ := Int.eq_ofNat_of_zero_le (show 0 ≤ a by omega)
        have e := zs_toNat hw
        have hll : (l0.map Int.toNat).length = l0.length := List.length_map ..
        have q1 := rhits_q (l0.map Int.toNat) (by omega) n true
        have q2 := rhits_q (l0.map Int.toNat) (by omega) n false
        have q3 := rhits_b l0 (by omega) n h3
        rw [e, hll] at q1 q2
        rw [Int.toNat_natCast]
        exact ⟨_, _, _, _, rfl, rfl, rfl, q1, q2, q3⟩
  obtain ⟨u, v, t, e, e1, e2, e3, ⟨K1, g1⟩, ⟨K2, g2⟩, ⟨K3, g3⟩⟩ := key
  refine ⟨K1 + K2 + K3 + K4 + 2, ?_⟩
  have f1 := g1 (K1 + K2 + K3 + K4 + 2) (by omega)
  have f2 := g2 (K1 + K2 + K3 + K4 + 1) (by omega)
  have f3 := g3 (K1 + K2 + K3 + K4) (by omega)
  have f4 := hK4 (K1 + K2 + K3 + K4 + 2) (by omega)
  dsimp only at f1 f2 f3 f4
  unfold cellarlaw27_CurveHits.f curve_Lru.f cellarref27_Lru.f
  rw [f4, Option.bind_some, if_pos rfl, show curve_queue.f l0 a true = queueF l0 a true from rfl, e1, Option.bind_some, Option.bind_some, f1, Option.bind_some, Option.bind_some, if_pos rfl]
  simp only [cellarlaw27_CurveHits.j0]
  unfold curve_Fifo.f cellarref27_Fifo.f
  rw [if_neg (by simp), show curve_queue.f l0 a false = queueF l0 a false from rfl, e2, Option.bind_some, Option.bind_some, f2, Option.bind_some, Option.bind_some, if_pos rfl]
  simp only [cellarlaw27_CurveHits.j1]
  unfold cellarref27_Best.f
  rw [if_neg (by simp), show curve_Best.f l0 a = bestF l0 a from rfl, e3, Option.bind_some, f3, Option.bind_some, Option.bind_some, if_pos rfl]
  simp
end Go.Proofs.Yteaidghanfjigaa.RCurveHits
namespace Go.Proofs.Yteaidghanfjigaa.Pure
open Go.Proofs.Yteaidghanfjigaa.RCurveHits
theorem CurveHits : cellarlaw27_CurveHits.Pure := fun l0 a1 h1 h2 h3 h4 => pure l0 a1 h1 h2 h3 h4
end Go.Proofs.Yteaidghanfjigaa.Pure
