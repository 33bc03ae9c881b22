/- The plain law of CurveBelady, over the printed functions.
   No condition. -/
import Derived.Test.YteaidghanfjigaaCurveP
import Derived.Test.YteaidghanfjigaaRCurveBeladyx1
namespace Go.Proofs.Yteaidghanfjigaa.RCurveBelady
open Go.Proofs.Yteaidghanfjigaa.QCurveCurves
open Go.RowKit Go.Proofs.YteaidghanfjigaaW.PrintWords Go.Proofs.YteaidghanfjigaaW.PrintLast Go.Proofs.YteaidghanfjigaaW.PrintMore
set_option linter.unusedVariables false
set_option linter.unusedSimpArgs false
theorem up_fuel {α : Type} {f : Nat → Option α} (h : ∀ k, LeO (f k) (f (k + 1))) {n : Nat} {x : α} (hx : f n = some x) : ∀ m, n ≤ m → f m = some x := by
  intro m hm
  induction m with
  | zero => obtain rfl : n = 0 := by omega
            exact hx
  | succ m ih =>
    by_cases c : n = m + 1
    · subst c; exact hx
    · exact h m x (ih (by omega))
theorem lives100 : cellarlaw27_lives.f 100 = some true := by decide +kernel
theorem lives_ev : Evn (fun k => cellarlaw27_lives.f k) true := ⟨100, fun k hk => up_fuel cellarlaw27_lives.mono lives100 k hk⟩
theorem Evn.stepK {α : Type} {g h : Nat → Option α} {r : α} (K : Nat) (hs : ∀ k, K ≤ k → g (k + 1) = h k) (hh : Evn h r) : Evn g r := by
  obtain ⟨K2, h2⟩ := hh
  refine ⟨K + K2 + 1, fun k hk => ?_⟩
  obtain ⟨j, rfl⟩ : ∃ j, k = j + 1 := ⟨k - 1, by omega⟩
  rw [hs j (by omega)]
  exact h2 j (by omega)
/-- The document's step. -/
def dst (kind : Int) (L : List Int) (sz i : Nat) (s : List Int × Nat) : List Int × Nat :=
  if rd L (i : Int) ∈ s.1 then ((if kind = 1 then s.1.erase (rd L (i : Int)) ++ [rd L (i : Int)] else s.1), s.2 + 1)
  else if sz = 0 then s else if s.1.length = sz then ((if kind = 3 then s.1.erase (top1 L (i + 1) s.1) else s.1.tail) ++ [rd L (i : Int)], s.2) else (s.1 ++ [rd L (i : Int)], s.2)
def dh (kind : Int) (L : List Int) (sz : Nat) : Nat → List Int × Nat
  | 0 => ([], 0)
  | i + 1 => dst kind L sz i (dh kind L sz i)
theorem dh_best (L : List Int) (sz i : Nat) : dh 3 L sz i = bh L sz i := by
  induction i with
  | zero => rfl
  | succ i ih =>
    simp only [dh, bh]
    rw [ih]
    unfold dst bst
    rw [if_neg (show ¬ (3 : Int) = 1 by decide), if_pos rfl]
theorem snd_le (kind : Int) (L : List Int) (sz : Nat) : ∀ i, (dh kind L sz i).2 ≤ i ∧ (dh kind L sz i).1.length ≤ i := by
  intro i
  induction i with
  | zero => simp [dh]
  | succ i ih =>
    simp only [dh, dst]
    split
    · rename_i hm
      refine ⟨by simp only []; omega, ?_⟩
      simp only []
      split
      · rw [List.length_append, List.length_erase_of_mem hm]; simp only [List.length_cons, List.length_nil]; omega
      · omega
    · split
      · omega
      · split
        · refine ⟨by simp only []; omega, ?_⟩
          simp only [List.length_append, List.length_cons, List.length_nil]
          split
          · have := List.length_erase_le (a := top1 L (i + 1) (dh kind L sz i).1) (l := (dh kind L sz i).1); omega
          · rw [List.length_tail]; omega
        · refine ⟨by simp only []; omega, ?_⟩
          simp only [List.length_append, List.length_cons, List.length_nil]; omega
-- the caches by age and by use
theorem rev_erase (c : List Int) (hn : c.Nodup) (h : Int) : (c.erase h).reverse = c.reverse.erase h := by
  have hr : c.reverse.Nodup := List.pairwise_reverse.2 (List.Pairwise.imp (fun h => Ne.symm h) hn)
  rw [List.Nodup.erase_eq_filter hn h, List.Nodup.erase_eq_filter hr h, List.filter_reverse]
theorem qst_nod (again : Bool) (n : Nat) (c : List Int) (h : Int) (hn : c.Nodup) (hl : c.length ≤ n) : (qst again n c h).1.Nodup ∧ (qst again n c h).1.length ≤ n := by
  unfold qst
  by_cases m : h ∈ c
  · rw [if_pos m]
    cases again with
    | true =>
      simp only [if_true]
      refine ⟨List.nodup_cons.2 ⟨fun g => ((List.Nodup.mem_erase_iff hn).1 g).1 rfl, hn.erase _⟩, ?_⟩
      have := List.length_pos_of_mem m
      rw [List.length_cons, List.length_erase_of_mem m]; omega
    | false => exact ⟨hn, hl⟩
  · rw [if_neg m]
    exact ⟨(List.nodup_cons.2 ⟨m, hn⟩).sublist (List.take_sublist _ _), by simp only [List.length_take]; omega⟩
theorem dh_q (again : Bool) (Ln : List Nat) (sz : Nat) : ∀ i, i ≤ Ln.length → (qC Ln sz again i).Nodup ∧ (qC Ln sz again i).length ≤ sz ∧ dh (if again = true then 1 else 2) (zs Ln) sz i = ((qC Ln sz again i).reverse, qH Ln sz again i) := by
  intro i
  induction i with
  | zero => intro _; simp [qC, dh, qH]
  | succ i ih =>
    intro hi
    obtain ⟨h1, h2, h3⟩ := ih (by omega)
    have e : rd (zs Ln) (i : Int) = ((Ln.getD i 0 : Nat) : Int) := rd_zs Ln i
    have hq := qst_nod again sz (qC Ln sz again i) ((Ln.getD i 0 : Nat) : Int) h1 h2
    refine ⟨hq.1, hq.2, ?_⟩
    simp only [dh, qC, qH]
    rw [h3]
    unfold dst qst
    rw [e]
    generalize ((Ln.getD i 0 : Nat) : Int) = h
    generalize qC Ln sz again i = c at *
    generalize qH Ln sz again i = m
    by_cases hm : h ∈ c
    · rw [if_pos (by simpa using hm), if_pos hm]
      cases again with
      | true => simp only [if_true]; rw [List.reverse_cons, rev_erase c h1]
      | false => simp
    · rw [if_neg (by simpa using hm), if_neg hm]
      by_cases z : sz = 0
      · rw [if_pos z]
        have : c = [] := List.eq_nil_of_length_eq_zero (by omega)
        subst this; subst z; simp
      · rw [if_neg z, List.length_reverse]
        by_cases f : c.length = sz
        · rw [if_pos f, if_neg (by cases again <;> decide)]
          obtain ⟨j, rfl⟩ : ∃ j, sz = j + 1 := ⟨sz - 1, by omega⟩
          simp only [List.take_succ_cons, List.reverse_cons, Bool.false_eq_true, if_false, Nat.add_zero]
          congr 2
          rw [List.tail_reverse, List.dropLast_eq_take, f, Nat.add_sub_cancel]
        · rw [if_neg f, List.take_of_length_le (by simp only [List.length_cons]; omega)]
          simp
/-- How many of X are asked for again ahead of t. -/
def ct (L : List Int) (i t : Nat) (X : List Int) : Nat := X.countP (fun x => decide (ff L i x < t))
theorem ff_ge (L : List Int) (i : Nat) (x : Int) : i ≤ ff L i x := by unfold ff; omega
theorem ct_low (L : List Int) (i t : Nat) (h : t ≤ i) (X : List Int) : ct L i t X = 0 := by
  unfold ct
  rw [List.countP_eq_zero]
  intro x _
  have := ff_ge L i x
  simp; omega
theorem ct_le (L : List Int) (i t : Nat) (X : List Int) : ct L i t X ≤ X.length := List.countP_le_length
theorem ct_out (L : List Int) (i t : Nat) (hi : i < L.length) (X : List Int) (hx : rd L (i : Int) ∉ X) : ct L i t X = ct L (i + 1) t X := by
  unfold ct
  apply List.countP_congr
  intro x hm
  have e : ff L i x = ff L (i + 1) x := by rw [ff_at L i hi, if_neg (show ¬ rd L (i : Int) = x from fun e => hx (by rw [e]; exact hm))]
  rw [e]
theorem ct_cons (L : List Int) (i t : Nat) (x : Int) (X : List Int) : ct L i t (x :: X) = ct L i t X + if ff L i x < t then 1 else 0 := by
  unfold ct; rw [List.countP_cons]; simp
theorem ct_perm (L : List Int) (i t : Nat) {X Y : List Int} (h : X.Perm Y) : ct L i t X = ct L i t Y := h.countP_eq _
theorem ct_sub (L : List Int) (i t : Nat) {X Y : List Int} (h : X.Sublist Y) : ct L i t X ≤ ct L i t Y := h.countP_le
theorem ct_snoc (L : List Int) (i t : Nat) (x : Int) (X : List Int) : ct L i t (X ++ [x]) = ct L i t X + if ff L i x < t then 1 else 0 := by
  rw [← ct_cons]; exact ct_perm L i t (List.perm_append_singleton x X)
theorem ct_erase (L : List Int) (i t : Nat) (x : Int) (X : List Int) (hx : x ∈ X) : ct L i t X = ct L i t (X.erase x) + if ff L i x < t then 1 else 0 := by
  rw [← ct_cons]; exact ct_perm L i t (List.perm_cons_erase hx)
theorem ct_in (L : List Int) (i t : Nat) (hi : i < L.length) (X : List Int) (hn : X.Nodup) (hx : rd L (i : Int) ∈ X) : ct L i t X = ct L (i + 1) t (X.erase (rd L (i : Int))) + if i < t then 1 else 0 := by
  rw [ct_erase L i t _ X hx, ff_at L i hi, if_pos rfl, ct_out L i t hi (X.erase _) (fun h => ((List.Nodup.mem_erase_iff hn).1 h).1 rfl)]
theorem ct_all (L : List Int) (i t : Nat) (X : List Int) (h : ∀ x ∈ X, ff L i x < t) : ct L i t X = X.length := by
  unfold ct; rw [List.countP_eq_length]; intro x hx; simpa using h x hx
structure Keeps (L : List Int) (m : Nat) (C : Nat → List Int) (hC : Nat → Nat) : Prop where
  start : C 0 = [] ∧ hC 0 = 0
  nod : ∀ i, i ≤ L.length → (C i).Nodup ∧ (C i).length ≤ m
  step : ∀ i, i < L.length → (rd L (i : Int) ∈ C i ∧ hC (i + 1) = hC i + 1 ∧ (C (i + 1)).Perm (C i)) ∨ (rd L (i : Int) ∉ C i ∧ hC (i + 1) = hC i ∧ (C (i + 1) = [] ∨ ∃ Y, Y.Sublist (C i) ∧ (C (i + 1)).Perm (rd L (i : Int) :: Y)))
theorem top1_max (L : List Int) (i : Nat) (H : List Int) (h0 : 0 < H.length) : top1 L i H ∈ H ∧ ∀ x ∈ H, ff L i x ≤ ff L i (top1 L i H) := by
  obtain ⟨h1, h2⟩ := tix_spec L i H H.length h0
  have e := rd_mem H (tix L i H H.length) h1
  refine ⟨by unfold top1; rw [e]; exact List.getElem_mem _, fun x hx => ?_⟩
  obtain ⟨j, hj, rfl⟩ := List.getElem_of_mem hx
  have h3 := h2 j hj
  rw [rd_mem H j hj] at h3
  unfold top1
  omega
theorem belady {L : List Int} {m n : Nat} {C : Nat → List Int} {hC : Nat → Nat} (K : Keeps L m C hC) (hmn : m ≤ n) (hw : ∀ x ∈ L, (Lit.int .u64 x).wf = true) : ∀ i, i ≤ L.length → ∀ t, ct L i t (C i) + hC i ≤ (bh L n i).2 + ct L i t (bh L n i).1 := by
  intro i
  induction i with
  | zero => intro _ t; rw [K.start.1, K.start.2]; simp [ct, bh]
  | succ i ih =>
    intro hi t
    have ih := ih (by omega)
    have h0 := ih 0
    rw [ct_low L i 0 (by omega), ct_low L i 0 (by omega)] at h0
    have h1 := ih (i + 1)
    have ht := ih t
    obtain ⟨cn, cl⟩ := K.nod i (by omega)
    obtain ⟨cn', cl'⟩ := K.nod (i + 1) hi
    obtain ⟨bn, _, _, bl, _⟩ := bh_inv L n hw i (by omega)
    have st := K.step i (by omega)
    have hq : i + 1 ≤ ff L (i + 1) (rd L (i : Int)) := ff_ge L (i + 1) _
    generalize hh : rd L (i : Int) = h at *
    generalize hqq : ff L (i + 1) h = q at *
    have lowC : t ≤ i → ct L (i + 1) t ((C i).erase h) = 0 := fun hx => ct_low L (i + 1) t (by omega) _
    obtain ⟨u, hu⟩ : ∃ u : Nat, (if q < t then 1 else 0) = u := ⟨_, rfl⟩
    obtain ⟨v, hv⟩ : ∃ v : Nat, (if i < t then 1 else 0) = v := ⟨_, rfl⟩
    have hu1 : q < t → u = 1 := fun hx => by rw [← hu, if_pos hx]
    have hu0 : ¬ q < t → u = 0 := fun hx => by rw [← hu, if_neg hx]
    have hv1 : i < t → v = 1 := fun hx => by rw [← hv, if_pos hx]
    have hv0 : ¬ i < t → v = 0 := fun hx => by rw [← hv, if_neg hx]
    -- C's side
    have cIn : h ∈ C i → ct L i t (C i) = ct L (i + 1) t ((C i).erase h) + v ∧ ct L (i + 1) t (C i) = ct L (i + 1) t ((C i).erase h) + u ∧ ct L i (i + 1) (C i) = 1 := by
      intro hm
      refine ⟨by rw [← hh, ← hv]; exact ct_in L i t (by omega) _ cn (by rw [hh]; exact hm), by rw [← hu, ← hqq]; exact ct_erase L (i + 1) t h _ hm, ?_⟩
      rw [ct_in L i (i + 1) (by omega) _ cn (by rw [hh]; exact hm), ct_low L (i + 1) (i + 1) (by omega), if_pos (by omega)]
    have cOut : h ∉ C i → ct L i t (C i) = ct L (i + 1) t (C i) := fun hm => ct_out L i t (by omega) _ (by rw [hh]; exact hm)
    have bOut : h ∉ (bh L n i).1 → ct L i t (bh L n i).1 = ct L (i + 1) t (bh L n i).1 ∧ ct L i (i + 1) (bh L n i).1 = 0 := fun hm => ⟨ct_out L i t (by omega) _ (by rw [hh]; exact hm), by rw [ct_out L i (i + 1) (by omega) _ (by rw [hh]; exact hm)]; exact ct_low L (i + 1) (i + 1) (by omega) _⟩
    -- what C has behind a miss
    have cMiss : (C (i + 1) = [] ∨ ∃ Y, Y.Sublist (C i) ∧ (C (i + 1)).Perm (h :: Y)) → ct L (i + 1) t (C (i + 1)) ≤ ct L (i + 1) t (C i) + u ∧ (¬ q < t → ct L (i + 1) t (C (i + 1)) + 1 ≤ (C (i + 1)).length ∨ C (i + 1) = []) := by
      rintro (e | ⟨Y, hY, hp⟩)
      · rw [e]; exact ⟨by simp [ct], fun _ => .inr rfl⟩
      · rw [ct_perm L (i + 1) t hp, ct_cons, hqq, hu]
        have := ct_sub L (i + 1) t hY
        refine ⟨by omega, fun hqt => .inl ?_⟩
        rw [hp.length_eq, List.length_cons]
        have := ct_le L (i + 1) t Y
        have := hu0 hqt
        omega
    have bst_ : bh L n (i + 1) = bst L n i (bh L n i) := rfl
    rw [bst_]
    unfold bst
    rw [hh]
    have cLen := ct_le L (i + 1) t (C (i + 1))
    by_cases hb : h ∈ (bh L n i).1
    · rw [if_pos hb]
      have b1 : ct L i t (bh L n i).1 = ct L (i + 1) t ((bh L n i).1.erase h) + v := by rw [← hh, ← hv]; exact ct_in L i t (by omega) _ bn (by rw [hh]; exact hb)
      have b2 : ct L (i + 1) t (bh L n i).1 = ct L (i + 1) t ((bh L n i).1.erase h) + u := by rw [← hu, ← hqq]; exact ct_erase L (i + 1) t h _ hb
      rcases st with ⟨s1, s2, s3⟩ | ⟨s1, s2, s3⟩
      · obtain ⟨c1, c2, c3⟩ := cIn s1
        rw [ct_perm L (i + 1) t s3, s2]
        simp only []
        omega
      · have c1 := cOut s1
        have c2 := (cMiss s3).1
        rw [s2]
        simp only []
        omega
    · rw [if_neg hb]
      obtain ⟨b1, b2⟩ := bOut hb
      by_cases z : n = 0
      · rw [if_pos z]
        have e0 : C i = [] := List.eq_nil_of_length_eq_zero (by omega)
        have e1 : C (i + 1) = [] := List.eq_nil_of_length_eq_zero (by omega)
        rcases st with ⟨s1, s2, s3⟩ | ⟨s1, s2, s3⟩
        · rw [e0] at s1; simp at s1
        · rw [e1, s2]; simp only [ct, List.countP_nil]; omega
      · rw [if_neg z]
        by_cases f : (bh L n i).1.length = n
        · rw [if_pos f]
          obtain ⟨t1, t2⟩ := top1_max L (i + 1) (bh L n i).1 (by omega)
          generalize top1 L (i + 1) (bh L n i).1 = zz at *
          simp only [ct_snoc, hqq, hu]
          have b3 := ct_erase L (i + 1) t zz _ t1
          have b4 : ff L (i + 1) zz < t → ct L (i + 1) t (bh L n i).1 = n := fun hz => (ct_all L (i + 1) t _ (fun x hx => Nat.lt_of_le_of_lt (t2 x hx) hz)).trans f
          rcases st with ⟨s1, s2, s3⟩ | ⟨s1, s2, s3⟩
          · obtain ⟨c1, c2, c3⟩ := cIn s1
            rw [ct_perm L (i + 1) t s3] at cLen ⊢
            rw [s3.length_eq] at cLen
            have c4 : ct L (i + 1) t ((C i).erase h) + 1 ≤ (C i).length := by
              have := ct_le L (i + 1) t ((C i).erase h)
              have hp := List.length_pos_of_mem s1
              rw [List.length_erase_of_mem s1] at this
              omega
            rw [s2]
            by_cases zt : ff L (i + 1) zz < t
            · have := b4 zt
              rw [if_pos zt] at b3
              omega
            · rw [if_neg zt] at b3
              omega
          · have c1 := cOut s1
            obtain ⟨c2, c3⟩ := cMiss s3
            rw [s2]
            by_cases zt : ff L (i + 1) zz < t
            · have := b4 zt
              rw [if_pos zt] at b3
              by_cases z1 : q < t
              · omega
              · rcases c3 z1 with c3 | c3
                · omega
                · rw [c3] at cLen ⊢; simp only [List.length_nil] at cLen; omega
            · rw [if_neg zt] at b3
              omega
        · rw [if_neg f]
          simp only [ct_snoc, hqq, hu]
          rcases st with ⟨s1, s2, s3⟩ | ⟨s1, s2, s3⟩
          · obtain ⟨c1, c2, c3⟩ := cIn s1
            rw [ct_perm L (i + 1) t s3, s2]
            omega
          · have c1 := cOut s1
            obtain ⟨c2, c3⟩ := cMiss s3
            rw [s2]
            omega
theorem keeps_bh (L : List Int) (n : Nat) (hw : ∀ x ∈ L, (Lit.int .u64 x).wf = true) : Keeps L n (fun i => (bh L n i).1) (fun i => (bh L n i).2) := by
  refine ⟨⟨rfl, rfl⟩, fun i hi => ⟨(bh_inv L n hw i hi).1, (bh_inv L n hw i hi).2.2.2.1⟩, fun i hi => ?_⟩
  have e : bh L n (i + 1) = bst L n i (bh L n i) := rfl
  have bl := (bh_inv L n hw i (by omega)).2.2.2.1
  show (rd L (i : Int) ∈ (bh L n i).1 ∧ (bh L n (i + 1)).2 = (bh L n i).2 + 1 ∧ ((bh L n (i + 1)).1).Perm (bh L n i).1) ∨ (rd L (i : Int) ∉ (bh L n i).1 ∧ (bh L n (i + 1)).2 = (bh L n i).2 ∧ ((bh L n (i + 1)).1 = [] ∨ ∃ Y, Y.Sublist (bh L n i).1 ∧ ((bh L n (i + 1)).1).Perm (rd L (i : Int) :: Y)))
  rw [e]
  unfold bst
  by_cases hm : rd L (i : Int) ∈ (bh L n i).1
  · rw [if_pos hm]
    exact .inl ⟨hm, rfl, List.Perm.refl _⟩
  · rw [if_neg hm]
    refine .inr ⟨hm, ?_⟩
    by_cases z : n = 0
    · rw [if_pos z]
      exact ⟨rfl, .inl (List.eq_nil_of_length_eq_zero (by omega))⟩
    · rw [if_neg z]
      by_cases f : (bh L n i).1.length = n
      · rw [if_pos f]
        exact ⟨rfl, .inr ⟨_, List.erase_sublist, List.perm_append_singleton _ _⟩⟩
      · rw [if_neg f]
        exact ⟨rfl, .inr ⟨_, List.Sublist.refl _, List.perm_append_singleton _ _⟩⟩
theorem keeps_q (Ln : List Nat) (n : Nat) (again : Bool) : Keeps (zs Ln) n (qC Ln n again) (qH Ln n again) := by
  have hzl : (zs Ln).length = Ln.length := zs_length Ln
  refine ⟨⟨rfl, rfl⟩, fun i hi => ⟨(dh_q again Ln n i (by omega)).1, (dh_q again Ln n i (by omega)).2.1⟩, fun i hi => ?_⟩
  have e : rd (zs Ln) (i : Int) = ((Ln.getD i 0 : Nat) : Int) := rd_zs Ln i
  have cl := (dh_q again Ln n i (by omega)).2.1
  rw [e]
  simp only [qC, qH]
  generalize ((Ln.getD i 0 : Nat) : Int) = h
  generalize qC Ln n again i = c at *
  unfold qst
  by_cases hm : h ∈ c
  · rw [if_pos hm]
    refine .inl ⟨hm, by simp, ?_⟩
    cases again with
    | true => exact (List.perm_cons_erase hm).symm
    | false => exact List.Perm.refl _
  · rw [if_neg hm]
    refine .inr ⟨hm, by simp, ?_⟩
    by_cases z : n = 0
    · subst z; exact .inl (by simp)
    · obtain ⟨j, rfl⟩ : ∃ j, n = j + 1 := ⟨n - 1, by omega⟩
      exact .inr ⟨c.take j, List.take_sublist _ _, by simp only [List.take_succ_cons]; exact List.Perm.refl _⟩
/-- Where there is room, the new one is put to the others. -/
def Roomy (L : List Int) (m : Nat) (C : Nat → List Int) : Prop := ∀ i, i < L.length → rd L (i : Int) ∉ C i → (C i).length < m → (C (i + 1)).Perm (rd L (i : Int) :: C i)
theorem roomy_bh (L : List Int) (n : Nat) : Roomy L n (fun i => (bh L n i).1) := by
  intro i hi hm hl
  have e : bh L n (i + 1) = bst L n i (bh L n i) := rfl
  replace hm : rd L (i : Int) ∉ (bh L n i).1 := hm
  replace hl : (bh L n i).1.length < n := hl
  show ((bh L n (i + 1)).1).Perm (rd L (i : Int) :: (bh L n i).1)
  rw [e]
  unfold bst
  rw [if_neg hm, if_neg (by omega), if_neg (by omega)]
  exact List.perm_append_singleton _ _
theorem roomy_q (Ln : List Nat) (n : Nat) (again : Bool) : Roomy (zs Ln) n (qC Ln n again) := by
  intro i hi hm hl
  have e : rd (zs Ln) (i : Int) = ((Ln.getD i 0 : Nat) : Int) := rd_zs Ln i
  rw [e] at hm ⊢
  simp only [qC]
  unfold qst
  rw [if_neg hm, List.take_of_length_le (by simp only [List.length_cons]; omega)]
/-- How many were asked for again, of the first i. -/
def ag (L : List Int) : Nat → Nat
  | 0 => 0
  | i + 1 => ag L i + if rd L (i : Int) ∈ L.take i then 1 else 0
theorem ag_le (L : List Int) (i : Nat) : ag L i ≤ i := by
  induction i with
  | zero => simp [ag]
  | succ i ih => simp only [ag]; split <;> omega
theorem ag_mono (L : List Int) (i : Nat) : ∀ d, i - ag L i ≤ (i + d) - ag L (i + d) := by
  intro d
  induction d with
  | zero => exact Nat.le_refl _
  | succ d ih =>
    have := ag_le L (i + d)
    have e : ag L (i + (d + 1)) = ag L (i + d) + if rd L ((i + d : Nat) : Int) ∈ L.take (i + d) then 1 else 0 := rfl
    rw [e]
    split <;> omega
theorem take_mem (L : List Int) (i : Nat) (hi : i < L.length) (x : Int) : x ∈ L.take (i + 1) ↔ x = rd L (i : Int) ∨ x ∈ L.take i := by
  rw [List.take_succ_eq_append_getElem hi, List.mem_append, List.mem_singleton, rd_mem L i hi]
  exact or_comm
theorem keeps_ag {L : List Int} {m : Nat} {C : Nat → List Int} {hC : Nat → Nat} (K : Keeps L m C hC) : ∀ i, i ≤ L.length → (∀ x ∈ C i, x ∈ L.take i) ∧ hC i ≤ ag L i := by
  intro i
  induction i with
  | zero => intro _; rw [K.start.1, K.start.2]; simp [ag]
  | succ i ih =>
    intro hi
    obtain ⟨h1, h2⟩ := ih (by omega)
    simp only [ag]
    rcases K.step i (by omega) with ⟨s1, s2, s3⟩ | ⟨s1, s2, s3⟩
    · refine ⟨fun x hx => (take_mem L i (by omega) x).2 (.inr (h1 x (s3.mem_iff.1 hx))), ?_⟩
      rw [s2, if_pos (h1 _ s1)]; omega
    · refine ⟨fun x hx => ?_, by rw [s2]; omega⟩
      rcases s3 with s3 | ⟨Y, hY, hp⟩
      · rw [s3] at hx; simp at hx
      · rcases List.mem_cons.1 (hp.mem_iff.1 hx) with hx | hx
        · exact (take_mem L i (by omega) x).2 (.inl hx)
        · exact (take_mem L i (by omega) x).2 (.inr (h1 x (hY.subset hx)))
theorem keeps_all {L : List Int} {m : Nat} {C : Nat → List Int} {hC : Nat → Nat} (K : Keeps L m C hC) (R : Roomy L m C) (hm : L.length - ag L L.length ≤ m) : ∀ i, i ≤ L.length → (∀ x, x ∈ C i ↔ x ∈ L.take i) ∧ hC i = ag L i ∧ (C i).length = i - ag L i := by
  intro i
  induction i with
  | zero => intro _; rw [K.start.1, K.start.2]; simp [ag]
  | succ i ih =>
    intro hi
    obtain ⟨h1, h2, h3⟩ := ih (by omega)
    have hle := ag_le L i
    have hmo := ag_mono L (i + 1) (L.length - (i + 1))
    rw [show i + 1 + (L.length - (i + 1)) = L.length by omega] at hmo
    have hag : ag L (i + 1) = ag L i + if rd L (i : Int) ∈ L.take i then 1 else 0 := rfl
    rcases K.step i (by omega) with ⟨s1, s2, s3⟩ | ⟨s1, s2, s3⟩
    · have hm1 := (h1 _).1 s1
      rw [if_pos hm1] at hag
      refine ⟨fun x => ?_, by omega, by rw [s3.length_eq]; omega⟩
      rw [s3.mem_iff, h1, take_mem L i (by omega)]
      exact ⟨.inr, fun h => h.elim (fun e => by rw [e]; exact hm1) id⟩
    · have hm1 : rd L (i : Int) ∉ L.take i := fun h => s1 ((h1 _).2 h)
      rw [if_neg hm1] at hag
      have hp := R i (by omega) s1 (by omega)
      refine ⟨fun x => ?_, by omega, by rw [hp.length_eq, List.length_cons]; omega⟩
      rw [hp.mem_iff, List.mem_cons, h1, take_mem L i (by omega)]
theorem stk_mem (L : List Nat) : ∀ i, i ≤ L.length → ∀ x, x ∈ stk L i ↔ x ∈ L.take i := by
  intro i
  induction i with
  | zero => intro _ x; simp [stk]
  | succ i ih =>
    intro hi x
    have ih := ih (by omega) x
    have e : L.getD i 0 = L[i] := by simp [List.getD, show i < L.length by omega]
    rw [List.take_succ_eq_append_getElem (show i < L.length by omega), List.mem_append, List.mem_singleton, ← ih]
    simp only [stk, stackStep]
    rw [e]
    by_cases c : L[i] ∈ stk L i
    · rw [if_pos c]
      simp only [List.mem_cons]
      rw [← List.erase_eq_eraseIdx_of_idxOf (l := stk L i) (a := L[i]) rfl]
      by_cases d : x = L[i]
      · subst d; simp
      · rw [List.mem_erase_of_ne d]; exact or_comm
    · rw [if_neg c]
      simp only [List.mem_cons]; exact or_comm
theorem dd_pos (L : List Nat) (i : Nat) (hi : i < L.length) : 0 < dd L i ↔ rd (zs L) (i : Int) ∈ (zs L).take i := by
  rw [rd_zs, zs_take, mem_zs, ← stk_mem L i (by omega)]
  unfold dd stackStep
  by_cases c : L.getD i 0 ∈ stk L i
  · rw [if_pos c]; exact ⟨fun _ => c, fun _ => Nat.succ_pos _⟩
  · rw [if_neg c]; exact ⟨fun h => absurd h (Nat.lt_irrefl 0), fun h => absurd h c⟩
theorem bel_l0 {L : List Nat} (hL : L.length ≤ 1024) (n b u a : Nat) (hb : b ≤ ag (zs L) L.length) (heq : L.length - ag (zs L) L.length ≤ n → b = ag (zs L) L.length ∧ u = ag (zs L) L.length ∧ a = ag (zs L) L.length) : ∀ (d i : Nat), i + d = L.length → Evn (fun k => cellarlaw27_CurveBelady.l0 k (zs L) (n : Int) (b : Int) (u : Int) (a : Int) (outD L L.length) ((ag (zs L) i : Nat) : Int) (i : Int)) true := by
  have hzl : (zs L).length = L.length := zs_length L
  have hol := outD_length L L.length
  intro d
  induction d with
  | zero =>
    intro i hi
    obtain rfl : i = L.length := by omega
    have hle := ag_le (zs L) L.length
    generalize ag (zs L) L.length = g at *
    refine Evn.step (h := fun k => cellarlaw27_CurveBelady.j3 k (zs L) (n : Int) (b : Int) (u : Int) (a : Int) (g : Int) false) (fun k => ?_) (Evn.of_eq (fun k => ?_))
    · simp only [cellarlaw27_CurveBelady.l0]
      rw [if_neg (by omega), if_pos (by omega), show decide ((b : Int) > (g : Int)) = false from decide_eq_false (by omega)]
    · simp only [cellarlaw27_CurveBelady.j3]
      rw [if_neg (by simp), cw64' (n := ((zs L).length : Int) - (g : Int)) (by omega) (by omega)]
      by_cases c : (n : Int) ≥ ((zs L).length : Int) - (g : Int)
      · obtain ⟨e1, e2, e3⟩ := heq (by omega)
        rw [if_pos c, if_pos (by omega), if_pos (by omega), e3]
        simp
      · rw [if_neg c]
  | succ d ih =>
    intro i hi
    have hle := ag_le (zs L) i
    have e : rd (outD L L.length) (i : Int) = ((dd L i : Nat) : Int) := by rw [rd_nat]; unfold outD; simp [List.getD, show i < L.length by omega]
    have hd := dd_pos L i (by omega)
    refine Evn.step (fun k => ?_) (ih (i + 1) (by omega))
    simp only [cellarlaw27_CurveBelady.l0, ag]
    rw [if_pos (show (i : Int) < ((outD L L.length).length : Int) by omega), if_pos (show (0 : Int) ≤ (i : Int) by omega), e, cw64' (n := (i : Int) + 1) (by omega) (by omega)]
    by_cases c : rd (zs L) (i : Int) ∈ (zs L).take i
    · have hp := hd.2 c
      rw [if_pos (show ((dd L i : Nat) : Int) > 0 by omega), if_pos c, cw64' (n := ((ag (zs L) i : Nat) : Int) + 1) (by omega) (by omega)]
      rfl
    · have hp : ¬ 0 < dd L i := fun h => c (hd.1 h)
      rw [if_neg (show ¬ ((dd L i : Nat) : Int) > 0 by omega), if_neg c]
      rfl
theorem ct_zero (L : List Int) (i : Nat) (X : List Int) : ct L i 0 X = 0 := ct_low L i 0 (by omega) X
theorem bel_le {L : List Int} {m n : Nat} {C : Nat → List Int} {hC : Nat → Nat} (K : Keeps L m C hC) (hmn : m ≤ n) (hw : ∀ x ∈ L, (Lit.int .u64 x).wf = true) : hC L.length ≤ (bh L n L.length).2 := by
  have h := belady K hmn hw L.length (Nat.le_refl _) 0
  rw [ct_zero, ct_zero] at h
  omega
theorem pure (l0 : List Int) (a : Int) (h1 : l0.length ≤ maxLen) (h2 : l0.length * 8 ≤ 140737488351232) (h3 : ∀ x ∈ l0, (Lit.int .u64 x).wf = true) (h4 : (Lit.int .i64 a).wf = true) : ∃ k, cellarlaw27_CurveBelady.f k l0 a = some true := by
  have hw : ∀ x ∈ l0, 0 ≤ x ∧ x < 18446744073709551616 := fun x hx => by have := wf64 (h3 x hx); omega
  have ha : a < 9223372036854775808 := by simp [Lit.wf, IntKind.min, IntKind.max, IntKind.bits, IntKind.signed] at h4; omega
  obtain ⟨K4, hK4⟩ := lives_ev
  by_cases c : (l0.length : Int) > 1024
  · refine ⟨K4, ?_⟩
    have g4 := hK4 K4 (Nat.le_refl _)
    dsimp only at g4
    unfold cellarlaw27_CurveBelady.f
    rw [g4, Option.bind_some, if_pos rfl, show curve_Best.f l0 a = bestF l0 a from rfl]
    unfold bestF
    rw [if_pos c, Option.bind_some, if_neg (by decide)]
    by_cases c2 : a < 0
    · rw [if_pos c2, if_neg (by decide), if_pos c]; rfl
    · rw [if_neg c2, if_pos c]; rfl
  · by_cases c2 : a < 0
    · refine ⟨K4, ?_⟩
      have g4 := hK4 K4 (Nat.le_refl _)
      dsimp only at g4
      unfold cellarlaw27_CurveBelady.f
      rw [g4, Option.bind_some, if_pos rfl, show curve_Best.f l0 a = bestF l0 a from rfl]
      unfold bestF
      rw [if_neg c, if_pos c2, Option.bind_some, if_neg (by decide), if_pos c2, if_pos rfl]
    · obtain ⟨n, rfl⟩ := Int.eq_ofNat_of_zero_le (show 0 ≤ a by omega)
      have e := zs_toNat hw
      have hll : (l0.map Int.toNat).length = l0.length := List.length_map ..
      have hq : ∀ again, queueF l0 (n : Int) again = some (((qH (l0.map Int.toNat) n again l0.length : Nat) : Int), 0) := fun again => by
        unfold queueF
        rw [if_neg c, if_neg c2, if_pos ⟨hw, ha⟩, Int.toNat_natCast]
      have hbst : ∀ m : Nat, bestF l0 (m : Int) = some ((((bh l0 m l0.length).2 : Nat) : Int), 0) := fun m => by
        unfold bestF
        rw [if_neg c, if_neg (by omega), if_pos h3, Int.toNat_natCast]
      have hdist : distF l0 = some (outD (l0.map Int.toNat) l0.length, 0) := by unfold distF; rw [if_neg c, if_pos hw]
      have k1 := keeps_q (l0.map Int.toNat) n true
      have k2 := keeps_q (l0.map Int.toNat) n false
      have r1 := roomy_q (l0.map Int.toNat) n true
      have r2 := roomy_q (l0.map Int.toNat) n false
      have k3 := keeps_bh l0 n h3
      have r3 := roomy_bh l0 n
      rw [e] at k1 k2 r1 r2
      have b1 := bel_le k1 (Nat.le_refl n) h3
      have b2 := bel_le k2 (Nat.le_refl n) h3
      have b3 := bel_le k3 (Nat.le_succ n) h3
      have b4 := (keeps_ag k3 l0.length (Nat.le_refl _)).2
      have hE := bel_l0 (L := l0.map Int.toNat) (by omega) n (bh l0 n l0.length).2 (qH (l0.map Int.toNat) n true l0.length) (qH (l0.map Int.toNat) n false l0.length) (by rw [e, hll]; exact b4) (by
        rw [e, hll]
        intro hm
        exact ⟨(keeps_all k3 r3 hm l0.length (Nat.le_refl _)).2.1, (keeps_all k1 r1 hm l0.length (Nat.le_refl _)).2.1, (keeps_all k2 r2 hm l0.length (Nat.le_refl _)).2.1⟩) (l0.map Int.toNat).length 0 (by omega)
      rw [e, hll] at hE
      obtain ⟨K5, hK5⟩ := hE
      refine ⟨K4 + K5 + 2, ?_⟩
      have g4 := hK4 (K4 + K5 + 2) (by omega)
      have g5 := hK5 (K4 + K5) (by omega)
      dsimp only at g4 g5
      have hj1 : cellarlaw27_CurveBelady.j1 (K4 + K5 + 1) l0 (n : Int) (((bh l0 n l0.length).2 : Nat) : Int) ((qH (l0.map Int.toNat) n true l0.length : Nat) : Int) ((qH (l0.map Int.toNat) n false l0.length : Nat) : Int) = some true := by
        simp only [cellarlaw27_CurveBelady.j1]
        rw [show curve_Distances.f l0 = distF l0 from rfl, hdist, Option.bind_some]
        exact g5
      have hLru : curve_Lru.f l0 (n : Int) = some (((qH (l0.map Int.toNat) n true l0.length : Nat) : Int), 0) := by
        unfold curve_Lru.f
        rw [show curve_queue.f l0 (n : Int) true = queueF l0 (n : Int) true from rfl, hq, Option.bind_some]
      have hFifo : curve_Fifo.f l0 (n : Int) = some (((qH (l0.map Int.toNat) n false l0.length : Nat) : Int), 0) := by
        unfold curve_Fifo.f
        rw [show curve_queue.f l0 (n : Int) false = queueF l0 (n : Int) false from rfl, hq, Option.bind_some]
      generalize qH (l0.map Int.toNat) n true l0.length = u at *
      generalize qH (l0.map Int.toNat) n false l0.length = v at *
      have hB1 := hbst n
      have hB2 := hbst (n + 1)
      generalize (bh l0 n l0.length).2 = b at *
      generalize (bh l0 (n + 1) l0.length).2 = b' at *
      unfold cellarlaw27_CurveBelady.f
      rw [g4, Option.bind_some, if_pos rfl, show curve_Best.f l0 (n : Int) = bestF l0 (n : Int) from rfl, hB1, Option.bind_some, if_pos rfl, hLru, Option.bind_some, hFifo, Option.bind_some, if_neg (show ¬ ((u : Nat) : Int) > ((b : Nat) : Int) by omega), show decide (((v : Nat) : Int) > ((b : Nat) : Int)) = false from decide_eq_false (by omega)]
      simp only [cellarlaw27_CurveBelady.j0]
      rw [if_neg (by simp)]
      by_cases z : (n : Int) < 1048576
      · rw [if_pos z, cw64' (n := (n : Int) + 1) (by omega) (by omega), show (n : Int) + 1 = ((n + 1 : Nat) : Int) by omega, show curve_Best.f l0 ((n + 1 : Nat) : Int) = bestF l0 ((n + 1 : Nat) : Int) from rfl, hB2, Option.bind_some, if_pos rfl, if_neg (show ¬ ((b' : Nat) : Int) < ((b : Nat) : Int) by omega)]
        exact hj1
      · rw [if_neg z]
        exact hj1
end Go.Proofs.Yteaidghanfjigaa.RCurveBelady
namespace Go.Proofs.Yteaidghanfjigaa.Pure
open Go.Proofs.Yteaidghanfjigaa.RCurveBelady
theorem CurveBelady : cellarlaw27_CurveBelady.Pure := fun l0 a1 h1 h2 h3 h4 => pure l0 a1 h1 h2 h3 h4
end Go.Proofs.Yteaidghanfjigaa.Pure
