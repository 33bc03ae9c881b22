/- The plain law of CurveSamples, over the printed functions.
   No condition. -/
import Derived.Test.YteaidghanfjigaaCurveP
import Derived.Test.YteaidghanfjigaaRCurveSamplesx2
namespace Go.Proofs.Yteaidghanfjigaa.RCurveSamples
open Go.Proofs.Yteaidghanfjigaa.QCurveCurves
open Go.RowKit Go.Proofs.YteaidghanfjigaaW.PrintWords Go.Proofs.YteaidghanfjigaaW.PrintLast Go.Proofs.YteaidghanfjigaaW.PrintMore
set_option linter.unusedVariables false
set_option linter.unusedSimpArgs false
theorem up_fuel {α : Type} {f : Nat → Option α} (h : ∀ k, LeO (f k) (f (k + 1))) {n : Nat} {x : α} (hx : f n = some x) : ∀ m, n ≤ m → f m = some x := by
  intro m hm
  induction m with
  | zero => obtain rfl : n = 0 := by omega
            exact hx
  | succ m ih =>
    by_cases c : n = m + 1
    · subst c; exact hx
    · exact h m x (ih (by omega))
theorem lives100 : cellarlaw27_lives.f 100 = some true := by decide +kernel
theorem lives_ev : Evn (fun k => cellarlaw27_lives.f k) true := ⟨100, fun k hk => up_fuel cellarlaw27_lives.mono lives100 k hk⟩
theorem sameH_l0 (xs : List Int) (hx : xs.length < 4611686018427387904) : ∀ (d j : Nat), j + d = xs.length → Evn (fun k => cellarlaw27_sameHashes.l0 k xs xs (j : Int)) true := by
  intro d
  induction d with
  | zero =>
    intro j hj
    exact Evn.of_eq (fun k => by simp only [cellarlaw27_sameHashes.l0]; rw [if_neg (by omega)])
  | succ d ih =>
    intro j hj
    refine Evn.step (fun k => ?_) (ih (j + 1) (by omega))
    simp only [cellarlaw27_sameHashes.l0]
    rw [if_pos (by omega), if_pos (by omega), if_pos (by omega), if_pos trivial, cw64' (by omega) (by omega)]; rfl
theorem sameH_refl (xs : List Int) (hx : xs.length < 4611686018427387904) : Evn (fun k => cellarlaw27_sameHashes.f k xs xs) true := by
  obtain ⟨K, hK⟩ := sameH_l0 xs hx xs.length 0 (by omega)
  exact ⟨K, fun k hk => by simp only [cellarlaw27_sameHashes.f]; rw [if_pos trivial]; exact hK k hk⟩
theorem Evn.step' {α : Type} {g h : Nat → Option α} {r : α} (K : Nat) (hs : ∀ k, K ≤ k → g (k + 1) = h k) (hh : Evn h r) : Evn g r := by
  obtain ⟨K2, h2⟩ := hh
  refine ⟨K + K2 + 1, fun k hk => ?_⟩
  obtain ⟨j, rfl⟩ : ∃ j, k = j + 1 := ⟨k - 1, by omega⟩
  rw [hs j (by omega)]
  exact h2 j (by omega)
theorem gd_some {o : Option Int} (h : o.isSome = true) : o = some (o.getD 0) := by
  cases o with
  | none => cases h
  | some x => rfl
def mixI (h : Int) : Int := (sum_Mix.f h).getD 0
theorem mix_some (h : Int) : sum_Mix.f h = some (mixI h) := gd_some rfl
theorem rmix_some (h : Int) : cellarref01_Mix.f h = some (mixI h) := by
  rw [← mix_some]; unfold cellarref01_Mix.f sum_Mix.f; rfl
def smp (m t h : Int) : Bool := decide (Int.tmod (mixI h) m < t)
theorem take_filter {p : Int → Bool} {xs : List Int} {j : Nat} (hj : j < xs.length) : (xs.take (j + 1)).filter p = (xs.take j).filter p ++ (if p (rd xs (j : Int)) then [rd xs (j : Int)] else []) := by
  have e : rd xs (j : Int) = xs[j] := by rw [rd_nat]; simp [List.getD, hj]
  rw [e, List.take_succ_eq_append_getElem hj, List.filter_append]
  congr 1
  by_cases c : p xs[j] = true
  · rw [if_pos c]; simp [c]
  · rw [if_neg c]; simp [c]
theorem filter_len_le {p : Int → Bool} {xs : List Int} (h : xs.length ≤ 1024) (j : Nat) : ((xs.take j).filter p).length ≤ 1024 := by
  have h1 := List.length_filter_le p (xs.take j)
  have h2 := List.length_take_le' j xs
  omega
theorem psamp_l0 (m t : Int) (hm : m ≠ 0) (xs : List Int) (hx : xs.length ≤ 1024) : ∀ (d j : Nat), j + d = xs.length → Evn (fun k => curve_Sample.l0 k m t ((xs.take j).filter (smp m t)) xs (xs.length : Int) (j : Int)) (xs.filter (smp m t), 0) := by
  intro d
  induction d with
  | zero =>
    intro j hj
    refine Evn.of_eq (fun k => ?_)
    simp only [curve_Sample.l0]
    rw [if_neg (by omega), List.take_of_length_le (by omega)]
  | succ d ih =>
    intro j hj
    have hl := filter_len_le (p := smp m t) hx j
    refine Evn.step (fun k => ?_) (ih (j + 1) (by omega))
    simp only [curve_Sample.l0]
    rw [if_pos (by omega), if_pos (by omega), if_pos (by omega), mix_some, Option.bind_some, if_neg hm, cw64' (by omega) (by omega), take_filter (by omega)]
    by_cases c : Int.tmod (mixI (rd xs (j : Int))) m < t
    · rw [if_pos c, if_pos (by omega), if_pos (by unfold smp; exact decide_eq_true c)]; rfl
    · rw [if_neg c, if_neg (by unfold smp; simpa using c), List.append_nil]; rfl
theorem rsamp_l0 (m t : Int) (hm : m ≠ 0) (xs : List Int) (hx : xs.length ≤ 1024) : ∀ (d j : Nat), j + d = xs.length → Evn (fun k => cellarref27_Sample.l0 k xs m t ((xs.take j).filter (smp m t)) (j : Int)) (xs.filter (smp m t), 0) := by
  intro d
  induction d with
  | zero =>
    intro j hj
    refine Evn.of_eq (fun k => ?_)
    simp only [cellarref27_Sample.l0]
    rw [if_neg (by omega), List.take_of_length_le (by omega)]
  | succ d ih =>
    intro j hj
    have hl := filter_len_le (p := smp m t) hx j
    refine Evn.step (fun k => ?_) (ih (j + 1) (by omega))
    simp only [cellarref27_Sample.l0]
    rw [if_pos (by omega), if_pos (by omega), rmix_some, Option.bind_some, if_neg hm, cw64' (by omega) (by omega), take_filter (by omega)]
    by_cases c : Int.tmod (mixI (rd xs (j : Int))) m < t
    · rw [if_pos c, if_pos (by omega), if_pos (by unfold smp; exact decide_eq_true c)]; rfl
    · rw [if_neg c, if_neg (by unfold smp; simpa using c), List.append_nil]; rfl
theorem psamp (m t : Int) (hm : m ≠ 0) (xs : List Int) (hx : xs.length ≤ 1024) : Evn (fun k => curve_Sample.f k xs m t) (xs.filter (smp m t), 0) := by
  obtain ⟨K, hK⟩ := psamp_l0 m t hm xs hx xs.length 0 (by omega)
  refine ⟨K, fun k hk => ?_⟩
  have h := hK k hk
  dsimp only at h
  unfold curve_Sample.f curve_tooLong.f
  dsimp only
  rw [if_neg (by omega), Option.bind_some, if_pos rfl, if_neg hm]
  exact h
theorem rsamp (m t : Int) (hm : m ≠ 0) (xs : List Int) (hx : xs.length ≤ 1024) : Evn (fun k => cellarref27_Sample.f k xs m t) (xs.filter (smp m t), 0) := by
  obtain ⟨K, hK⟩ := rsamp_l0 m t hm xs hx xs.length 0 (by omega)
  refine ⟨K, fun k hk => ?_⟩
  have h := hK k hk
  dsimp only at h
  unfold cellarref27_Sample.f
  dsimp only
  rw [if_neg (by omega), if_neg hm]
  exact h
-- the stack of the chosen
theorem erase_idx (st : List Nat) (h : Nat) (hm : h ∈ st) : st.eraseIdx (st.idxOf h) = st.erase h := by
  induction st with
  | nil => simp at hm
  | cons a s ih =>
    by_cases c : a = h
    · subst c; simp
    · have hs : h ∈ s := by simpa [Ne.symm c] using hm
      rw [List.idxOf_cons, show (a == h) = false by simpa using c, List.erase_cons, show (a == h) = false by simpa using c]
      simp only [cond_false, List.eraseIdx_cons_succ, ih hs]
      simp
theorem step_fst (st : List Nat) (h : Nat) : (stackStep st h).1 = h :: st.erase h := by
  unfold stackStep
  by_cases c : h ∈ st
  · rw [if_pos c]; simp only [erase_idx st h c]
  · rw [if_neg c]; simp only [List.erase_of_not_mem c]
theorem filter_er (p : Nat → Bool) (st : List Nat) (h : Nat) : (st.erase h).filter p = (st.filter p).erase h := by
  induction st with
  | nil => simp
  | cons a s ih =>
    by_cases c : a = h
    · subst c
      by_cases q : p a = true
      · simp [q]
      · simp only [List.erase_cons_head]
        rw [List.filter_cons_of_neg q, List.erase_of_not_mem (fun hm => q ((List.mem_filter.1 hm).2))]
    · rw [List.erase_cons_tail (by simpa using c)]
      by_cases q : p a = true
      · rw [List.filter_cons_of_pos q, List.filter_cons_of_pos q, List.erase_cons_tail (by simpa using c), ih]
      · rw [List.filter_cons_of_neg q, List.filter_cons_of_neg q, ih]
theorem idx_filter (p : Nat → Bool) (st : List Nat) (h : Nat) (hp : p h = true) : (st.filter p).idxOf h ≤ st.idxOf h := by
  induction st with
  | nil => simp
  | cons a s ih =>
    by_cases c : a = h
    · subst c; rw [List.filter_cons_of_pos hp]; simp
    · have e : (a :: s).idxOf h = s.idxOf h + 1 := by rw [List.idxOf_cons, show (a == h) = false by simpa using c]; rfl
      by_cases q : p a = true
      · rw [List.filter_cons_of_pos q, e]
        have e2 : (a :: s.filter p).idxOf h = (s.filter p).idxOf h + 1 := by rw [List.idxOf_cons, show (a == h) = false by simpa using c]; rfl
        omega
      · rw [List.filter_cons_of_neg q]; omega
theorem getD_filter (p : Nat → Bool) (L : List Nat) (i : Nat) (hi : i < L.length) (hp : p (L.getD i 0) = true) : ((L.take i).filter p).length < (L.filter p).length ∧ (L.filter p).getD ((L.take i).filter p).length 0 = L.getD i 0 := by
  have e : L.getD i 0 = L[i] := by simp [List.getD, hi]
  rw [e] at hp ⊢
  have h : L.filter p = (L.take i).filter p ++ L[i] :: (L.drop (i + 1)).filter p := by
    conv => lhs; rw [← List.take_append_drop i L, List.filter_append, List.drop_eq_getElem_cons hi, List.filter_cons_of_pos hp]
  rw [h]
  constructor
  · simp
  · simp [List.getD]
theorem count_succ (p : Nat → Bool) (L : List Nat) (i : Nat) (hi : i < L.length) : ((L.take (i + 1)).filter p).length = ((L.take i).filter p).length + (if p (L.getD i 0) = true then 1 else 0) := by
  have e : L.getD i 0 = L[i] := by simp [List.getD, hi]
  rw [e, List.take_succ_eq_append_getElem hi, List.filter_append, List.length_append]
  by_cases c : p L[i] = true
  · rw [if_pos c]; simp [c]
  · rw [if_neg c]; simp [c]
theorem stk_filter (p : Nat → Bool) (L : List Nat) : ∀ i, i ≤ L.length → (stk L i).filter p = stk (L.filter p) ((L.take i).filter p).length := by
  intro i
  induction i with
  | zero => intro _; simp [stk]
  | succ i ih =>
    intro hi
    have hc := count_succ p L i (by omega)
    have ih := ih (by omega)
    by_cases c : p (L.getD i 0) = true
    · rw [if_pos c] at hc
      rw [hc]
      simp only [stk]
      rw [(getD_filter p L i (by omega) c).2, step_fst, step_fst, List.filter_cons_of_pos c, filter_er, ih]
    · rw [if_neg c] at hc
      have hc : ((L.take (i + 1)).filter p).length = ((L.take i).filter p).length := hc
      rw [hc, ← ih]
      simp only [stk]
      rw [step_fst, List.filter_cons_of_neg c, filter_er, List.erase_of_not_mem (fun hm => c ((List.mem_filter.1 hm).2))]
theorem dd_filter (p : Nat → Bool) (L : List Nat) (i : Nat) (hi : i < L.length) (hp : p (L.getD i 0) = true) :
    dd (L.filter p) ((L.take i).filter p).length ≤ dd L i ∧ (dd (L.filter p) ((L.take i).filter p).length = 0 ↔ dd L i = 0) := by
  unfold dd
  have e2 : L.take i = L.take i := rfl
  have hs := stk_filter p L i (by omega)
  generalize hcc : ((L.take i).filter p).length = cc at hs
  have hg := (getD_filter p L i hi hp).2
  rw [hcc] at hg
  rw [hg, ← hs]
  unfold stackStep
  by_cases c : L.getD i 0 ∈ stk L i
  · rw [if_pos c, if_pos (List.mem_filter.2 ⟨c, hp⟩)]
    have := idx_filter p (stk L i) (L.getD i 0) hp
    exact ⟨by simp only []; omega, by simp only []; omega⟩
  · rw [if_neg c, if_neg (fun h => c (List.mem_filter.1 h).1)]
    exact ⟨Nat.le_refl _, Iff.rfl⟩
theorem zs_filter (q : Int → Bool) (L : List Nat) : (zs L).filter q = zs (L.filter (fun n => q (n : Int))) := by
  unfold zs; rw [List.filter_map]; rfl
theorem rd_outD (L : List Nat) (n i : Nat) (hi : i < n) : rd (outD L n) (i : Int) = ((dd L i : Nat) : Int) := by
  rw [rd_nat]; unfold outD; simp [List.getD, hi]
theorem rd_zs (L : List Nat) (i : Nat) (hi : i < L.length) : rd (zs L) (i : Int) = ((L.getD i 0 : Nat) : Int) := by
  rw [rd_nat]; unfold zs; simp [List.getD, hi]
theorem one_take (xs : List Int) (i : Nat) (hi : i < xs.length) : (xs.take (i + 1)).drop i = [rd xs (i : Int)] := by
  have e : rd xs (i : Int) = xs[i] := by rw [rd_nat]; simp [List.getD, hi]
  rw [e, List.take_succ_eq_append_getElem hi]
  have hl : (xs.take i).length = i := by rw [List.length_take]; omega
  conv => lhs; arg 1; rw [← hl]
  exact List.drop_left ..
theorem samp_l0 (L : List Nat) (hL : L.length ≤ 1024) (m t : Int) (hm : m ≠ 0) (M : List Nat) (hM : M = L.filter (fun n : Nat => smp m t (n : Int))) :
    ∀ (d i : Nat), i + d = L.length → Evn (fun k => cellarlaw27_CurveSamples.l0 k (zs L) m t (zs M) (outD L L.length) (outD M M.length) (((L.take i).filter (fun n : Nat => smp m t (n : Int))).length : Int) (i : Int)) true := by
  have hzl : (zs L).length = L.length := List.length_map ..
  have hzm : (zs M).length = M.length := List.length_map ..
  have hlo := outD_length L L.length
  have hmo := outD_length M M.length
  intro d
  induction d with
  | zero =>
    intro i hi
    refine Evn.step (fun k => by simp only [cellarlaw27_CurveSamples.l0]; rw [if_neg (by omega)]) (Evn.of_eq (fun k => ?_))
    simp only [cellarlaw27_CurveSamples.j3]
    rw [if_neg (by decide), List.take_of_length_le (by omega), ← hM, hzm]
    simp
  | succ d ih =>
    intro i hi
    have hcl : ((L.take i).filter (fun n : Nat => smp m t (n : Int))).length ≤ M.length := by
      rw [hM]
      conv => rhs; rw [← List.take_append_drop i L, List.filter_append, List.length_append]
      omega
    have hmle : M.length ≤ L.length := by rw [hM]; exact List.length_filter_le _ _
    by_cases c : ((L.take i).filter (fun n : Nat => smp m t (n : Int))).length < M.length
    · obtain ⟨K1, h1⟩ := psamp m t hm [((L.getD i 0 : Nat) : Int)] (by simp)
      refine Evn.step (fun k => by simp only [cellarlaw27_CurveSamples.l0]; rw [if_pos (by omega)]) (Evn.step' K1 (fun k hk => ?_) (ih (i + 1) (by omega)))
      have g1 := h1 k hk
      dsimp only at g1
      have hcs := count_succ (fun n : Nat => smp m t (n : Int)) L i (by omega)
      simp only [cellarlaw27_CurveSamples.j3]
      rw [if_pos (decide_eq_true (by omega)), if_pos (by omega), cw64' (n := (i : Int) + 1) (by omega) (by omega), if_pos (by omega), if_pos (by omega), show ((i : Int) + 1).toNat = i + 1 by omega, show ((i : Int)).toNat = i by omega, one_take (zs L) i (by omega), rd_zs L i (by omega), g1, Option.bind_some]
      rw [hcs]
      by_cases q : smp m t ((L.getD i 0 : Nat) : Int) = true
      · have hg := getD_filter (fun n : Nat => smp m t (n : Int)) L i (by omega) q
        have hd := dd_filter (fun n : Nat => smp m t (n : Int)) L i (by omega) q
        rw [← hM] at hg hd
        generalize ((L.take i).filter (fun n : Nat => smp m t (n : Int))).length = cc at *
        rw [List.filter_cons_of_pos q, if_pos rfl, if_neg (by simp only [List.length_cons]; omega), if_pos (by omega), if_pos (by omega), if_pos (by omega), rd_zs M cc (by omega), hg.2, if_pos rfl, if_pos (by omega), if_pos (by omega), rd_outD M M.length cc (by omega), rd_outD L L.length i (by omega), if_neg (by omega), if_neg (by
          by_cases z : dd L i = 0
          · rw [z, hd.2.2 z]; simp
          · have z2 : ¬ dd M cc = 0 := fun z2 => z (hd.2.1 z2)
            rw [show (((dd M cc : Nat) : Int) == 0) = false from beq_false_of_ne (by omega), show (((dd L i : Nat) : Int) == 0) = false from beq_false_of_ne (by omega)]; simp), cw64' (by omega) (by omega), if_pos q]
        rfl
      · rw [List.filter_cons_of_neg q, if_pos rfl, if_pos (by simp), if_neg q]
        rfl
    · refine Evn.step (fun k => by simp only [cellarlaw27_CurveSamples.l0]; rw [if_pos (by omega)]) (Evn.of_eq (fun k => ?_))
      simp only [cellarlaw27_CurveSamples.j3]
      rw [if_neg (by simp [hzm]; omega), hzm]
      simp
      omega
theorem pure (l0 : List Int) (m t : Int) (h1 : l0.length ≤ maxLen) (h2 : l0.length * 8 ≤ 140737488351232) (h3 : ∀ x ∈ l0, (Lit.int .u64 x).wf = true) (h4 : (Lit.int .u64 m).wf = true) (h5 : (Lit.int .u64 t).wf = true) : ∃ k, cellarlaw27_CurveSamples.f k l0 m t = some true := by
  have hw : ∀ x ∈ l0, 0 ≤ x ∧ x < 18446744073709551616 := fun x hx => by have := wf64 (h3 x hx); omega
  obtain ⟨K4, hK4⟩ := lives_ev
  by_cases c : (l0.length : Int) > 1024
  · obtain ⟨K3, hK3⟩ := sameH_refl ([] : List Int) (by simp)
    refine ⟨K3 + K4 + 1, ?_⟩
    have g4 := hK4 (K3 + K4 + 1) (by omega)
    have g3 := hK3 (K3 + K4 + 1) (by omega)
    dsimp only at g3 g4
    unfold cellarlaw27_CurveSamples.f curve_Sample.f curve_tooLong.f cellarref27_Sample.f
    rw [if_pos c, if_pos c, Option.bind_some, if_neg (by decide), Option.bind_some, Option.bind_some, g4, Option.bind_some, if_pos rfl, if_pos rfl, g3, Option.bind_some]
    simp only [cellarlaw27_CurveSamples.j0]
    rfl
  · by_cases c2 : m = 0
    · obtain ⟨K3, hK3⟩ := sameH_refl ([] : List Int) (by simp)
      refine ⟨K3 + K4 + 1, ?_⟩
      have g4 := hK4 (K3 + K4 + 1) (by omega)
      have g3 := hK3 (K3 + K4 + 1) (by omega)
      dsimp only at g3 g4
      unfold cellarlaw27_CurveSamples.f curve_Sample.f curve_tooLong.f cellarref27_Sample.f
      rw [if_neg c, if_neg c, Option.bind_some, if_pos rfl, if_pos c2, if_pos c2, Option.bind_some, Option.bind_some, g4, Option.bind_some, if_pos rfl, if_pos rfl, g3, Option.bind_some]
      simp only [cellarlaw27_CurveSamples.j0]
      rfl
    · have e := zs_toNat hw
      have hll : (l0.map Int.toNat).length = l0.length := List.length_map ..
      generalize l0.map Int.toNat = L at e hll
      subst e
      have hL : L.length ≤ 1024 := by omega
      have hMl : (L.filter (fun n : Nat => smp m t (n : Int))).length ≤ L.length := List.length_filter_le _ _
      have hz : ∀ L : List Nat, L.length ≤ 1024 → (∀ x ∈ zs L, 0 ≤ x ∧ x < 18446744073709551616) → curve_Distances.f (zs L) = some (outD L L.length, 0) := fun L h hw => by
        have hlen : (zs L).length = L.length := List.length_map ..
        rw [show curve_Distances.f (zs L) = distF (zs L) from rfl]
        unfold distF
        rw [if_neg (by omega), if_pos hw, hlen, show (zs L).map Int.toNat = L by unfold zs; rw [List.map_map]; exact List.map_id'' (fun x => by simp) L]
      obtain ⟨K1, hK1⟩ := psamp m t c2 (zs L) (by omega)
      obtain ⟨K2, hK2⟩ := rsamp m t c2 (zs L) (by omega)
      obtain ⟨K3, hK3⟩ := sameH_refl ((zs L).filter (smp m t)) (by have := List.length_filter_le (smp m t) (zs L); omega)
      obtain ⟨K5, hK5⟩ := samp_l0 L hL m t c2 (L.filter (fun n : Nat => smp m t (n : Int))) rfl L.length 0 (by omega)
      refine ⟨K1 + K2 + K3 + K4 + K5 + 2, ?_⟩
      have g1 := hK1 (K1 + K2 + K3 + K4 + K5 + 2) (by omega)
      have g2 := hK2 (K1 + K2 + K3 + K4 + K5 + 2) (by omega)
      have g3 := hK3 (K1 + K2 + K3 + K4 + K5 + 2) (by omega)
      have g4 := hK4 (K1 + K2 + K3 + K4 + K5 + 2) (by omega)
      have g5 := hK5 (K1 + K2 + K3 + K4 + K5) (by omega)
      dsimp only at g1 g2 g3 g4 g5
      unfold cellarlaw27_CurveSamples.f
      rw [g1, Option.bind_some, g2, Option.bind_some, g4, Option.bind_some, if_pos rfl, if_pos rfl, g3, Option.bind_some]
      simp only [cellarlaw27_CurveSamples.j0]
      have hzl : (zs L).length = L.length := List.length_map ..
      have hzm : (zs (L.filter (fun n : Nat => smp m t (n : Int)))).length = (L.filter (fun n : Nat => smp m t (n : Int))).length := List.length_map ..
      have hlo := outD_length L L.length
      have hmo := outD_length (L.filter (fun n : Nat => smp m t (n : Int))) (L.filter (fun n : Nat => smp m t (n : Int))).length
      rw [if_neg (by decide), if_pos trivial, hz L hL hw, Option.bind_some, zs_filter, hz _ (by omega) (fun x hx => hw x (by rw [← zs_filter] at hx; exact (List.mem_filter.1 hx).1)), Option.bind_some, if_pos rfl, if_pos rfl, if_pos (by simp only [hlo, hzl])]
      simp only [cellarlaw27_CurveSamples.j1]
      rw [if_neg (by rw [hmo, hzm]; simp)]
      exact g5
end Go.Proofs.Yteaidghanfjigaa.RCurveSamples
namespace Go.Proofs.Yteaidghanfjigaa.Pure
open Go.Proofs.Yteaidghanfjigaa.RCurveSamples
theorem CurveSamples : cellarlaw27_CurveSamples.Pure := fun l0 a1 a2 h1 h2 h3 h4 h5 => pure l0 a1 a2 h1 h2 h3 h4 h5
end Go.Proofs.Yteaidghanfjigaa.Pure
