/- The sums of Distances: the plain facts, and the head of a round.
   No condition. -/
import Derived.Test.YteaidghanfjigaaMapV
import Derived.ArgAppend
import Derived.BigRegion
import Derived.Deep.QuietTactic
import Derived.BigQuiet
import Derived.Deep.RegionHeld3
import Derived.ChangeAlike
import Derived.RegionTactic
import Derived.Maps.OwnSet
import Derived.Maps.OwnOps
import Derived.Deep.DeepCutAuto
import Derived.Deep.CutBlock
import Derived.Deep.RegionLaw
import Derived.StillTailTactics
namespace Go.Proofs.Yteaidghanfjigaa.QCurveCurves
open Go.RowKit Go.Proofs.YteaidghanfjigaaW.PrintWords Go.Proofs.YteaidghanfjigaaW.PrintLast Go.Proofs.YteaidghanfjigaaW.PrintMore
set_option linter.unusedVariables false
set_option linter.unusedSimpArgs false
/-- The lowest bit. -/
def low : Nat → Nat
  | 0 => 0
  | n + 1 => if (n + 1) % 2 = 1 then 1 else 2 * low ((n + 1) / 2)
termination_by n => n
decreasing_by omega
theorem low_zero : low 0 = 0 := by simp [low]
theorem low_odd {n : Nat} (h : n % 2 = 1) : low n = 1 := by
  cases n with
  | zero => simp at h
  | succ n => unfold low; rw [if_pos h]
theorem low_even {n : Nat} (h : n % 2 = 0) : low n = 2 * low (n / 2) := by
  cases n with
  | zero => simp [low]
  | succ n => conv => lhs; unfold low
              rw [if_neg (by omega)]
/-- A number is an odd one times its lowest bit. -/
theorem low_spec (n : Nat) (h : 0 < n) : ∃ k m, low n = 2 ^ k ∧ n = (2 * m + 1) * 2 ^ k := by
  induction n using Nat.strongRecOn with
  | _ n ih =>
    by_cases c : n % 2 = 1
    · exact ⟨0, n / 2, low_odd c, by rw [Nat.pow_zero]; omega⟩
    · obtain ⟨k, m, h1, h2⟩ := ih (n / 2) (by omega) (by omega)
      refine ⟨k + 1, m, by rw [low_even (by omega), h1, Nat.pow_succ, Nat.mul_comm], ?_⟩
      rw [Nat.pow_succ, ← Nat.mul_assoc, ← h2]; omega
theorem low_of (k : Nat) : ∀ m, low ((2 * m + 1) * 2 ^ k) = 2 ^ k := by
  induction k with
  | zero => intro m; rw [Nat.pow_zero, Nat.mul_one, low_odd (by omega)]
  | succ k ih =>
    intro m
    have e : (2 * m + 1) * 2 ^ (k + 1) = 2 * ((2 * m + 1) * 2 ^ k) := by rw [Nat.pow_succ, ← Nat.mul_assoc, Nat.mul_comm]
    rw [e, low_even (by omega), Nat.mul_div_cancel_left _ (by decide), ih, Nat.pow_succ, Nat.mul_comm]
theorem low_pos {n : Nat} (h : 0 < n) : 0 < low n := by
  obtain ⟨k, m, h1, _⟩ := low_spec n h
  rw [h1]; exact Nat.pow_pos (by decide)
theorem low_le (n : Nat) : low n ≤ n := by
  cases n with
  | zero => simp [low]
  | succ n =>
    obtain ⟨k, m, h1, h2⟩ := low_spec (n + 1) (by omega)
    rw [h1, h2]; exact Nat.le_mul_of_pos_left _ (by omega)
/-- Place a is summed up at j. -/
def Cov (j a : Nat) : Prop := j - low j ≤ a ∧ a < j
theorem cov_first (a : Nat) : Cov (a + 1) a := ⟨by have := low_pos (n := a + 1) (by omega); omega, by omega⟩
theorem cov_next {j a : Nat} (h : Cov j a) : Cov (j + low j) a := by
  have hj : 0 < j := Nat.lt_of_le_of_lt (Nat.zero_le _) h.2
  obtain ⟨k, m, h1, h2⟩ := low_spec j hj
  have e : j + low j = (m + 1) * 2 ^ (k + 1) := by
    rw [h1, Nat.pow_succ, Nat.mul_comm (2 ^ k) 2, ← Nat.mul_assoc]
    generalize 2 ^ k = p at h2 ⊢
    rw [h2, Nat.add_mul, Nat.add_mul, Nat.mul_comm m 2, Nat.add_mul]; omega
  have hb : j - low j = m * 2 ^ (k + 1) := by
    rw [h1, Nat.pow_succ, Nat.mul_comm (2 ^ k) 2, ← Nat.mul_assoc]
    generalize 2 ^ k = p at h2 ⊢
    rw [h2, Nat.add_mul, Nat.mul_comm m 2]; omega
  have hl : 2 ^ (k + 1) ≤ low (j + low j) := by
    obtain ⟨k', m', g1, g2⟩ := low_spec (j + low j) (by omega)
    rw [g1]
    by_cases c : k + 1 ≤ k'
    · exact Nat.pow_le_pow_right (by decide) c
    · exfalso
      rw [e] at g2
      have e2 : 2 ^ (k + 1) = 2 * 2 ^ (k - k') * 2 ^ k' := by
        rw [Nat.mul_assoc, ← Nat.pow_add, show k - k' + k' = k by omega, Nat.pow_succ, Nat.mul_comm]
      rw [e2, ← Nat.mul_assoc] at g2
      have g3 := Nat.eq_of_mul_eq_mul_right (Nat.pow_pos (by decide)) g2
      have : (m + 1) * (2 * 2 ^ (k - k')) = 2 * ((m + 1) * 2 ^ (k - k')) := by rw [← Nat.mul_assoc, Nat.mul_comm (m + 1) 2, Nat.mul_assoc]
      omega
  refine ⟨?_, by have := h.2; omega⟩
  have h3 := h.1
  rw [hb] at h3
  have e4 : (m + 1) * 2 ^ (k + 1) = m * 2 ^ (k + 1) + 2 ^ (k + 1) := by rw [Nat.add_mul, Nat.one_mul]
  omega
theorem cov_none {j a i : Nat} (h : Cov j a) (h1 : j < i) (h2 : i < j + low j) : ¬ Cov i a := by
  intro c
  have hj : 0 < j := Nat.lt_of_le_of_lt (Nat.zero_le _) h.2
  obtain ⟨k, m, g1, g2⟩ := low_spec j hj
  obtain ⟨k', m', f1, f2⟩ := low_spec i (by omega)
  have hc := c.1
  have ha := h.2
  -- the lowest bit of i is that of i - j, which is below 2^k
  have hk : k' < k := by
    by_cases ck : k' < k
    · exact ck
    · exfalso
      -- 2^k divides i, and j: so i - j ≥ 2^k
      have e2 : 2 ^ k' = 2 ^ (k' - k) * 2 ^ k := by rw [← Nat.pow_add, show k' - k + k = k' by omega]
      rw [e2, ← Nat.mul_assoc] at f2
      generalize (2 * m' + 1) * 2 ^ (k' - k) = x at f2
      rw [g1] at h2
      rw [g2] at h1 h2
      rw [f2] at h1 h2
      have p : 0 < 2 ^ k := Nat.pow_pos (by decide)
      have h5 : 2 * m + 1 < x := Nat.lt_of_mul_lt_mul_right h1
      have h6 : (2 * m + 1 + 1) * 2 ^ k ≤ x * 2 ^ k := Nat.mul_le_mul_right _ h5
      rw [Nat.add_mul (2 * m + 1) 1] at h6
      omega
  -- then i - low i ≥ j
  have e2 : 2 ^ k = 2 ^ (k - k') * 2 ^ k' := by rw [← Nat.pow_add, show k - k' + k' = k by omega]
  rw [e2, ← Nat.mul_assoc] at g2
  generalize (2 * m + 1) * 2 ^ (k - k') = x at g2
  have h5 : x < 2 * m' + 1 := by rw [g2, f2] at h1; exact Nat.lt_of_mul_lt_mul_right h1
  have h6 : (x + 1) * 2 ^ k' ≤ (2 * m' + 1) * 2 ^ k' := Nat.mul_le_mul_right _ h5
  rw [Nat.add_mul x 1] at h6
  omega
/-- The count of the places ahead of one. -/
def upto (f : Nat → Int) : Nat → Int
  | 0 => 0
  | n + 1 => upto f n + f n
/-- The row of sums of counts f. -/
def Fen (n : Nat) (s : Nat → Int) (f : Nat → Int) : Prop := ∀ j, 0 < j → j ≤ n → s j = upto f j - upto f (j - low j)
theorem upto_add (f : Nat → Int) (a : Nat) (v : Int) (m : Nat) : upto (fun i => if i = a then f i + v else f i) m = upto f m + (if a < m then v else 0) := by
  induction m with
  | zero => simp [upto]
  | succ m ih =>
    simp only [upto]
    rw [ih]
    by_cases c : m = a
    · subst c; rw [if_pos rfl, if_neg (by omega), if_pos (by omega)]; omega
    · rw [if_neg c]
      by_cases d : a < m
      · rw [if_pos d, if_pos (by omega)]; omega
      · rw [if_neg d, if_neg (by omega)]; omega
/-- A step of a sum: from j down to j - low j. -/
theorem fen_step {n : Nat} {s f : Nat → Int} (h : Fen n s f) {j : Nat} (h0 : 0 < j) (hj : j ≤ n) : upto f j = upto f (j - low j) + s j := by
  rw [h j h0 hj]; omega
/-- The sum taken at the places that cover a is that of f with v more at a. -/
theorem fen_add {n : Nat} {s s' f : Nat → Int} (a : Nat) (v : Int) (h : Fen n s f) (hs : ∀ j, 0 < j → j ≤ n → s' j = s j + (if j - low j ≤ a ∧ a < j then v else 0)) : Fen n s' (fun i => if i = a then f i + v else f i) := by
  intro j h0 hj
  rw [hs j h0 hj, h j h0 hj, upto_add, upto_add]
  have := low_pos h0
  by_cases c : a < j
  · by_cases d : j - low j ≤ a
    · rw [if_pos ⟨d, c⟩, if_pos c, if_neg (by omega)]; omega
    · rw [if_neg (fun g => d g.1), if_pos c, if_pos (by omega)]; omega
  · rw [if_neg (fun g => c g.2), if_neg c, if_neg (by omega)]; omega
/-- The walk of an addition: every place below j that covers a has its share. -/
def Part (n : Nat) (s s0 : Nat → Int) (a : Nat) (v : Int) (j : Nat) : Prop := ∀ i, 0 < i → i ≤ n → s i = s0 i + (if i < j ∧ (i - low i ≤ a ∧ a < i) then v else 0)
theorem part_first (n : Nat) (s : Nat → Int) (a : Nat) (v : Int) : Part n s s a v (a + 1) := by
  intro i _ _
  rw [if_neg (by omega)]; omega
theorem part_next {n : Nat} {s s0 s' : Nat → Int} {a : Nat} {v : Int} {j : Nat} (h : Part n s s0 a v j) (hc : Cov j a) (hs : ∀ i, s' i = if i = j then s i + v else s i) : Part n s' s0 a v (j + low j) := by
  intro i h0 hi
  rw [hs i, h i h0 hi]
  have hl := low_pos (n := j) (Nat.lt_of_le_of_lt (Nat.zero_le _) hc.2)
  by_cases c : i = j
  · subst c
    rw [if_pos rfl, if_neg (by omega), if_pos ⟨by omega, hc.1, hc.2⟩]; omega
  · rw [if_neg c]
    by_cases d : i < j
    · by_cases e : i - low i ≤ a ∧ a < i
      · rw [if_pos ⟨d, e⟩, if_pos ⟨by omega, e⟩]
      · rw [if_neg (fun g => e g.2), if_neg (fun g => e g.2)]
    · by_cases e : i < j + low j
      · rw [if_neg (fun g => d g.1), if_neg (fun g => cov_none hc (by omega) e g.2)]
      · rw [if_neg (fun g => d g.1), if_neg (fun g => e g.1)]
theorem part_last {n : Nat} {s s0 : Nat → Int} {a : Nat} {v : Int} {j : Nat} (h : Part n s s0 a v j) (hj : n < j) : ∀ i, 0 < i → i ≤ n → s i = s0 i + (if i - low i ≤ a ∧ a < i then v else 0) := by
  intro i h0 hi
  rw [h i h0 hi]
  by_cases e : i - low i ≤ a ∧ a < i
  · rw [if_pos ⟨by omega, e⟩, if_pos e]
  · rw [if_neg (fun g => e g.2), if_neg e]
def lowF : Nat → Nat → Nat
  | 0, _ => 0
  | f + 1, n => if n % 2 = 1 then 1 else 2 * lowF f (n / 2)
theorem lowF_eq (f : Nat) : ∀ n, n < 2 ^ f → lowF f n = low n := by
  induction f with
  | zero =>
    intro n h
    obtain rfl : n = 0 := by simpa using h
    rw [low_zero]; rfl
  | succ f ih =>
    intro n h
    simp only [lowF]
    by_cases c : n % 2 = 1
    · rw [if_pos c, low_odd c]
    · rw [if_neg c, low_even (by omega), ih (n / 2) (by rw [Nat.pow_succ] at h; omega)]
theorem low_bits_all : ∀ n : Fin 1100, Go.bits .and .i64 ((n.val : Nat) : Int) (-((n.val : Nat) : Int)) = ((lowF 11 n.val : Nat) : Int) := by decide +kernel
theorem low_bits (n : Nat) (h : n < 1100) : Go.bits .and .i64 (n : Int) (-(n : Int)) = ((low n : Nat) : Int) := by
  rw [← lowF_eq 11 n (by omega)]
  exact low_bits_all ⟨n, h⟩
theorem filter_succ (P : List Nat) (hP : P.Nodup) (m : Nat) : (P.filter (fun p => decide (p < m + 1))).length = (P.filter (fun p => decide (p < m))).length + (if m ∈ P then 1 else 0) := by
  induction P with
  | nil => simp
  | cons p r ih =>
    have hn := List.nodup_cons.1 hP
    have h := ih hn.2
    by_cases c : p = m
    · subst c
      rw [List.filter_cons_of_pos (by simp), List.filter_cons_of_neg (by simp), List.length_cons, h, if_neg hn.1, if_pos (by simp)]
    · by_cases d : p < m
      · rw [List.filter_cons_of_pos (by simp; omega), List.filter_cons_of_pos (by simp; omega), List.length_cons, List.length_cons, h]
        by_cases e : m ∈ r
        · rw [if_pos e, if_pos (List.mem_cons_of_mem _ e)]
        · rw [if_neg e, if_neg (by simp [e]; omega)]
      · rw [List.filter_cons_of_neg (by simp; omega), List.filter_cons_of_neg (by simp; omega), h]
        by_cases e : m ∈ r
        · rw [if_pos e, if_pos (List.mem_cons_of_mem _ e)]
        · rw [if_neg e, if_neg (by simp [e]; omega)]
theorem upto_count (P : List Nat) (hP : P.Nodup) (f : Nat → Int) (hf : ∀ j, f j = if j ∈ P then 1 else 0) (m : Nat) : upto f m = ((P.filter (fun p => decide (p < m))).length : Int) := by
  induction m with
  | zero => rw [show P.filter (fun p => decide (p < 0)) = [] from List.filter_eq_nil_iff.2 (by simp)]; rfl
  | succ m ih =>
    simp only [upto]
    rw [ih, hf, filter_succ P hP m]
    by_cases e : m ∈ P
    · rw [if_pos e, if_pos e]; omega
    · rw [if_neg e, if_neg e]; omega
theorem filter_all (P : List Nat) (i : Nat) (h : ∀ p ∈ P, p < i) : P.filter (fun p => decide (p < i)) = P := List.filter_eq_self.2 (fun p hp => by simpa using h p hp)
theorem filter_at (P : List Nat) (hd : P.Pairwise (· > ·)) : ∀ (k : Nat) (hk : k < P.length), P.filter (fun p => decide (p < P[k])) = P.drop (k + 1) := by
  induction P with
  | nil => intro k hk; simp at hk
  | cons p r ih =>
    have hp := List.pairwise_cons.1 hd
    intro k hk
    cases k with
    | zero =>
      simp only [List.getElem_cons_zero, List.drop_succ_cons, List.drop_zero]
      rw [List.filter_cons_of_neg (by simp)]
      exact filter_all r p hp.1
    | succ k =>
      simp only [List.getElem_cons_succ, List.drop_succ_cons]
      have hk' : k < r.length := by simpa using hk
      have : r[k] < p := hp.1 _ (List.getElem_mem hk')
      rw [List.filter_cons_of_neg (by simp; omega)]
      exact ih hp.2 k hk'
/-- How many places, from the k-th newest on. -/
theorem dist_eq (P : List Nat) (hd : P.Pairwise (· > ·)) (i : Nat) (hi : ∀ p ∈ P, p < i) (f : Nat → Int) (hf : ∀ j, f j = if j ∈ P then 1 else 0) (k : Nat) (hk : k < P.length) : upto f i - upto f P[k] = (k : Int) + 1 := by
  have hn : P.Nodup := hd.imp (fun h => by omega)
  rw [upto_count P hn f hf, upto_count P hn f hf, filter_all P i hi, filter_at P hd k hk, List.length_drop]
  omega
/-- The places of the last asking of each hash, the newest first: behind the first i of l. -/
structure Last (l : List Nat) (i : Nat) (P : List Nat) : Prop where
  dec : P.Pairwise (· > ·)
  lt : ∀ p ∈ P, p < i
  dist : (P.map (fun p => l.getD p 0)).Nodup
  all : ∀ j, j < i → ∃ p, p ∈ P ∧ j ≤ p ∧ l.getD p 0 = l.getD j 0
theorem Last.zero (l : List Nat) : Last l 0 [] := ⟨List.Pairwise.nil, by simp, by simp, by intro j hj; omega⟩
/-- A hash that is new. -/
theorem Last.fresh {l : List Nat} {i : Nat} {P : List Nat} (h : Last l i P) (hn : l.getD i 0 ∉ P.map (fun p => l.getD p 0)) : Last l (i + 1) (i :: P) := by
  refine ⟨List.pairwise_cons.2 ⟨h.lt, h.dec⟩, ?_, ?_, ?_⟩
  · intro p hp
    rcases List.mem_cons.1 hp with rfl | hp
    · omega
    · have := h.lt p hp; omega
  · rw [List.map_cons]; exact List.nodup_cons.2 ⟨hn, h.dist⟩
  · intro j hj
    by_cases c : j = i
    · subst c; exact ⟨j, List.mem_cons_self .., Nat.le_refl _, rfl⟩
    · obtain ⟨p, h1, h2, h3⟩ := h.all j (by omega)
      exact ⟨p, List.mem_cons_of_mem _ h1, h2, h3⟩
/-- A hash that was asked for last at the k-th newest place. -/
theorem Last.again {l : List Nat} {i : Nat} {P : List Nat} (h : Last l i P) (k : Nat) (hk : k < P.length) (he : l.getD P[k] 0 = l.getD i 0) : Last l (i + 1) (i :: P.eraseIdx k) := by
  have hs : (P.eraseIdx k).Sublist P := List.eraseIdx_sublist ..
  refine ⟨List.pairwise_cons.2 ⟨fun p hp => h.lt p (hs.subset hp), h.dec.sublist hs⟩, ?_, ?_, ?_⟩
  · intro p hp
    rcases List.mem_cons.1 hp with rfl | hp
    · omega
    · have := h.lt p (hs.subset hp); omega
  · rw [List.map_cons]
    refine List.nodup_cons.2 ⟨fun hm => ?_, h.dist.sublist (hs.map _)⟩
    rw [← he] at hm
    have e : (P.eraseIdx k).map (fun p => l.getD p 0) = (P.map (fun p => l.getD p 0)).eraseIdx k := by rw [List.eraseIdx_eq_take_drop_succ, List.eraseIdx_eq_take_drop_succ, List.map_append, List.map_take, List.map_drop]
    rw [e] at hm
    obtain ⟨q, hq, hqe⟩ := List.getElem_of_mem hm
    rw [List.getElem_eraseIdx] at hqe
    have hlen := List.length_eraseIdx (l := P.map (fun p => l.getD p 0)) (i := k)
    rw [if_pos (by rw [List.length_map]; exact hk), List.length_map] at hlen
    have hkm : k < (P.map (fun p => l.getD p 0)).length := by rw [List.length_map]; exact hk
    have hke : (P.map (fun p => l.getD p 0))[k] = l.getD P[k] 0 := by rw [List.getElem_map]
    split at hqe
    · have := (List.nodup_iff_pairwise_ne.1 h.dist)
      have h2 := List.pairwise_iff_getElem.1 this q k (by rw [List.length_map]; omega) hkm (by omega)
      exact h2 (by rw [hqe, hke])
    · have := (List.nodup_iff_pairwise_ne.1 h.dist)
      have h2 := List.pairwise_iff_getElem.1 this k (q + 1) hkm (by rw [List.length_map]; omega) (by omega)
      exact h2 (by rw [hqe, hke])
  · intro j hj
    by_cases c : l.getD j 0 = l.getD i 0
    · exact ⟨i, List.mem_cons_self .., by omega, c.symm⟩
    · have hji : j < i := by
        by_cases d : j = i
        · subst d; exact absurd rfl c
        · omega
      obtain ⟨p, h1, h2, h3⟩ := h.all j hji
      obtain ⟨q, hq, hqe⟩ := List.getElem_of_mem h1
      refine ⟨p, List.mem_cons_of_mem _ ?_, h2, h3⟩
      rw [List.mem_eraseIdx_iff_getElem]
      exact ⟨q, hq, fun g => c (by subst g; rw [← h3, ← hqe]; exact he), hqe⟩
/-- The counts behind a hash that was asked for again. -/
theorem ind_again (P : List Nat) (hn : P.Nodup) (i : Nat) (hi : i ∉ P) (f : Nat → Int) (hf : ∀ j, f j = if j ∈ P then 1 else 0) (k : Nat) (hk : k < P.length) :
    ∀ j, (fun x => if x = i then (fun y => if y = P[k] then f y + (-1) else f y) x + 1 else (fun y => if y = P[k] then f y + (-1) else f y) x) j = if j ∈ i :: P.eraseIdx k then 1 else 0 := by
  intro j
  have hne : i ≠ P[k] := fun e => hi (by rw [e]; exact List.getElem_mem hk)
  show (if j = i then (if j = P[k] then f j + (-1) else f j) + 1 else (if j = P[k] then f j + (-1) else f j)) = _
  by_cases c : j = i
  · subst c
    rw [if_pos rfl, if_neg hne, hf, if_neg hi, if_pos (List.mem_cons_self ..)]; rfl
  · rw [if_neg c]
    by_cases d : j = P[k]
    · rw [if_pos d, hf, if_pos (by rw [d]; exact List.getElem_mem hk), if_neg]
      · rfl
      · intro hm
        rcases List.mem_cons.1 hm with hm | hm
        · exact c hm
        · obtain ⟨q, hq, hqk, hqe⟩ := List.mem_eraseIdx_iff_getElem.1 hm
          have := (List.nodup_iff_pairwise_ne.1 hn)
          rcases Nat.lt_or_gt_of_ne hqk with g | g
          · exact List.pairwise_iff_getElem.1 this q k hq hk g (by rw [hqe, d])
          · exact List.pairwise_iff_getElem.1 this k q hk hq g (by rw [hqe, d])
    · rw [if_neg d, hf]
      by_cases e : j ∈ P
      · rw [if_pos e, if_pos]
        refine List.mem_cons_of_mem _ ?_
        obtain ⟨q, hq, hqe⟩ := List.getElem_of_mem e
        rw [List.mem_eraseIdx_iff_getElem]
        exact ⟨q, hq, fun g => d (by subst g; exact hqe.symm), hqe⟩
      · rw [if_neg e, if_neg]
        intro hm
        rcases List.mem_cons.1 hm with hm | hm
        · exact c hm
        · exact e ((List.eraseIdx_sublist ..).subset hm)
/-- The counts behind a new hash. -/
theorem ind_fresh (P : List Nat) (i : Nat) (hi : i ∉ P) (f : Nat → Int) (hf : ∀ j, f j = if j ∈ P then 1 else 0) : ∀ j, (if j = i then f j + 1 else f j) = if j ∈ i :: P then 1 else 0 := by
  intro j
  by_cases c : j = i
  · subst c; rw [if_pos rfl, hf, if_neg hi, if_pos (List.mem_cons_self ..)]; rfl
  · rw [if_neg c, hf]
    by_cases e : j ∈ P
    · rw [if_pos e, if_pos (List.mem_cons_of_mem _ e)]
    · rw [if_neg e, if_neg (by simp [c, e])]
/-- The distances: what the document's stack tells, and the stack. -/
def stackStep (st : List Nat) (h : Nat) : List Nat × Nat := if h ∈ st then (h :: st.eraseIdx (st.idxOf h), st.idxOf h + 1) else (h :: st, 0)
def stk (l : List Nat) : Nat → List Nat
  | 0 => []
  | i + 1 => (stackStep (stk l i) (l.getD i 0)).1
def dd (l : List Nat) (i : Nat) : Nat := (stackStep (stk l i) (l.getD i 0)).2
theorem step_fresh {l : List Nat} {i : Nat} {P : List Nat} (hs : stk l i = P.map (fun p => l.getD p 0)) (hn : l.getD i 0 ∉ P.map (fun p => l.getD p 0)) : dd l i = 0 ∧ stk l (i + 1) = (i :: P).map (fun p => l.getD p 0) := by
  unfold dd
  simp only [stk, stackStep]
  rw [hs, if_neg hn]
  exact ⟨rfl, by rw [List.map_cons]⟩
theorem idx_at (s : List Nat) (hn : s.Nodup) : ∀ (k : Nat) (hk : k < s.length), s.idxOf s[k] = k := by
  induction s with
  | nil => intro k hk; simp at hk
  | cons a r ih =>
    have h := List.nodup_cons.1 hn
    intro k hk
    cases k with
    | zero => simp
    | succ k =>
      have hk' : k < r.length := by simpa using hk
      rw [List.getElem_cons_succ, List.idxOf_cons]
      have hne : (a == r[k]) = false := by
        rw [beq_eq_false_iff_ne]
        intro e; exact h.1 (by rw [e]; exact List.getElem_mem hk')
      rw [hne]
      simp only [cond_false]
      rw [ih h.2 k hk']
theorem step_again {l : List Nat} {i : Nat} {P : List Nat} (h : Last l i P) (hs : stk l i = P.map (fun p => l.getD p 0)) (k : Nat) (hk : k < P.length) (he : l.getD P[k] 0 = l.getD i 0) : dd l i = k + 1 ∧ stk l (i + 1) = (i :: P.eraseIdx k).map (fun p => l.getD p 0) := by
  have hkm : k < (P.map (fun p => l.getD p 0)).length := by rw [List.length_map]; exact hk
  have hke : (P.map (fun p => l.getD p 0))[k] = l.getD i 0 := by rw [List.getElem_map]; exact he
  have hix : (P.map (fun p => l.getD p 0)).idxOf (l.getD i 0) = k := by rw [← hke]; exact idx_at _ h.dist k hkm
  have hm : l.getD i 0 ∈ P.map (fun p => l.getD p 0) := by rw [← hke]; exact List.getElem_mem hkm
  unfold dd
  simp only [stk, stackStep]
  rw [hs, if_pos hm, hix]
  refine ⟨rfl, ?_⟩
  rw [List.map_cons, List.eraseIdx_eq_take_drop_succ, List.eraseIdx_eq_take_drop_succ, List.map_append, List.map_take, List.map_drop]
theorem last_ex (l : List Nat) (i : Nat) : ∃ P, Last l i P ∧ stk l i = P.map (fun p => l.getD p 0) := by
  induction i with
  | zero => exact ⟨[], Last.zero l, rfl⟩
  | succ i ih =>
    obtain ⟨P, h, hs⟩ := ih
    by_cases c : l.getD i 0 ∈ P.map (fun p => l.getD p 0)
    · obtain ⟨k, hk, hke⟩ := List.getElem_of_mem c
      have hk' : k < P.length := by rw [List.length_map] at hk; exact hk
      rw [List.getElem_map] at hke
      exact ⟨_, h.again k hk' hke, (step_again h hs k hk' hke).2⟩
    · exact ⟨_, h.fresh c, (step_fresh hs c).2⟩
/-- A hash's place in the map: its last place so far. -/
def lastAt (l : List Nat) (i : Nat) (h : Nat) : Option Nat := (List.range i).reverse.find? (fun p => l.getD p 0 == h)
theorem lastAt_succ (l : List Nat) (i h : Nat) : lastAt l (i + 1) h = if l.getD i 0 = h then some i else lastAt l i h := by
  unfold lastAt
  rw [List.range_succ, List.reverse_append, List.reverse_singleton, List.singleton_append, List.find?_cons]
  by_cases c : l.getD i 0 = h
  · rw [if_pos c, show (l.getD i 0 == h) = true by simpa using c]
  · rw [if_neg c, show (l.getD i 0 == h) = false by simpa using c]
theorem lastAt_of (l : List Nat) (h p : Nat) : ∀ i, p < i → l.getD p 0 = h → (∀ j, p < j → j < i → l.getD j 0 ≠ h) → lastAt l i h = some p := by
  intro i
  induction i with
  | zero => intro hp; omega
  | succ i ih =>
    intro hp he hn
    rw [lastAt_succ]
    by_cases c : p = i
    · subst c; rw [if_pos he]
    · rw [if_neg (hn i (by omega) (by omega))]
      exact ih (by omega) he (fun j h1 h2 => hn j h1 (by omega))
theorem lastAt_some {l : List Nat} {i : Nat} {P : List Nat} (h : Last l i P) (k : Nat) (hk : k < P.length) : lastAt l i (l.getD P[k] 0) = some P[k] := by
  refine lastAt_of l _ _ i (h.lt _ (List.getElem_mem hk)) rfl (fun j h1 h2 e => ?_)
  obtain ⟨p, hp, hjp, hpe⟩ := h.all j h2
  obtain ⟨q, hq, hqe⟩ := List.getElem_of_mem hp
  have hne : q ≠ k := fun g => by subst g; omega
  have hd := List.nodup_iff_pairwise_ne.1 h.dist
  have e1 : ∀ (x : Nat) (hx : x < P.length), (P.map (fun p => l.getD p 0))[x]'(by rw [List.length_map]; exact hx) = l.getD P[x] 0 := fun x hx => by rw [List.getElem_map]
  have e2 : l.getD P[q] 0 = l.getD P[k] 0 := by rw [hqe, hpe, e]
  rcases Nat.lt_or_gt_of_ne hne with g | g
  · exact List.pairwise_iff_getElem.1 hd q k (by rw [List.length_map]; exact hq) (by rw [List.length_map]; exact hk) g (by rw [e1 q hq, e1 k hk]; exact e2)
  · exact List.pairwise_iff_getElem.1 hd k q (by rw [List.length_map]; exact hk) (by rw [List.length_map]; exact hq) g (by rw [e1 q hq, e1 k hk]; exact e2.symm)
theorem lastAt_none {l : List Nat} {i : Nat} {P : List Nat} (hP : Last l i P) (h : Nat) (hn : h ∉ P.map (fun p => l.getD p 0)) : lastAt l i h = none := by
  unfold lastAt
  rw [List.find?_eq_none]
  intro x hx
  have hxi : x < i := by simpa using hx
  obtain ⟨p, hp, _, hpe⟩ := hP.all x hxi
  simp only [beq_iff_eq]
  intro e
  exact hn (List.mem_map.2 ⟨p, hp, by rw [hpe, e]⟩)
theorem cw64' {n : Int} (h0 : -9223372036854775808 ≤ n) (h1 : n < 9223372036854775808) : wrap64 n = n := by unfold wrap64; omega
theorem rd_nat (S : List Int) (j : Nat) : rd S (j : Int) = S.getD j 0 := by unfold rd; rw [Int.toNat_natCast]
theorem upto_bd {f : Nat → Int} (hf : ∀ m, 0 ≤ f m ∧ f m ≤ 1) (j : Nat) : 0 ≤ upto f j ∧ upto f j ≤ j := by
  induction j with
  | zero => exact ⟨Int.le_refl _, Int.le_refl _⟩
  | succ j ih => have := hf j; simp only [upto]; omega
theorem upto_mono {f : Nat → Int} (hf : ∀ m, 0 ≤ f m ∧ f m ≤ 1) {i j : Nat} (h : i ≤ j) : upto f i ≤ upto f j := by
  induction j with
  | zero => obtain rfl : i = 0 := by omega
            exact Int.le_refl _
  | succ j ih =>
    by_cases c : i = j + 1
    · subst c; exact Int.le_refl _
    · have := hf j; have := ih (by omega); simp only [upto]; omega
theorem upTo_l0 {n : Nat} {S : List Int} {f : Nat → Int} (hS : S.length = n + 1) (hF : Fen n (fun j => S.getD j 0) f) (hf : ∀ m, 0 ≤ f m ∧ f m ≤ 1) (hn : n ≤ 1024) :
    ∀ (k j : Nat) (acc : Int), j ≤ n → j < k → 0 ≤ acc → acc + upto f j ≤ 2000 → curve_sums_upTo.l0 k S (j : Int) acc = some (acc + upto f j) := by
  intro k
  induction k with
  | zero => intro j acc _ hk; omega
  | succ k ih =>
    intro j acc hj hk h0 h1
    simp only [curve_sums_upTo.l0]
    by_cases c : j = 0
    · subst c
      rw [if_neg (by decide)]
      simp [upto]
    · have hl := low_le j
      have hp := low_pos (n := j) (by omega)
      have hs : upto f j = upto f (j - low j) + S.getD j 0 := fen_step hF (j := j) (by omega) hj
      have b1 := upto_bd hf (j - low j)
      have b3 := upto_mono hf (show j - low j ≤ j by omega)
      rw [if_pos (by omega), if_pos (by omega), if_pos (by rw [hS]; omega), rd_nat, cw64' (n := -(j : Int)) (by omega) (by omega), low_bits j (by omega), show (j : Int) - ((low j : Nat) : Int) = ((j - low j : Nat) : Int) by omega, cw64' (n := ((j - low j : Nat) : Int)) (by omega) (by omega),
        cw64' (n := acc + S.getD j 0) (by omega) (by omega), ih (j - low j) _ (by omega) (by omega) (by omega) (by omega), hs]
      congr 1; omega
theorem upTo_eq {n : Nat} {S : List Int} {f : Nat → Int} (hS : S.length = n + 1) (hF : Fen n (fun j => S.getD j 0) f) (hf : ∀ m, 0 ≤ f m ∧ f m ≤ 1) (hn : n ≤ 1024) (j : Nat) (hj : j ≤ n) : curve_sums_upTo.f 1100 S (j : Int) = some (upto f j) := by
  have b := upto_bd hf j
  have h := upTo_l0 hS hF hf hn 1100 j 0 hj (by omega) (by omega) (by omega)
  rw [Int.zero_add] at h
  exact h
theorem add_l0 {n : Nat} {s0 : Nat → Int} {a : Nat} {v : Int} (hb : ∀ i, -2000 ≤ s0 i ∧ s0 i ≤ 2000) (hv : -1 ≤ v ∧ v ≤ 1) (hn : n ≤ 1024) :
    ∀ (k j : Nat) (S : List Int), S.length = n + 1 → Part n (fun i => S.getD i 0) s0 a v j → Cov j a → n + 2 ≤ k + j → 0 < k → j ≤ 2100 →
      ∃ S', curve_sums_add.l0 k S (j : Int) v = some S' ∧ S'.length = n + 1 ∧ ∀ i, 0 < i → i ≤ n → S'.getD i 0 = s0 i + (if i - low i ≤ a ∧ a < i then v else 0) := by
  intro k
  induction k with
  | zero => intro j S _ _ _ _ h0; omega
  | succ k ih =>
    intro j S hS hP hC hk _ hj2
    simp only [curve_sums_add.l0]
    by_cases c : j < n + 1
    · have hj0 : 0 < j := Nat.lt_of_le_of_lt (Nat.zero_le _) hC.2
      have hl := low_le j
      have hp := low_pos hj0
      have hat : S.getD j 0 = s0 j := by have := hP j hj0 (by omega); simp only at this; rw [this, if_neg (by omega)]; omega
      have hbj := hb j
      rw [if_pos (by rw [hS]; omega), if_pos (by omega), rd_nat, Int.toNat_natCast, hat, cw64' (n := s0 j + v) (by omega) (by omega), cw64' (n := -(j : Int)) (by omega) (by omega), low_bits j (by omega), show (j : Int) + ((low j : Nat) : Int) = ((j + low j : Nat) : Int) by omega, cw64' (n := ((j + low j : Nat) : Int)) (by omega) (by omega)]
      have hset : ∀ i, (S.set j (s0 j + v)).getD i 0 = if i = j then S.getD i 0 + v else S.getD i 0 := fun i => by
        rw [List.getD_eq_getElem?_getD, List.getElem?_set]
        by_cases e : j = i
        · subst e; rw [if_pos rfl, if_pos (by rw [hS]; omega), if_pos rfl, hat]; rfl
        · rw [if_neg e, if_neg (fun h => e h.symm), List.getD_eq_getElem?_getD]
      refine ih (j + low j) _ (by rw [List.length_set]; exact hS) (part_next hP hC hset) (cov_next hC) ?_ ?_ (by omega)
      · omega
      · omega
    · rw [if_neg (by rw [hS]; omega)]
      exact ⟨S, rfl, hS, part_last hP (by omega)⟩
theorem add_eq {n : Nat} {S : List Int} {f : Nat → Int} (hS : S.length = n + 1) (hF : Fen n (fun j => S.getD j 0) f) (hf : ∀ m, 0 ≤ f m ∧ f m ≤ 1) (hn : n ≤ 1024) (a : Nat) (ha : a < n) (v : Int) (hv : -1 ≤ v ∧ v ≤ 1) :
    ∃ S', curve_sums_add.f 1100 S (a : Int) v = some S' ∧ S'.length = n + 1 ∧ Fen n (fun j => S'.getD j 0) (fun i => if i = a then f i + v else f i) := by
  have hbd : ∀ i, -2000 ≤ (if 0 < i ∧ i ≤ n then S.getD i 0 else 0) ∧ (if 0 < i ∧ i ≤ n then S.getD i 0 else 0) ≤ 2000 := fun i => by
    by_cases c : 0 < i ∧ i ≤ n
    · rw [if_pos c]
      have h : S.getD i 0 = upto f i - upto f (i - low i) := hF i c.1 c.2
      have u1 := upto_bd hf i
      have u2 := upto_mono hf (show i - low i ≤ i by omega)
      have u3 := upto_bd hf (i - low i)
      omega
    · rw [if_neg c]; omega
  have hP : Part n (fun i => S.getD i 0) (fun i => if 0 < i ∧ i ≤ n then S.getD i 0 else 0) a v (a + 1) := fun i h0 hi => by
    show S.getD i 0 = (if 0 < i ∧ i ≤ n then S.getD i 0 else 0) + _
    rw [if_pos ⟨h0, hi⟩, if_neg (by omega)]; omega
  obtain ⟨S', h1, h2, h3⟩ := add_l0 hbd hv hn 1100 (a + 1) S hS hP (cov_first a) (by omega) (by decide) (by omega)
  refine ⟨S', ?_, h2, ?_⟩
  · unfold curve_sums_add.f
    rw [show (a : Int) + 1 = ((a + 1 : Nat) : Int) by omega, cw64' (by omega) (by omega)]
    exact h1
  · exact fen_add a v hF (fun j h0 hj => by
      have := h3 j h0 hj
      rw [if_pos ⟨h0, hj⟩] at this
      exact this)
/-- The state of Distances' sums: the counts of the last places. -/
structure Sums (L : List Nat) (i : Nat) (P : List Nat) (S : List Int) (f : Nat → Int) : Prop where
  last : Last L i P
  stack : stk L i = P.map (fun p => L.getD p 0)
  ind : ∀ j, f j = if j ∈ P then 1 else 0
  len : S.length = L.length + 1
  fen : Fen L.length (fun j => S.getD j 0) f
theorem Sums.bd {L : List Nat} {i : Nat} {P : List Nat} {S : List Int} {f : Nat → Int} (h : Sums L i P S f) (m : Nat) : 0 ≤ f m ∧ f m ≤ 1 := by
  rw [h.ind m]; by_cases c : m ∈ P
  · rw [if_pos c]; omega
  · rw [if_neg c]; omega
theorem Sums.zero (L : List Nat) : Sums L 0 [] (List.replicate (L.length + 1) 0) (fun _ => 0) :=
  ⟨Last.zero L, rfl, fun j => by simp, by simp, fun j h0 hj => by
    have e : ∀ m, upto (fun _ => 0) m = 0 := fun m => by induction m with | zero => rfl | succ m ih => simp only [upto]; rw [ih]; rfl
    rw [e, e]
    show (List.replicate (L.length + 1) 0).getD j 0 = _
    rw [List.getD_eq_getElem?_getD, List.getElem?_replicate]
    split <;> rfl⟩
/-- A round of Distances: the map's answer; the sums behind it; the distance. -/
theorem Sums.step {L : List Nat} {i : Nat} {P : List Nat} {S : List Int} {f : Nat → Int} (h : Sums L i P S f) (hi : i < L.length) (hn : L.length ≤ 1024) :
    (lastAt L i (L.getD i 0) = none ∧ dd L i = 0 ∧ ∃ S' P' f', curve_sums_add.f 1100 S (i : Int) 1 = some S' ∧ Sums L (i + 1) P' S' f') ∨
    (∃ p u d S1, lastAt L i (L.getD i 0) = some p ∧ p < L.length ∧ curve_sums_upTo.f 1100 S (i : Int) = some u ∧ curve_sums_upTo.f 1100 S (p : Int) = some d ∧ u - d = ((dd L i : Nat) : Int) ∧ (0 ≤ u ∧ u ≤ 1024 ∧ 0 ≤ d ∧ d ≤ 1024) ∧ curve_sums_add.f 1100 S (p : Int) (-1) = some S1 ∧ ∃ S' P' f', curve_sums_add.f 1100 S1 (i : Int) 1 = some S' ∧ Sums L (i + 1) P' S' f') := by
  have hip : i ∉ P := fun hm => by have := h.last.lt i hm; omega
  have hnd : P.Nodup := h.last.dec.imp (fun h => by omega)
  by_cases c : L.getD i 0 ∈ P.map (fun p => L.getD p 0)
  · right
    obtain ⟨k, hk, hke⟩ := List.getElem_of_mem c
    have hk' : k < P.length := by rw [List.length_map] at hk; exact hk
    rw [List.getElem_map] at hke
    have hpl : P[k] < i := h.last.lt _ (List.getElem_mem hk')
    have hst := step_again h.last h.stack k hk' hke
    have hu := upTo_eq h.len h.fen h.bd hn i (by omega)
    have hd := upTo_eq h.len h.fen h.bd hn P[k] (by omega)
    have b1 := upto_bd h.bd i
    have b2 := upto_bd h.bd P[k]
    obtain ⟨S1, a1, a2, a3⟩ := add_eq h.len h.fen h.bd hn P[k] (by omega) (-1) (by omega)
    have hf1 : ∀ m, 0 ≤ (fun y => if y = P[k] then f y + (-1) else f y) m ∧ (fun y => if y = P[k] then f y + (-1) else f y) m ≤ 1 := fun m => by
      show 0 ≤ (if m = P[k] then f m + (-1) else f m) ∧ (if m = P[k] then f m + (-1) else f m) ≤ 1
      by_cases e : m = P[k]
      · rw [if_pos e, h.ind m, if_pos (by rw [e]; exact List.getElem_mem hk')]; omega
      · rw [if_neg e]; exact h.bd m
    obtain ⟨S', c1, c2, c3⟩ := add_eq a2 a3 hf1 hn i hi 1 (by omega)
    refine ⟨P[k], _, _, S1, ?_, by omega, hu, hd, ?_, by omega, a1, S', _, _, c1, ⟨h.last.again k hk' hke, hst.2, ind_again P hnd i hip f h.ind k hk', c2, c3⟩⟩
    · rw [← hke]; exact lastAt_some h.last k hk'
    · rw [dist_eq P h.last.dec i h.last.lt f h.ind k hk', hst.1]; rfl
  · left
    have hst := step_fresh h.stack c
    obtain ⟨S', c1, c2, c3⟩ := add_eq h.len h.fen h.bd hn i hi 1 (by omega)
    exact ⟨lastAt_none h.last _ c, hst.1, S', _, _, c1, ⟨h.last.fresh c, hst.2, ind_fresh P i hip f h.ind, c2, c3⟩⟩
theorem wf64 {x : Int} (h : (Lit.int .u64 x).wf = true) : 0 ≤ x ∧ x ≤ 18446744073709551615 := by
  simp [Lit.wf, IntKind.min, IntKind.max, IntKind.bits, IntKind.signed] at h; omega
theorem wf64_mk {n : Nat} (h : n < 18446744073709551616) : (Lit.int .u64 (n : Int)).wf = true := by
  simp [Lit.wf, IntKind.min, IntKind.max, IntKind.bits, IntKind.signed]; omega
/-- What the map of last places holds. -/
def lastF (L : List Nat) (i : Nat) (x : Int) : Option Int := (lastAt L i x.toNat).map (fun n => (n : Int))
def outD (L : List Nat) (i : Nat) : List Int := (List.range i).map (fun j => ((dd L j : Nat) : Int))
theorem outD_succ (L : List Nat) (i : Nat) : outD L (i + 1) = outD L i ++ [((dd L i : Nat) : Int)] := by unfold outD; rw [List.range_succ, List.map_append]; rfl
theorem outD_length (L : List Nat) (i : Nat) : (outD L i).length = i := by unfold outD; rw [List.length_map, List.length_range]
/-- The head of a round of Distances. -/
structure DSt (w : World) (L : List Nat) (nb mb : Nat) (i : Nat) (v : Value) (wr : World) : Prop where
  sums : ∃ S P f, Sums L i P S f ∧ Kd.R (Kd.int .i64) 3 wr w.heap.size (fun k => k = nb) (.slice (some ⟨nb, 0, none⟩) (L.length + 1) (L.length + 1)) S
  map : ∃ cnt, MapV (plainElem Try.prog 3) wr mb i (lastF L i) cnt
  out : Kd.R (Kd.int .i64) 3 wr w.heap.size (fun k => k ≠ nb ∧ k ≠ mb) v (outD L i)
  below : Below w.heap.size w wr
  nbl : nb < wr.heap.size
  mbl : mb < wr.heap.size
  nb0 : w.heap.size ≤ nb
  mb0 : w.heap.size ≤ mb
  ne : nb ≠ mb
theorem lastF_succ (L : List Nat) (i : Nat) (y : Int) (h : (Lit.int .u64 y).wf = true) : lastF L (i + 1) y = if y = ((L.getD i 0 : Nat) : Int) then some (i : Int) else lastF L i y := by
  have := wf64 h
  unfold lastF
  rw [lastAt_succ]
  by_cases c : y = ((L.getD i 0 : Nat) : Int)
  · rw [if_pos c, if_pos (by omega)]; rfl
  · rw [if_neg c, if_neg (by omega)]
theorem DSt.next {w : World} {L : List Nat} {nb mb i : Nat} {v : Value} {wr : World} (H : DSt w L nb mb i v wr) {wa : World} (hk : Kept wr wa (fun k => k = nb)) {S' : List Int} {P' : List Nat} {f' : Nat → Int}
    (hR : Kd.R (Kd.int .i64) 3 wa w.heap.size (fun k => k = nb) (.slice (some ⟨nb, 0, none⟩) (L.length + 1) (L.length + 1)) S') (hs : Sums L (i + 1) P' S' f')
    {w3 : World} {cnt' : Nat} (hm3 : MapV (plainElem Try.prog 3) w3 mb (i + 1) (fun y => if y = ((L.getD i 0 : Nat) : Int) then some (i : Int) else lastF L i y) cnt') (hg3 : wa.grownBy w3 (some mb))
    {v1 : Value} {w4 : World} (hR4 : Kd.R (Kd.int .i64) 3 w4 w.heap.size (fun k => k ≠ nb ∧ k ≠ mb) v1 (outD L i ++ [((dd L i : Nat) : Int)])) (hb4 : Below w.heap.size w w4) (hg4 : w3.grownBy w4 v.ownBlock) : DSt w L nb mb (i + 1) v1 w4 := by
  have h3 : nb < w3.heap.size := Nat.lt_of_lt_of_le (Nat.lt_of_lt_of_le H.nbl hk.1) hg3.size
  have h3m : mb < w3.heap.size := Nat.lt_of_lt_of_le (Nat.lt_of_lt_of_le H.mbl hk.1) hg3.size
  have on : some nb ≠ v.ownBlock := fun e => (H.out.1 nb e.symm).1 rfl
  have om : some mb ≠ v.ownBlock := fun e => (H.out.1 mb e.symm).2 rfl
  refine ⟨⟨S', P', f', hs, ?_⟩, ⟨cnt', hm3.congr (hg4.block mb h3m om) (fun y hy => lastF_succ L i y hy)⟩, by rw [outD_succ]; exact hR4, hb4, Nat.lt_of_lt_of_le h3 hg4.size, Nat.lt_of_lt_of_le h3m hg4.size, H.nb0, H.mb0, H.ne⟩
  refine Kd.R_step hR (fun k hk2 hlt => ?_)
  subst hk2
  rw [hg4.block k h3 on, hg3.block k hlt (fun e => H.ne (Option.some.inj e))]
theorem DSt.mapAt {w : World} {L : List Nat} {nb mb i : Nat} {v : Value} {wr : World} (H : DSt w L nb mb i v wr) {wa : World} (hk : Kept wr wa (fun k => k = nb)) : ∃ cnt, MapV (plainElem Try.prog 3) wa mb i (lastF L i) cnt := by
  obtain ⟨cnt, h⟩ := H.map
  exact ⟨cnt, h.congr (hk.2 mb H.mbl (fun e => H.ne e.symm)) (fun _ _ => rfl)⟩
theorem DSt.outAt {w : World} {L : List Nat} {nb mb i : Nat} {v : Value} {wr : World} (H : DSt w L nb mb i v wr) {wa w3 : World} (hk : Kept wr wa (fun k => k = nb)) (hg3 : wa.grownBy w3 (some mb)) : Kd.R (Kd.int .i64) 3 w3 w.heap.size (fun k => k ≠ nb ∧ k ≠ mb) v (outD L i) := by
  have h1 := Kd.R_step (w1 := wa) H.out (fun k hk2 hlt => hk.2 k hlt hk2.1)
  exact Kd.R_step h1 (fun k hk2 hlt => hg3.block k hlt (fun e => hk2.2 (Option.some.inj e)))
/-- Another bound on the one block of a row: the same row. -/
theorem R_same {w : World} {base nb : Nat} {ok : Nat → Prop} {n c : Nat} {xs : List Int} (h : Kd.R (Kd.int .i64) 3 w base ok (.slice (some ⟨nb, 0, none⟩) n c) xs) : Kd.R (Kd.int .i64) 3 w base (fun k => k = nb) (.slice (some ⟨nb, 0, none⟩) n c) xs := by
  have hown := Kd.own_of_R (enc := Value.int .i64) (h1 := fun _ => rfl) h
  exact Kd.R_of_own (h1 := fun _ => rfl) hown (fun k hk => by simp [Value.ownBlock] at hk; exact hk.symm)
def zs (L : List Nat) : List Int := L.map (fun n : Nat => (n : Int))
theorem zs_length (L : List Nat) : (zs L).length = L.length := by simp [zs]
theorem rd_zs (L : List Nat) (i : Nat) : rd (zs L) (i : Int) = ((L.getD i 0 : Nat) : Int) := by
  rw [rd_nat, zs, List.getD_eq_getElem?_getD, List.getElem?_map, List.getD_eq_getElem?_getD]
  cases L[i]? <;> rfl
theorem DSt.start {w : World} {L : List Nat} {nb mb : Nat} {wr : World} (hb : Below w.heap.size w wr) (hR : Kd.R (Kd.int .i64) 3 wr w.heap.size (fun k => k = nb) (.slice (some ⟨nb, 0, none⟩) (L.length + 1) (L.length + 1)) (List.replicate (L.length + 1) 0)) (hm : wr.heap[mb]? = some (.map #[] 0))
    (n0 : w.heap.size ≤ nb) (m0 : w.heap.size ≤ mb) (ne : nb ≠ mb) (nl : nb < wr.heap.size) : DSt w L nb mb 0 (.slice none 0 0) wr :=
  ⟨⟨_, _, _, Sums.zero L, hR⟩, ⟨0, MapV.congr (MapV.new hm) rfl (fun _ _ => rfl)⟩, Kd.R_nil _ _ _ _ _, hb, nl, (Array.getElem?_eq_some_iff.1 hm).1, n0, m0, ne⟩
theorem mem_take_idx (h : Nat) (st : List Nat) : ∀ n, h ∈ st.take n ↔ h ∈ st ∧ st.idxOf h < n := by
  induction st with
  | nil => intro n; simp
  | cons a r ih =>
    intro n
    cases n with
    | zero => simp
    | succ n =>
      rw [List.take_succ_cons, List.mem_cons, List.mem_cons, ih n, List.idxOf_cons]
      by_cases c : a = h
      · subst c; simp
      · have e : (a == h) = false := by rw [beq_eq_false_iff_ne]; exact c
        rw [e]
        simp only [cond_false]
        have c' : ¬ h = a := fun g => c g.symm
        constructor
        · rintro (g | g)
          · exact absurd g c'
          · exact ⟨.inr g.1, by omega⟩
        · rintro ⟨g | g, k⟩
          · exact absurd g c'
          · exact .inr ⟨g, by omega⟩
theorem idx_take (h : Nat) (st : List Nat) : ∀ n, h ∈ st.take n → (st.take n).idxOf h = st.idxOf h := by
  induction st with
  | nil => intro n; simp
  | cons a r ih =>
    intro n
    cases n with
    | zero => simp
    | succ n =>
      rw [List.take_succ_cons, List.idxOf_cons, List.idxOf_cons]
      intro hm
      by_cases c : a = h
      · subst c; simp
      · have e : (a == h) = false := by rw [beq_eq_false_iff_ne]; exact c
        rw [e]
        simp only [cond_false]
        rcases List.mem_cons.1 hm with g | g
        · exact absurd g.symm c
        · rw [ih n g]
theorem take_erase (st : List Nat) : ∀ (k n : Nat), k < n → (st.take n).eraseIdx k = (st.eraseIdx k).take (n - 1) := by
  induction st with
  | nil => intro k n _; simp
  | cons a r ih =>
    intro k n h
    obtain ⟨n, rfl⟩ : ∃ m, n = m + 1 := ⟨n - 1, by omega⟩
    rw [List.take_succ_cons]
    cases k with
    | zero => simp
    | succ k =>
      obtain ⟨m, rfl⟩ : ∃ m, n = m + 1 := ⟨n - 1, by omega⟩
      rw [List.eraseIdx_cons_succ, List.eraseIdx_cons_succ, Nat.add_sub_cancel, List.take_succ_cons, ih k (m + 1) (by omega), Nat.add_sub_cancel]
theorem take_erase_far (st : List Nat) : ∀ (k n : Nat), n ≤ k → (st.eraseIdx k).take n = st.take n := by
  induction st with
  | nil => intro k n _; simp
  | cons a r ih =>
    intro k n h
    cases n with
    | zero => simp
    | succ n =>
      obtain ⟨j, rfl⟩ : ∃ j, k = j + 1 := ⟨k - 1, by omega⟩
      rw [List.eraseIdx_cons_succ, List.take_succ_cons, List.take_succ_cons, ih j n (by omega)]
/-- A cache by use, the newest first: what it holds behind a hash, and whether that hash was a hit. -/
def lruStep (size : Nat) (c : List Nat) (h : Nat) : List Nat × Bool := if h ∈ c then (h :: c.eraseIdx (c.idxOf h), true) else ((h :: c).take size, false)
/-- MATTSON: a cache by use holds the newest of the stack; a hit is a distance up to the size. -/
theorem lru_step (l : List Nat) (size i : Nat) : lruStep size ((stk l i).take size) (l.getD i 0) = ((stk l (i + 1)).take size, decide (1 ≤ dd l i ∧ dd l i ≤ size)) := by
  unfold dd
  simp only [stk]
  generalize stk l i = st
  generalize l.getD i 0 = h
  by_cases c : h ∈ st
  · have e : stackStep st h = (h :: st.eraseIdx (st.idxOf h), st.idxOf h + 1) := by unfold stackStep; rw [if_pos c]
    rw [e]
    unfold lruStep
    by_cases d : h ∈ st.take size
    · have h2 := ((mem_take_idx h st size).1 d).2
      rw [if_pos d, idx_take h st size d, take_erase st _ size h2]
      have : size = (size - 1) + 1 := by omega
      rw [show (h :: st.eraseIdx (st.idxOf h)).take size = h :: (st.eraseIdx (st.idxOf h)).take (size - 1) by rw [this]; rfl]
      rw [decide_eq_true (by omega : 1 ≤ st.idxOf h + 1 ∧ st.idxOf h + 1 ≤ size)]
    · have h2 : size ≤ st.idxOf h := by
        by_cases g : st.idxOf h < size
        · exact absurd ((mem_take_idx h st size).2 ⟨c, g⟩) d
        · omega
      rw [if_neg d, decide_eq_false (by omega : ¬ (1 ≤ st.idxOf h + 1 ∧ st.idxOf h + 1 ≤ size))]
      congr 1
      cases size with
      | zero => simp
      | succ n => rw [List.take_succ_cons, List.take_succ_cons, List.take_take, Nat.min_eq_left (by omega), take_erase_far st _ n (by omega)]
  · have d : h ∉ st.take size := fun g => c ((mem_take_idx h st size).1 g).1
    have e : stackStep st h = (h :: st, 0) := by unfold stackStep; rw [if_neg c]
    rw [e]
    unfold lruStep
    rw [if_neg d, decide_eq_false (by omega)]
    congr 1
    cases size with
    | zero => simp
    | succ n => rw [List.take_succ_cons, List.take_succ_cons, List.take_take, Nat.min_eq_left (by omega)]
/-- The hits of a cache by use in the first n askings. -/
def hitsTo (l : List Nat) (size : Nat) : Nat → Nat
  | 0 => 0
  | n + 1 => hitsTo l size n + (if 1 ≤ dd l n ∧ dd l n ≤ size then 1 else 0)
/-- By use, more room never has fewer hits. -/
theorem hits_mono (l : List Nat) {a b : Nat} (h : a ≤ b) (n : Nat) : hitsTo l a n ≤ hitsTo l b n := by
  induction n with
  | zero => exact Nat.le_refl _
  | succ n ih =>
    simp only [hitsTo]
    by_cases c : 1 ≤ dd l n ∧ dd l n ≤ a
    · rw [if_pos c, if_pos ⟨c.1, by omega⟩]; omega
    · rw [if_neg c]; omega
end Go.Proofs.Yteaidghanfjigaa.QCurveCurves
