/- The plain law of CurveWorks, over the printed functions.
   No condition. -/
import Derived.Test.YteaidghanfjigaaCurveP
import Derived.Test.YteaidghanfjigaaRCurveWorksx1
namespace Go.Proofs.Yteaidghanfjigaa.RCurveWorks
open Go.Proofs.Yteaidghanfjigaa.QCurveCurves
open Go.RowKit Go.Proofs.YteaidghanfjigaaW.PrintWords Go.Proofs.YteaidghanfjigaaW.PrintLast Go.Proofs.YteaidghanfjigaaW.PrintMore
set_option linter.unusedVariables false
set_option linter.unusedSimpArgs false
theorem up_fuel {α : Type} {f : Nat → Option α} (h : ∀ k, LeO (f k) (f (k + 1))) {n : Nat} {x : α} (hx : f n = some x) : ∀ m, n ≤ m → f m = some x := by
  intro m hm
  induction m with
  | zero => obtain rfl : n = 0 := by omega
            exact hx
  | succ m ih =>
    by_cases c : n = m + 1
    · subst c; exact hx
    · exact h m x (ih (by omega))
theorem lives100 : cellarlaw27_lives.f 100 = some true := by decide +kernel
theorem lives_ev : Evn (fun k => cellarlaw27_lives.f k) true := ⟨100, fun k hk => up_fuel cellarlaw27_lives.mono lives100 k hk⟩
def seg (L : List Int) (a b : Nat) : List Int := (L.take b).drop a
theorem seg_succ (L : List Int) (a b : Nat) (hb : b < L.length) (hab : a ≤ b) : seg L a (b + 1) = seg L a b ++ [rd L (b : Int)] := by
  have e : rd L (b : Int) = L[b] := by rw [rd_nat]; simp [List.getD, hb]
  unfold seg
  rw [e, List.take_succ_eq_append_getElem hb, List.drop_append_of_le_length (by rw [List.length_take]; omega)]
theorem seg_self (L : List Int) (a : Nat) : seg L a a = [] := by
  unfold seg; rw [List.drop_eq_nil_iff, List.length_take]; omega
theorem seg_mem (L : List Int) (a b : Nat) (hab : a ≤ b) (hb : b ≤ L.length) (x : Int) : x ∈ seg L a b ↔ ∃ j : Nat, a ≤ j ∧ j < b ∧ rd L (j : Int) = x := by
  induction b with
  | zero => obtain rfl : a = 0 := by omega
            rw [seg_self]; simp
  | succ b ih =>
    by_cases c : a = b + 1
    · subst c; rw [seg_self]
      simp only [List.not_mem_nil, false_iff, not_exists, not_and]
      intro j h1 h2; omega
    · rw [seg_succ L a b (by omega) (by omega), List.mem_append, ih (by omega) (by omega), List.mem_singleton]
      constructor
      · rintro (⟨j, h1, h2, h3⟩ | h)
        · exact ⟨j, h1, by omega, h3⟩
        · exact ⟨b, by omega, by omega, h.symm⟩
      · rintro ⟨j, h1, h2, h3⟩
        by_cases e : j = b
        · subst e; exact .inr h3.symm
        · exact .inl ⟨j, h1, by omega, h3⟩
theorem wl2 {L : List Int} (hL : L.length ≤ 1024) {n x7 x8 : Int} {i a b : Nat} (hab : a ≤ b) (hb : b < L.length) {q : Nat} (hq : q ≤ 1024) {r : Int × Int × Int} (hr : Evn (fun k => cellarref27_Working.l1 k L n x7 x8 (i : Int) (a : Int) ((q + (if rd L (b : Int) ∈ seg L a b then 0 else 1) : Nat) : Int) ((b + 1 : Nat) : Int)) r) :
    ∀ (d c : Nat), c + d = b → a ≤ c → (∀ j : Nat, a ≤ j → j < c → rd L (j : Int) ≠ rd L (b : Int)) → Evn (fun k => cellarref27_Working.l2 k L n x7 x8 (i : Int) (a : Int) (q : Int) (b : Int) (c : Int)) r := by
  intro d
  induction d with
  | zero =>
    intro c hc hac hno
    obtain rfl : c = b := by omega
    rw [if_neg (by rw [seg_mem L a c hab (by omega)]; rintro ⟨j, h1, h2, h3⟩; exact hno j h1 h2 h3)] at hr
    refine Evn.step (fun k => ?_) hr
    simp only [cellarref27_Working.l2]
    rw [if_neg (by omega), if_pos trivial, cw64' (n := (q : Int) + 1) (by omega) (by omega), cw64' (n := (c : Int) + 1) (by omega) (by omega)]
    rfl
  | succ d ih =>
    intro c hc hac hno
    by_cases e : rd L (c : Int) = rd L (b : Int)
    · rw [if_pos (by rw [seg_mem L a b hab (by omega)]; exact ⟨c, hac, by omega, e⟩)] at hr
      refine Evn.step (fun k => ?_) hr
      simp only [cellarref27_Working.l2]
      rw [if_pos (by omega), if_pos (by omega), if_pos (by omega), if_pos (by omega), if_pos (by omega), if_pos e, if_neg (by omega), cw64' (n := (b : Int) + 1) (by omega) (by omega)]
      rfl
    · refine Evn.step (fun k => ?_) (ih (c + 1) (by omega) (by omega) (fun j h1 h2 => by
        by_cases z : j = c
        · subst z; exact e
        · exact hno j h1 (by omega)))
      simp only [cellarref27_Working.l2]
      rw [if_pos (by omega), if_pos (by omega), if_pos (by omega), if_pos (by omega), if_pos (by omega), if_neg e, cw64' (n := (c : Int) + 1) (by omega) (by omega)]
      rfl
theorem dc_seg_le (L : List Int) (hL : L.length ≤ 1024) (a b : Nat) : dc (seg L a b) ≤ 1024 := by
  have h1 := dc_le (seg L a b)
  have h2 : (seg L a b).length ≤ L.length := by unfold seg; rw [List.length_drop, List.length_take]; omega
  omega
theorem wl1 {L : List Int} (hL : L.length ≤ 1024) {n i a : Nat} (hi : i < L.length) (ha : i + 1 - n = a) (hn : 1 ≤ n) {r : Int × Int × Int} (hr : Evn (fun k => cellarref27_Working.l0 k L (n : Int) ((wm L n (i + 1) : Nat) : Int) ((wsum L n (i + 1) : Nat) : Int) ((i + 1 : Nat) : Int)) r) :
    ∀ (d b : Nat), b + d = i + 1 → a ≤ b → Evn (fun k => cellarref27_Working.l1 k L (n : Int) ((wm L n i : Nat) : Int) ((wsum L n i : Nat) : Int) (i : Int) (a : Int) ((dc (seg L a b) : Nat) : Int) (b : Int)) r := by
  intro d
  induction d with
  | zero =>
    intro b hb hab
    obtain rfl : b = i + 1 := by omega
    refine Evn.step (fun k => ?_) hr
    have e : seg L a (i + 1) = win L n (i + 1) := by unfold seg win; rw [ha]
    have h1 := wsum_le L n i (by omega)
    have h2 := dc_win L n (i + 1)
    have h3 := wm_le L n i
    have hm : wm L n (i + 1) = max (wm L n i) (dc (win L n (i + 1))) := rfl
    have hs : wsum L n (i + 1) = wsum L n i + dc (win L n (i + 1)) := rfl
    simp only [cellarref27_Working.l1]
    rw [e, if_neg (by omega), cw64' (n := (i : Int) + 1) (by omega) (by omega), cw64' (n := ((wsum L n i : Nat) : Int) + ((dc (win L n (i + 1)) : Nat) : Int)) (by omega) (by omega)]
    by_cases c : ((dc (win L n (i + 1)) : Nat) : Int) > ((wm L n i : Nat) : Int)
    · rw [if_pos c, hm, hs, Nat.max_eq_right (by omega), Int.natCast_add]; rfl
    · rw [if_neg c, hm, hs, Nat.max_eq_left (by omega), Int.natCast_add]; rfl
  | succ d ih =>
    intro b hb hab
    have hh := ih (b + 1) (by omega) (by omega)
    rw [seg_succ L a b (by omega) hab, dc_snoc] at hh
    refine Evn.step (fun k => ?_) (wl2 hL hab (by omega) (dc_seg_le L hL a b) hh (b - a) a (by omega) (Nat.le_refl _) (fun j h1 h2 => by omega))
    simp only [cellarref27_Working.l1]
    rw [if_pos (by omega)]
theorem wl0 {L : List Int} (hL : L.length ≤ 1024) {n : Nat} (hn : 1 ≤ n) : ∀ (d i : Nat), i + d = L.length → Evn (fun k => cellarref27_Working.l0 k L (n : Int) ((wm L n i : Nat) : Int) ((wsum L n i : Nat) : Int) (i : Int)) (((wm L n L.length : Nat) : Int), ((wsum L n L.length : Nat) : Int), 0) := by
  intro d
  induction d with
  | zero =>
    intro i hi
    obtain rfl : i = L.length := by omega
    exact Evn.of_eq (fun k => by simp only [cellarref27_Working.l0]; rw [if_neg (by omega)])
  | succ d ih =>
    intro i hi
    have h := wl1 hL (by omega) rfl hn (ih (i + 1) (by omega)) (i + 1 - (i + 1 - n)) (i + 1 - n) (by omega) (Nat.le_refl _)
    rw [seg_self] at h
    refine Evn.step (h := fun k => cellarref27_Working.j1 k L (n : Int) ((wm L n i : Nat) : Int) ((wsum L n i : Nat) : Int) (i : Int) ((i + 1 - n : Nat) : Int)) (fun k => ?_) (Evn.step (fun k => ?_) h)
    · simp only [cellarref27_Working.l0]
      rw [if_pos (by omega)]
      by_cases c : (i : Int) ≥ (n : Int)
      · rw [if_pos c, cw64' (n := (i : Int) - (n : Int)) (by omega) (by omega), cw64' (by omega) (by omega), show (i : Int) - (n : Int) + 1 = ((i + 1 - n : Nat) : Int) by omega]
      · rw [if_neg c, show ((i + 1 - n : Nat) : Int) = 0 by omega]
    · simp only [cellarref27_Working.j1]; rfl
theorem rwork_eq (l0 : List Int) (a : Int) (hw : ∀ x ∈ l0, (Lit.int .u64 x).wf = true) : ∃ r, workF l0 a = some r ∧ Evn (fun k => cellarref27_Working.f k l0 a) r := by
  unfold workF
  by_cases c : (l0.length : Int) > 1024
  · rw [if_pos c]
    exact ⟨_, rfl, 0, fun k _ => by simp only [cellarref27_Working.f]; rw [if_pos c]⟩
  · rw [if_neg c]
    by_cases c2 : a < 1
    · rw [if_pos c2]
      exact ⟨_, rfl, 0, fun k _ => by simp only [cellarref27_Working.f]; rw [if_neg c, if_pos c2]⟩
    · rw [if_neg c2, if_pos hw]
      refine ⟨_, rfl, ?_⟩
      obtain ⟨n, rfl⟩ := Int.eq_ofNat_of_zero_le (show 0 ≤ a by omega)
      obtain ⟨K, hK⟩ := wl0 (L := l0) (n := n) (by omega) (by omega) l0.length 0 (by omega)
      refine ⟨K, fun k hk => ?_⟩
      have h := hK k hk
      simp only [cellarref27_Working.f]
      rw [if_neg c, if_neg c2, Int.toNat_natCast]
      exact h
theorem pure (l0 : List Int) (a : Int) (h1 : l0.length ≤ maxLen) (h2 : l0.length * 8 ≤ 140737488351232) (h3 : ∀ x ∈ l0, (Lit.int .u64 x).wf = true) (h4 : (Lit.int .i64 a).wf = true) : ∃ k, cellarlaw27_CurveWorks.f k l0 a = some true := by
  obtain ⟨⟨r1, r2, r3⟩, hd, K1, hK1⟩ := rwork_eq l0 a h3
  obtain ⟨K4, hK4⟩ := lives_ev
  refine ⟨K1 + K4, ?_⟩
  have g1 := hK1 (K1 + K4) (by omega)
  have g4 := hK4 (K1 + K4) (by omega)
  dsimp only at g1 g4
  unfold cellarlaw27_CurveWorks.f
  rw [show curve_Working.f l0 a = workF l0 a from rfl, hd, Option.bind_some, g1, Option.bind_some, g4, Option.bind_some, if_pos rfl, if_pos rfl, if_pos rfl]
  simp
end Go.Proofs.Yteaidghanfjigaa.RCurveWorks
namespace Go.Proofs.Yteaidghanfjigaa.Pure
open Go.Proofs.Yteaidghanfjigaa.RCurveWorks
theorem CurveWorks : cellarlaw27_CurveWorks.Pure := fun l0 a1 h1 h2 h3 h4 => pure l0 a1 h1 h2 h3 h4
end Go.Proofs.Yteaidghanfjigaa.Pure
