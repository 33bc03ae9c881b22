/- The working sets walked.
   No condition. -/
import Derived.Test.YteaidghanfjigaaRingB
import Derived.Test.YteaidghanfjigaaWMore
import Derived.ArgAppend
import Derived.BigRegion
import Derived.Deep.QuietTactic
import Derived.BigQuiet
import Derived.Deep.RegionHeld3
import Derived.ChangeAlike
import Derived.RegionTactic
import Derived.Maps.OwnSet
import Derived.Maps.OwnOps
import Derived.Deep.DeepCutAuto
import Derived.Deep.CutBlock
import Derived.Deep.RegionLaw
import Derived.StillTailTactics
namespace Go.Proofs.Yteaidghanfjigaa.QCurveCurves
open Go.RowKit Go.Proofs.YteaidghanfjigaaW.PrintWords Go.Proofs.YteaidghanfjigaaW.PrintLast Go.Proofs.YteaidghanfjigaaW.PrintMore
attribute [local go_sem] max2_int min2_int max_two min_two   -- for this text's walk alone
set_option linter.unusedVariables false
set_option linter.unusedSimpArgs false
/-- How many differ in a row. -/
def dc : List Int → Nat
  | [] => 0
  | x :: xs => dc xs + if x ∈ xs then 0 else 1
theorem dc_le (V : List Int) : dc V ≤ V.length := by
  induction V with
  | nil => simp [dc]
  | cons x xs ih => simp only [dc, List.length_cons]; split <;> omega
theorem dc_snoc (V : List Int) (h : Int) : dc (V ++ [h]) = dc V + if h ∈ V then 0 else 1 := by
  induction V with
  | nil => simp [dc]
  | cons x xs ih =>
    simp only [List.cons_append, dc, ih, List.mem_append, List.mem_cons, List.not_mem_nil, or_false]
    by_cases c1 : h = x
    · subst c1
      by_cases c2 : h ∈ xs <;> simp [c2]
    · have c1' : ¬ x = h := fun e => c1 e.symm
      by_cases c2 : h ∈ xs <;> by_cases c3 : x ∈ xs <;> simp [c1, c1', c2, c3]
/-- What the map of counts tells. -/
def wcf (V : List Int) (x : Int) : Option Int := if V.count x = 0 then none else some ((V.count x : Nat) : Int)
theorem wcf_getD (V : List Int) (x : Int) : (wcf V x).getD 0 = ((V.count x : Nat) : Int) := by
  unfold wcf; split
  · rename_i h; rw [h]; rfl
  · rfl
theorem wcf_isSome (V : List Int) (x : Int) : (wcf V x).isSome = true ↔ x ∈ V := by
  unfold wcf
  by_cases c : x ∈ V
  · have := List.count_pos_iff.2 c
    rw [if_neg (by omega)]; simp [c]
  · rw [if_pos (List.count_eq_zero.2 c)]; simp [c]
/-- What it tells with a count of 0 left in it. -/
def wcz (T : List Int) (o : Int) (x : Int) : Option Int := if x = o then some 0 else wcf T x
theorem inc_fun (V : List Int) (h y : Int) : wcf (V ++ [h]) y = if y = h then some (((V.count h + 1 : Nat)) : Int) else wcf V y := by
  unfold wcf
  rw [List.count_append]
  by_cases c : y = h
  · subst c; rw [if_pos rfl]; simp
  · rw [if_neg c]
    have e : List.count y [h] = 0 := by rw [List.count_eq_zero]; simpa using c
    rw [e, Nat.add_zero]
theorem inc_cnt (V : List Int) (h : Int) : dc (V ++ [h]) = if (wcf V h).isSome = true then dc V else dc V + 1 := by
  rw [dc_snoc]
  by_cases c : h ∈ V
  · rw [if_pos c, if_pos ((wcf_isSome V h).2 c)]; rfl
  · rw [if_neg c, if_neg (fun hh => c ((wcf_isSome V h).1 hh))]
theorem cons_fun (T : List Int) (o y : Int) (c : ¬ y = o) : wcf (o :: T) y = wcf T y := by
  unfold wcf
  rw [List.count_cons_of_ne (fun e => c e.symm)]
theorem dec_fun (T : List Int) (o y : Int) (hT : 0 < T.count o) : wcf T y = if y = o then some ((T.count o : Nat) : Int) else wcf (o :: T) y := by
  by_cases c : y = o
  · subst c; rw [if_pos rfl]; unfold wcf; rw [if_neg (by omega)]
  · rw [if_neg c, cons_fun T o y c]
theorem dec_cnt (T : List Int) (o : Int) (hT : 0 < T.count o) : dc T = if (wcf (o :: T) o).isSome = true then dc (o :: T) else dc (o :: T) + 1 := by
  rw [if_pos ((wcf_isSome _ _).2 List.mem_cons_self)]
  simp only [dc]
  rw [if_pos (List.count_pos_iff.1 hT)]; rfl
theorem zer_fun (T : List Int) (o y : Int) : wcz T o y = if y = o then some 0 else wcf (o :: T) y := by
  unfold wcz
  by_cases c : y = o
  · rw [if_pos c, if_pos c]
  · rw [if_neg c, if_neg c, cons_fun T o y c]
theorem zer_cnt (T : List Int) (o : Int) (hT : T.count o = 0) : dc T + 1 = if (wcf (o :: T) o).isSome = true then dc (o :: T) else dc (o :: T) + 1 := by
  rw [if_pos ((wcf_isSome _ _).2 List.mem_cons_self)]
  simp only [dc]
  rw [if_neg (List.count_eq_zero.1 hT)]
theorem del_fun (T : List Int) (o y : Int) (hT : T.count o = 0) : wcf T y = if y = o then none else wcz T o y := by
  unfold wcz
  by_cases c : y = o
  · subst c; rw [if_pos rfl]; unfold wcf; rw [if_pos hT]
  · rw [if_neg c, if_neg c]
/-- The window behind i elements, the most and the sum. -/
def win (L : List Int) (n i : Nat) : List Int := (L.take i).drop (i - n)
def wm (L : List Int) (n : Nat) : Nat → Nat
  | 0 => 0
  | i + 1 => max (wm L n i) (dc (win L n (i + 1)))
def wsum (L : List Int) (n : Nat) : Nat → Nat
  | 0 => 0
  | i + 1 => wsum L n i + dc (win L n (i + 1))
theorem win_zero (L : List Int) (n : Nat) : win L n 0 = [] := by simp [win]
theorem dc_win (L : List Int) (n i : Nat) : dc (win L n i) ≤ i := by
  have h1 := dc_le (win L n i)
  have h2 : (win L n i).length ≤ i := by unfold win; rw [List.length_drop, List.length_take]; omega
  omega
theorem wm_le (L : List Int) (n i : Nat) : wm L n i ≤ i := by
  induction i with
  | zero => simp [wm]
  | succ i ih => have := dc_win L n (i + 1); simp only [wm]; omega
theorem wsum_le (L : List Int) (n i : Nat) (hi : i ≤ 1024) : wsum L n i ≤ i * 1024 := by
  induction i with
  | zero => simp [wsum]
  | succ i ih => have := dc_win L n (i + 1); have := ih (by omega); simp only [wsum]; omega
theorem win_low (L : List Int) (n i : Nat) (hi : i < L.length) (h : i < n) : win L n (i + 1) = win L n i ++ [rd L (i : Int)] := by
  have e : rd L (i : Int) = L[i] := by rw [rd_nat]; simp [List.getD, hi]
  unfold win
  rw [show i + 1 - n = 0 by omega, show i - n = 0 by omega, List.drop_zero, List.drop_zero, List.take_succ_eq_append_getElem hi, e]
theorem win_high (L : List Int) (n i : Nat) (hi : i < L.length) (hn : 1 ≤ n) (h : n ≤ i) : win L n i ++ [rd L (i : Int)] = rd L ((i - n : Nat) : Int) :: win L n (i + 1) := by
  have e : rd L (i : Int) = L[i] := by rw [rd_nat]; simp [List.getD, hi]
  have e2 : rd L ((i - n : Nat) : Int) = L[i - n] := by rw [rd_nat]; simp [List.getD, show i - n < L.length by omega]
  unfold win
  rw [show i + 1 - n = (i - n) + 1 by omega, List.take_succ_eq_append_getElem hi, e, e2]
  have h1 : (L.take i ++ [L[i]]).drop (i - n) = (L.take i).drop (i - n) ++ [L[i]] := by
    rw [List.drop_append_of_le_length (by rw [List.length_take]; omega)]
  rw [← h1, List.drop_eq_getElem_cons (by simp; omega)]
  congr 1
  rw [List.getElem_append_left (by rw [List.length_take]; omega), List.getElem_take]
section
variable {ops : Array Oper} {rest : List Oper} {o : Oper} {a : Act} {Q : Exit → Act → World → Prop}
theorem wpList_mapv_get (w : World) (hg : o.guard = none) (m x : Operand) (t : TypeId) (hop : o.op = Op.lookup t m x false) (ht : Try.prog.underlying t = some (.map 23 3)) (hz : (zeroValue 3).run Try.prog w = .ok (.int .i64 0) w)
    (mb n cnt : Nat) (f : Int → Option Int) (hm : a.eval m = .map (some mb)) (H : MapV (plainElem Try.prog 3) w mb n f cnt) (key : Int) (hwf : (Lit.int .u64 key).wf = true) (hx : a.eval x = .int .u64 key) (val : Int) (hf : (f key).getD 0 = val)
    (hK : wpList Try.prog ops Q rest (a.put o.dst (.int .i64 val)) w) : wpList Try.prog ops Q (o :: rest) a w := by
  obtain ⟨D, h1, h2, h3⟩ := H
  obtain ⟨e1, e2⟩ := h3 key hwf
  refine wpList_lookup_own_int w hg m x t hop 23 3 .i64 key23 ht Try.underlying3 hz mb n D hm h1 _ _ hx (keyOf23 hwf) (fun c hat hwc => ?_)
  have hc : c = val := by
    cases hfk : f key with
    | none =>
      rw [hfk] at e1 hf
      rw [Maps.atKey_of_not_has e1] at hat
      injection hat with hat
      injection hat with _ hat
      rw [← hat, ← hf]; rfl
    | some v =>
      rw [e2 v hfk] at hat
      rw [hfk] at hf
      injection hat with hat
      injection hat with _ hat
      rw [← hat, ← hf]; rfl
  rw [hc]
  exact hK
theorem wpList_work_put (w : World) (hg : o.guard = none) (m x v : Operand) (t : TypeId) (hop : o.op = Op.mapUpdate t m x v) (ht : Try.prog.underlying t = some (.map 23 3)) (mb n cnt : Nat) (f : Int → Option Int) (hm : a.eval m = .map (some mb)) (H : MapV (plainElem Try.prog 3) w mb n f cnt) (hn : n < maxLen) (key : Int) (hwf : (Lit.int .u64 key).wf = true) (hx : a.eval x = .int .u64 key)
    (val : Int) (hv : a.eval v = .int .i64 val) (hwv : (Lit.int .i64 val).wf = true) (g : Int → Option Int) (hgf : ∀ y, g y = if y = key then some val else f y) (c2 : Nat) (hc2 : c2 = if (f key).isSome = true then cnt else cnt + 1)
    (hK : ∀ w', MapV (plainElem Try.prog 3) w' mb (n + 1) g c2 → w.grownBy w' (some mb) → wpList Try.prog ops Q rest (a.put o.dst undef) w') : wpList Try.prog ops Q (o :: rest) a w := by
  refine wpList_mapv_put w hg m x v t 3 hop ht mb n cnt f hm H hn key hwf hx _ hv val [] (intElem_mk hwv) (fun w' h1 h2 => hK w' ?_ h2)
  rw [← hc2] at h1
  exact h1.congr rfl (fun y _ => hgf y)
theorem wpList_work_del (w : World) (hg : o.guard = none) (m x : Operand) (t : TypeId) (hop : o.op = Op.call { callee := Callee.builtin Builtin.delete, args := #[m, x], argTypes := #[t, 23] }) (ht : Try.prog.underlying t = some (.map 23 3)) (mb n : Nat) (T : List Int) (key : Int) (hT : T.count key = 0) (hm : a.eval m = .map (some mb)) (H : MapV (plainElem Try.prog 3) w mb n (wcz T key) (dc T + 1)) (hwf : (Lit.int .u64 key).wf = true) (hx : a.eval x = .int .u64 key)
    (hK : ∀ w', MapV (plainElem Try.prog 3) w' mb n (wcf T) (dc T) → w.grownBy w' (some mb) → wpList Try.prog ops Q rest (a.put o.dst (.tuple #[])) w') : wpList Try.prog ops Q (o :: rest) a w := by
  refine wpList_mapv_delete w hg m x t 3 hop ht mb n (dc T + 1) (wcz T key) hm H key hwf hx (fun w' h1 h2 => hK w' ?_ h2)
  rw [show (wcz T key key).isSome = true by unfold wcz; rw [if_pos rfl]; rfl, if_pos rfl, Nat.add_sub_cancel] at h1
  exact h1.congr rfl (fun y _ => del_fun T key y hT)
end
structure WSt (w : World) (L : List Int) (n mb i : Nat) (wr : World) : Prop where
  below : Below w.heap.size w wr
  mb0 : w.heap.size ≤ mb
  map : ∃ nn, nn ≤ 2 * i ∧ MapV (plainElem Try.prog 3) wr mb nn (wcf (win L n i)) (dc (win L n i))
theorem WSt.next {w : World} {L : List Int} {n mb i : Nat} {wr w' : World} (H : WSt w L n mb i wr) (hg : wr.grownBy w' (some mb)) {nn : Nat} (hn : nn ≤ 2 * (i + 1)) (hm : MapV (plainElem Try.prog 3) w' mb nn (wcf (win L n (i + 1))) (dc (win L n (i + 1)))) : WSt w L n mb (i + 1) w' :=
  ⟨H.below.grown hg H.below.size (fun k hk => by cases hk; exact H.mb0), H.mb0, nn, hn, hm⟩
theorem below_g {w wr w' : World} {mb : Nat} (hb : Below w.heap.size w wr) (h0 : w.heap.size ≤ mb) (hg : wr.grownBy w' (some mb)) : Below w.heap.size w w' := hb.grown hg hb.size (fun k hk => by cases hk; exact h0)
theorem mx_eq (L : List Int) (n i : Nat) : (if ((wm L n i : Nat) : Int) < ((dc (win L n (i + 1)) : Nat) : Int) then ((dc (win L n (i + 1)) : Nat) : Int) else ((wm L n i : Nat) : Int)) = ((wm L n (i + 1) : Nat) : Int) := by
  simp only [wm]
  split <;> omega
set_option maxHeartbeats 4000000 in
set_option maxRecDepth 100000 in
theorem work_walk (A : Option Addr) (c : Nat) (L : List Int) (hL : L.length ≤ 1024) (hwf : ∀ x ∈ L, (Lit.int .u64 x).wf = true) (n : Nat) (hn : 1 ≤ n) (w : World) (hC : Kd.C (Kd.int .u64) w A L.length L) (hc : L.length ≤ c) :
    Calls Try.prog 22 #[.slice A L.length c, .int .i64 n] w fun e w' => e = .returned (.tuple #[.int .i64 ((wm L n L.length : Nat) : Int), .int .i64 ((wsum L n L.length : Nat) : Int), .int .i64 0]) ∧ Below w.heap.size w w' := by
  have HC := Aside0.mk hC
  have HWF := Aside0.mk hwf
  obtain ⟨ln, hln⟩ : ∃ ln, L.length = ln := ⟨_, rfl⟩
  have htl : Aside0 (∀ w', Kd.C (Kd.int .u64) w' A L.length L → Calls Try.prog 29 #[.slice A ln c] w' fun e w'' => e = .returned (.int .i64 0) ∧ Drawn0 w' w'') := ⟨fun w' h => by
    have := curve_tooLong.calls A c L 0 w' h hc (by unfold curve_tooLong.f; rw [if_neg (by omega)])
    rw [hln] at this
    exact this⟩
  rw [hln] at hL
  have hmm := @run_makeMap Try.prog
  have HL := Aside0.mk hL
  have HLN := Aside0.mk hln
  rw [hln]
  have hn1 : ¬ (n : Int) < 1 := by omega
  clear hC hc hwf hln
  go_enter Try.func22, Try.ntmps22
  go_upto_region 7 with (go_at_call 29; refine (htl.out _ HC.out).mono ?_; rintro e w1 ⟨rfl, ⟨n1, hn1⟩⟩; have B1 := Aside0.mk (show Below w.heap.size w w1 by rw [hn1]; exact pw_below_drewN (Below.refl _ _) n1); clear hn1)
  obtain ⟨w2, hw2⟩ : ∃ w2, w1.alloc (.map #[] 0) = w2 := ⟨_, rfl⟩
  have U2 : Below w1.heap.size w1 w2 := by rw [← hw2]; exact below_alloc (Below.refl _ _) _
  have M2 : w2.heap[w1.heap.size]? = some (.map #[] 0) := by rw [← hw2]; exact blk_new w1 _
  rw [hw2]
  clear hw2 hmm
  obtain ⟨mb, hmb⟩ : ∃ mb, w1.heap.size = mb := ⟨_, rfl⟩
  rw [hmb] at M2
  have D0 : WSt w L n mb 0 w2 := ⟨below_then B1.out B1.out.size U2, by rw [← hmb]; exact B1.out.size, 0, Nat.zero_le _, by rw [win_zero]; exact (MapV.new M2).congr rfl (fun x _ => by simp [wcf])⟩
  have SD0 := Aside0.mk D0
  rw [hmb]
  clear U2 M2 B1 D0 hmb
  go_wp2
  go_loopw [4, 5, 22] (fun v4 v5 idx wr => ∃ i : Nat, i ≤ ln ∧ idx = .int .i64 i ∧ v4 = .int .i64 ((wm L n i : Nat) : Int) ∧ v5 = .int .i64 ((wsum L n i : Nat) : Int) ∧ Aside0 (WSt w L n mb i wr)) (fun _ _ idx _ => ln - (intOf idx).toNat)
  case atStart => exact ⟨0, Nat.zero_le _, rfl, rfl, rfl, SD0⟩
  case round =>
    clear SD0
    rename_i v4 v5 idx wr
    obtain ⟨i, hi, rfl, rfl, rfl, HD⟩ := hrel
    by_cases hlt : i < ln
    · obtain ⟨ad, eA, k0⟩ := Kd.at_int (Kd.C_below HC.out HD.out.below) (i : Int) (by omega) (by rw [HLN.out]; omega)
      subst eA
      simp only [Int.toNat_natCast] at k0
      have m0 : (0 : Int) ≤ (i : Int) := by omega
      have m1 : (i : Int) < (ln : Int) := by omega
      have WFX := Aside0.mk (show (Lit.int .u64 (rd L (i : Int))).wf = true from HWF.out _ (by rw [rd_nat, List.getD_eq_getElem?_getD, List.getElem?_eq_getElem (by rw [HLN.out]; exact hlt)]; exact List.getElem_mem _))
      obtain ⟨nn, hnn, hm⟩ := HD.out.map
      have HM := Aside0.mk hm
      have NN := Aside0.mk hnn
      have HDW := Aside0.mk (dc_win L n (i + 1))
      have HMX := Aside0.mk (mx_eq L n i)
      have HSL := Aside0.mk (wsum_le L n i (by have := HL.out; omega))
      have HIL := Aside0.mk (show i < 1024 from by have := HL.out; omega)
      have HCL := Aside0.mk (show (win L n i).count (rd L (i : Int)) ≤ i from by
        have h1 : (win L n i).count (rd L (i : Int)) ≤ (win L n i).length := List.count_le_length
        have h2 : (win L n i).length ≤ i := by unfold win; rw [List.length_drop, List.length_take]; omega
        omega)
      obtain ⟨V1, hV1⟩ : ∃ V1, win L n i ++ [rd L (i : Int)] = V1 := ⟨_, rfl⟩
      obtain ⟨cv, hcv⟩ : ∃ cv : Int, (((win L n i).count (rd L (i : Int)) : Nat) : Int) = cv := ⟨_, rfl⟩
      have HF := Aside0.mk (show (wcf (win L n i) (rd L (i : Int))).getD 0 = cv by rw [wcf_getD, hcv])
      have HG1 := Aside0.mk (show ∀ y, wcf V1 y = if y = rd L (i : Int) then some (cv + 1) else wcf (win L n i) y from fun y => by rw [← hV1, inc_fun, ← hcv]; rfl)
      have HC1 := Aside0.mk (show dc V1 = if (wcf (win L n i) (rd L (i : Int))).isSome = true then dc (win L n i) else dc (win L n i) + 1 by rw [← hV1, inc_cnt])
      have hcb : 0 ≤ cv ∧ cv < 1024 := by have := HCL.out; omega
      have WFC := Aside0.mk (show (Lit.int .i64 (cv + 1)).wf = true from WalkArith.wf_i64 (by omega))
      have hw1 : wrap64 (cv + 1) = cv + 1 := cw64' (by omega) (by omega)
      have hw2 : IntKind.i64.wrap (cv + 1) = cv + 1 := by rw [IntKind.wrap_i64]; omega
      have NM := Aside0.mk (show nn + 1 < maxLen by unfold maxLen; have := HIL.out; omega)
      obtain ⟨dv, hdv⟩ : ∃ dv : Int, ((dc (win L n (i + 1)) : Nat) : Int) = dv := ⟨_, rfl⟩
      obtain ⟨sv, hsv⟩ : ∃ sv : Int, ((wsum L n i : Nat) : Int) = sv := ⟨_, rfl⟩
      have hs1 : wrap64 (sv + dv) = sv + dv := cw64' (by have := HSL.out; omega) (by have := HSL.out; have := HDW.out; have := HIL.out; omega)
      have hs2 : IntKind.i64.wrap (sv + dv) = sv + dv := by rw [IntKind.wrap_i64]; have := HSL.out; have := HDW.out; have := HIL.out; omega
      have HS := Aside0.mk (show sv + dv = ((wsum L n (i + 1) : Nat) : Int) by rw [← hsv, ← hdv]; simp only [wsum]; omega)
      rw [hdv] at HMX
      obtain ⟨mv, hmv⟩ : ∃ mv : Int, ((wm L n i : Nat) : Int) = mv := ⟨_, rfl⟩
      rw [hmv] at HMX
      rw [hmv, hsv]
      have HDV := Aside0.mk hdv
      have HV1 := Aside0.mk hV1
      clear hm hnn hcv hcb hdv hsv hmv hV1
      obtain ⟨h, hh⟩ : ∃ h, rd L (i : Int) = h := ⟨_, rfl⟩
      rw [hh] at k0 WFX HF HG1 HC1
      have HH := Aside0.mk hh
      clear hh
      by_cases hin : i < n
      · have hge : ¬ (i : Int) ≥ (n : Int) := by omega
        have hge2 : (i : Int) < (n : Int) := by omega
        have EV := Aside0.mk (show V1 = win L n (i + 1) by rw [← HV1.out, win_low L n i (by rw [HLN.out]; exact hlt) hin])
        go_wp2_with (first
          | (at_lookup; refine wpList_mapv_get _ rfl (.tmp 27) (.tmp 28) 43 rfl Try.underlying43 (zero3 _) mb nn (dc (win L n i)) (wcf (win L n i)) rfl HM.out h WFX.out rfl cv HF.out ?_)
          | (at_mapUpdate; refine wpList_work_put _ rfl (.tmp 27) (.tmp 28) (.tmp 30) 43 rfl Try.underlying43 mb nn (dc (win L n i)) (wcf (win L n i)) rfl HM.out (by have := NM.out; omega) h WFX.out rfl (cv + 1) rfl WFC.out (wcf V1) HG1.out (dc V1) HC1.out ?_; intro w3 hm3 hg3; rw [EV.out] at hm3; have M3 := Aside0.mk hm3; have D4 := Aside0.mk (HD.out.next hg3 (by have := NN.out; omega) hm3); clear hm3 hg3 k0)
          | (at_len; refine wpList_mapv_len _ rfl (.tmp 51) 43 3 rfl Try.underlying43 mb (nn + 1) _ _ rfl M3.out ?_; rw [HDV.out])
          | (at_len; refine wpList_mapv_len _ rfl (.tmp 55) 43 3 rfl Try.underlying43 mb (nn + 1) _ _ rfl M3.out ?_; rw [HDV.out]))
        go_roundw
        case rel => exact ⟨i + 1, by omega, by go_num, congrArg (Value.int .i64) HMX.out, congrArg (Value.int .i64) HS.out, D4⟩
        case measure => simp [intOf]; omega
      · have hge : (i : Int) ≥ (n : Int) := by omega
        have hge2 : ¬ (i : Int) < (n : Int) := by omega
        obtain ⟨p, hp⟩ : ∃ p, i - n = p := ⟨_, rfl⟩
        have hp1 : wrap64 ((i : Int) - (n : Int)) = (p : Int) := by rw [cw64' (by omega) (by omega)]; omega
        have hp2 : IntKind.i64.wrap ((i : Int) - (n : Int)) = (p : Int) := by rw [IntKind.wrap_i64]; omega
        have p0 : (0 : Int) ≤ (p : Int) := by omega
        have p1 : (p : Int) < (ln : Int) := by omega
        have ek := win_high L n i (by rw [HLN.out]; exact hlt) hn (by omega)
        rw [HV1.out, hp] at ek
        have WFO := Aside0.mk (show (Lit.int .u64 (rd L (p : Int))).wf = true from HWF.out _ (by rw [rd_nat, List.getD_eq_getElem?_getD, List.getElem?_eq_getElem (by rw [HLN.out]; omega)]; exact List.getElem_mem _))
        have KO := Aside0.mk (fun (wx : World) (hb : Below w.heap.size w wx) => Kd.at_int (Kd.C_below HC.out hb) (p : Int) (by omega) (by rw [HLN.out]; omega))
        obtain ⟨o, ho⟩ : ∃ o, rd L (p : Int) = o := ⟨_, rfl⟩
        rw [ho] at ek WFO KO
        have EK := Aside0.mk ek
        obtain ⟨T, hT⟩ : ∃ T, win L n (i + 1) = T := ⟨_, rfl⟩
        have HT := Aside0.mk hT
        rw [hT] at ek HDV
        subst ek
        have PP := Aside0.mk hp
        obtain ⟨tv, htv⟩ : ∃ tv : Int, ((T.count o : Nat) : Int) = tv := ⟨_, rfl⟩
        have HTL := Aside0.mk (show T.count o ≤ 1024 from by
          have h1 : T.count o ≤ T.length := List.count_le_length
          have h2 : T.length ≤ i + 1 := by rw [← HT.out]; unfold win; rw [List.length_drop, List.length_take]; omega
          have := HIL.out; omega)
        have hF2 : (wcf (o :: T) o).getD 0 = tv + 1 := by rw [wcf_getD, List.count_cons_self, ← htv]; rfl
        have hv1 : wrap64 (tv + 1 - 1) = tv := by rw [cw64' (by have := HTL.out; omega) (by have := HTL.out; omega)]; omega
        have hv2 : IntKind.i64.wrap (tv + 1 - 1) = tv := by rw [IntKind.wrap_i64]; have := HTL.out; omega
        have WFT := Aside0.mk (show (Lit.int .i64 tv).wf = true from WalkArith.wf_i64 (by have := HTL.out; omega))
        have HF2 := Aside0.mk hF2
        clear hT hF2 ho hp
        by_cases hz : T.count o = 0
        · have tz : tv = 0 := by omega
          subst tz
          have HZ := Aside0.mk hz
          have HG2 := Aside0.mk (zer_fun T o)
          have HC2 := Aside0.mk (zer_cnt T o hz)
          have HF3 := Aside0.mk (show (wcz T o o).getD 0 = 0 by unfold wcz; rw [if_pos rfl]; rfl)
          clear hz htv
          go_wp2_with (first
            | (at_lookup; refine wpList_mapv_get _ rfl (.tmp 27) (.tmp 28) 43 rfl Try.underlying43 (zero3 _) mb nn (dc (win L n i)) (wcf (win L n i)) rfl HM.out h WFX.out rfl cv HF.out ?_)
            | (at_mapUpdate; refine wpList_work_put _ rfl (.tmp 27) (.tmp 28) (.tmp 30) 43 rfl Try.underlying43 mb nn (dc (win L n i)) (wcf (win L n i)) rfl HM.out (by have := NM.out; omega) h WFX.out rfl (cv + 1) rfl WFC.out (wcf (o :: T)) HG1.out (dc (o :: T)) HC1.out ?_; intro w3 hm3 hg3; have M3 := Aside0.mk hm3; have G3 := Aside0.mk hg3; have B3 := Aside0.mk (below_g HD.out.below HD.out.mb0 hg3); obtain ⟨ad2, eA2, k2⟩ := KO.out w3 B3.out; cases eA2; simp only [Int.toNat_natCast] at k2; clear hm3 hg3 k0)
            | (at_lookup; refine wpList_mapv_get _ rfl (.tmp 40) (.tmp 41) 43 rfl Try.underlying43 (zero3 _) mb (nn + 1) (dc (o :: T)) (wcf (o :: T)) rfl M3.out o WFO.out rfl (0 + 1) HF2.out ?_)
            | (at_mapUpdate; refine wpList_work_put _ rfl (.tmp 40) (.tmp 41) (.tmp 43) 43 rfl Try.underlying43 mb (nn + 1) (dc (o :: T)) (wcf (o :: T)) rfl M3.out NM.out o WFO.out rfl 0 rfl WFT.out (wcz T o) HG2.out (dc T + 1) HC2.out ?_; intro w4 hm4 hg4; have M4 := Aside0.mk hm4; have G4 := Aside0.mk hg4; clear hm4 hg4 k2)
            | (at_lookup; refine wpList_mapv_get _ rfl (.tmp 44) (.tmp 45) 43 rfl Try.underlying43 (zero3 _) mb (nn + 1 + 1) (dc T + 1) (wcz T o) rfl M4.out o WFO.out rfl 0 HF3.out ?_)
            | (at_delete; refine wpList_work_del _ rfl (.tmp 48) (.tmp 49) 43 rfl Try.underlying43 mb (nn + 1 + 1) T o HZ.out rfl M4.out WFO.out rfl ?_; intro w5 hm5 hg5; have M5 := Aside0.mk hm5; have D5 := Aside0.mk (show WSt w L n mb (i + 1) w5 from ⟨below_g (below_g B3.out HD.out.mb0 G4.out) HD.out.mb0 hg5, HD.out.mb0, nn + 1 + 1, by have := NN.out; omega, by rw [HT.out]; exact hm5⟩); clear hm5 hg5)
            | (at_len; refine wpList_mapv_len _ rfl (.tmp 51) 43 3 rfl Try.underlying43 mb (nn + 1 + 1) _ _ rfl M5.out ?_; rw [HDV.out])
            | (at_len; refine wpList_mapv_len _ rfl (.tmp 55) 43 3 rfl Try.underlying43 mb (nn + 1 + 1) _ _ rfl M5.out ?_; rw [HDV.out]))
          go_roundw
          case rel => exact ⟨i + 1, by omega, by go_num, congrArg (Value.int .i64) HMX.out, congrArg (Value.int .i64) HS.out, D5⟩
          case measure => simp [intOf]; omega
        · have tz : ¬ tv = 0 := by omega
          have hv3 : wrap64 tv = tv := by rw [cw64' (by have := HTL.out; omega) (by have := HTL.out; omega)]
          have hv4 : IntKind.i64.wrap tv = tv := by rw [IntKind.wrap_i64]; have := HTL.out; omega
          have HZ := Aside0.mk hz
          have HG2 := Aside0.mk (show ∀ y, wcf T y = if y = o then some tv else wcf (o :: T) y from fun y => by rw [← htv]; exact dec_fun T o y (by omega))
          have HC2 := Aside0.mk (dec_cnt T o (by omega))
          have HF3 := Aside0.mk (show (wcf T o).getD 0 = tv by rw [wcf_getD, htv])
          clear hz htv
          go_wp2_with (first
            | (at_lookup; refine wpList_mapv_get _ rfl (.tmp 27) (.tmp 28) 43 rfl Try.underlying43 (zero3 _) mb nn (dc (win L n i)) (wcf (win L n i)) rfl HM.out h WFX.out rfl cv HF.out ?_)
            | (at_mapUpdate; refine wpList_work_put _ rfl (.tmp 27) (.tmp 28) (.tmp 30) 43 rfl Try.underlying43 mb nn (dc (win L n i)) (wcf (win L n i)) rfl HM.out (by have := NM.out; omega) h WFX.out rfl (cv + 1) rfl WFC.out (wcf (o :: T)) HG1.out (dc (o :: T)) HC1.out ?_; intro w3 hm3 hg3; have M3 := Aside0.mk hm3; have G3 := Aside0.mk hg3; have B3 := Aside0.mk (below_g HD.out.below HD.out.mb0 hg3); obtain ⟨ad2, eA2, k2⟩ := KO.out w3 B3.out; cases eA2; simp only [Int.toNat_natCast] at k2; clear hm3 hg3 k0)
            | (at_lookup; refine wpList_mapv_get _ rfl (.tmp 40) (.tmp 41) 43 rfl Try.underlying43 (zero3 _) mb (nn + 1) (dc (o :: T)) (wcf (o :: T)) rfl M3.out o WFO.out rfl (tv + 1) HF2.out ?_)
            | (at_mapUpdate; refine wpList_work_put _ rfl (.tmp 40) (.tmp 41) (.tmp 43) 43 rfl Try.underlying43 mb (nn + 1) (dc (o :: T)) (wcf (o :: T)) rfl M3.out NM.out o WFO.out rfl tv rfl WFT.out (wcf T) HG2.out (dc T) HC2.out ?_; intro w4 hm4 hg4; have M4 := Aside0.mk hm4; have D4 := Aside0.mk (show WSt w L n mb (i + 1) w4 from ⟨below_g B3.out HD.out.mb0 hg4, HD.out.mb0, nn + 1 + 1, by have := NN.out; omega, by rw [HT.out]; exact hm4⟩); clear hm4 hg4 k2)
            | (at_lookup; refine wpList_mapv_get _ rfl (.tmp 44) (.tmp 45) 43 rfl Try.underlying43 (zero3 _) mb (nn + 1 + 1) (dc T) (wcf T) rfl M4.out o WFO.out rfl tv HF3.out ?_)
            | (at_len; refine wpList_mapv_len _ rfl (.tmp 51) 43 3 rfl Try.underlying43 mb (nn + 1 + 1) _ _ rfl M4.out ?_; rw [HDV.out])
            | (at_len; refine wpList_mapv_len _ rfl (.tmp 55) 43 3 rfl Try.underlying43 mb (nn + 1 + 1) _ _ rfl M4.out ?_; rw [HDV.out]))
          go_roundw
          case rel => exact ⟨i + 1, by omega, by go_num, congrArg (Value.int .i64) HMX.out, congrArg (Value.int .i64) HS.out, D4⟩
          case measure => simp [intOf]; omega
    · obtain rfl : i = ln := by omega
      have B1 := Aside0.mk HD.out.below
      go_wp2
      go_ret3
      exact ⟨rfl, B1.out⟩
/-- What Working answers. -/
def workF (l0 : List Int) (n : Int) : Option (Int × Int × Int) := if (l0.length : Int) > 1024 then some (0, 0, 270) else if n < 1 then some (0, 0, 1) else if ∀ x ∈ l0, (Lit.int .u64 x).wf = true then some (((wm l0 n.toNat l0.length : Nat) : Int), ((wsum l0 n.toNat l0.length : Nat) : Int), 0) else none
set_option maxHeartbeats 4000000 in
set_option maxRecDepth 100000 in
theorem work_long (A : Option Addr) (c ln : Nat) (a1 : Int) (w : World) (h : ∀ w', Below w.heap.size w w' → Calls Try.prog 29 #[.slice A ln c] w' fun e w'' => e = .returned (.int .i64 270) ∧ Drawn0 w' w'') :
    Calls Try.prog 22 #[.slice A ln c, .int .i64 a1] w fun e w' => e = .returned (.tuple #[.int .i64 0, .int .i64 0, .int .i64 270]) ∧ Below w.heap.size w w' := by
  have H := Aside0.mk h
  clear h
  go_enter Try.func22, Try.ntmps22
  go_wp2_with (go_at_call 29; refine (H.out w (Below.refl _ _)).mono ?_; rintro e w1 ⟨rfl, ⟨n1, hn1⟩⟩; have B1 := Aside0.mk (show Below w.heap.size w w1 by rw [hn1]; exact pw_below_drewN (Below.refl _ _) n1); clear hn1)
  go_ret3
  exact ⟨rfl, B1.out⟩
set_option maxHeartbeats 4000000 in
set_option maxRecDepth 100000 in
theorem work_arg (A : Option Addr) (c ln : Nat) (a1 : Int) (ha : a1 < 1) (w : World) (h : ∀ w', Below w.heap.size w w' → Calls Try.prog 29 #[.slice A ln c] w' fun e w'' => e = .returned (.int .i64 0) ∧ Drawn0 w' w'') :
    Calls Try.prog 22 #[.slice A ln c, .int .i64 a1] w fun e w' => e = .returned (.tuple #[.int .i64 0, .int .i64 0, .int .i64 1]) ∧ Below w.heap.size w w' := by
  have H := Aside0.mk h
  clear h
  go_enter Try.func22, Try.ntmps22
  go_wp2_with (go_at_call 29; refine (H.out w (Below.refl _ _)).mono ?_; rintro e w1 ⟨rfl, ⟨n1, hn1⟩⟩; have B1 := Aside0.mk (show Below w.heap.size w w1 by rw [hn1]; exact pw_below_drewN (Below.refl _ _) n1); clear hn1)
  go_ret3
  exact ⟨rfl, B1.out⟩
theorem work_calls (A0 : Option Addr) (c0 : Nat) (l0 : List Int) (a1 : Int) (r1 r2 r3 : Int) (w : World) (hr0 : Kd.C (Kd.int .u64) w A0 l0.length l0) (hc0 : l0.length ≤ c0) (h : workF l0 a1 = some (r1, r2, r3)) :
    Calls Try.prog 22 #[.slice A0 l0.length c0, .int .i64 a1] w fun e w' => e = .returned (.tuple #[.int .i64 r1, .int .i64 r2, .int .i64 r3]) ∧ Below w.heap.size w w' := by
  unfold workF at h
  by_cases c : (l0.length : Int) > 1024
  · rw [if_pos c] at h
    injection h with h; injection h with h1 h2; injection h2 with h2 h3; subst h1 h2 h3
    exact work_long A0 c0 l0.length a1 w (long_call A0 c0 l0 w hr0 hc0 c)
  · rw [if_neg c] at h
    have hs : ∀ w', Below w.heap.size w w' → Calls Try.prog 29 #[.slice A0 l0.length c0] w' fun e w'' => e = .returned (.int .i64 0) ∧ Drawn0 w' w'' :=
      fun w' hb => curve_tooLong.calls A0 c0 l0 0 w' (Kd.C_below hr0 hb) hc0 (by unfold curve_tooLong.f; rw [if_neg c])
    by_cases c2 : a1 < 1
    · rw [if_pos c2] at h
      injection h with h; injection h with h1 h2; injection h2 with h2 h3; subst h1 h2 h3
      exact work_arg A0 c0 l0.length a1 c2 w hs
    · rw [if_neg c2] at h
      by_cases hw : ∀ x ∈ l0, (Lit.int .u64 x).wf = true
      · rw [if_pos hw] at h
        injection h with h; injection h with h1 h2; injection h2 with h2 h3; subst h1 h2 h3
        have := work_walk A0 c0 l0 (by omega) hw a1.toNat (by omega) w hr0 hc0
        rw [Int.toNat_of_nonneg (by omega)] at this
        exact this
      · rw [if_neg hw] at h; cases h
end Go.Proofs.Yteaidghanfjigaa.QCurveCurves
