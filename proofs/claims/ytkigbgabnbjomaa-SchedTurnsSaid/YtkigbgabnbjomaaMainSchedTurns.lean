/- The law SchedTurns, walked by hand; and the call.
   No condition. -/
import Derived.Test.YtkigbgabnbjomaaSchH
import Derived.ArgAppend
import Derived.BigRegion
import Derived.Deep.QuietTactic
import Derived.BigQuiet
import Derived.Deep.RegionHeld3
import Derived.ChangeAlike
import Derived.RegionTactic
import Derived.Deep.DeepCutAuto
import Derived.Deep.CutBlock
import Derived.Deep.RegionLaw
import Derived.StillTailTactics
import Derived.WalkSpells
import Derived.Lib.SliceRun
namespace Go.Proofs.Ytkigbgabnbjomaa.Sched
open Go.Proofs.Ytkigbgabnbjomaa.PSchedPlays
open Go.RowKit Go.Proofs.YtkigbgabnbjomaaW.PrintWords Go.Proofs.YtkigbgabnbjomaaW.PrintLast Go.Proofs.YtkigbgabnbjomaaW.PrintMore
attribute [local go_sem] max2_int min2_int max_two min_two   -- for this text's walks alone
set_option linter.unusedVariables false
set_option linter.unusedSimpArgs false
/-! ### The document's turn -/
def Turned (w : World) (x : S26) (en : Ending) (w' : World) : Prop := ∃ A c, en = .returned (.agg #[.bool x.f0, .bool x.f1, .slice A x.f2.length c]) ∧ (Kd.int .i64).C w' A x.f2.length x.f2 ∧ Below w.heap.size w w'
set_option maxHeartbeats 4000000 in
set_option maxRecDepth 100000 in
theorem turn_walk {w : World} {A : Option Addr} {c : Nat} {turns : List S26} (hC : k26.C w A turns.length turns) (k : Nat) (hk : (k : Int) ≤ 9223372036854775807) :
    Calls Try.prog 13 #[.slice A turns.length c, .int .i64 (k : Int)] w (Turned w (pTurn turns k)) := by
  have hmax := hC.2.1
  have HC := Aside0.mk hC
  obtain ⟨n, hn⟩ : ∃ n, turns.length = n := ⟨_, rfl⟩
  have HN := Aside0.mk hn
  rw [hn] at hmax HC
  rw [hn]
  rcases Nat.eq_zero_or_pos n with h0 | h0
  · have e : pTurn turns k = ⟨true, false, []⟩ := by unfold pTurn; rw [if_pos (by omega)]
    rw [e]
    subst h0
    clear hn hC e
    go_enter Try.func13, Try.ntmps13
    go_wp2
    refine bodyPost_ret (results_c rfl _ _ w.heap.size 26 #[.bool true, .bool false, .slice none 0 0] (0, 0) _ rfl (blk_new w _) Try.underlying26 rfl (by kernel_rfl)) rfl ?_
    exact ⟨none, 0, rfl, ⟨rfl, by decide, fun h => absurd h (by decide)⟩, below_alloc (Below.refl _ _) _⟩
  · by_cases hkn : k < n - 1
    · obtain ⟨ad, A2, c2, ead, x0, x1, x2, lx, Cx⟩ := at_T26 HC.out (k : Int) (by omega) (by omega)
      obtain ⟨x, hx⟩ : ∃ x, rd_T26 turns (k : Int) = x := ⟨_, rfl⟩
      rw [hx] at x0 x1 x2 lx Cx
      have e : pTurn turns k = x := by
        unfold pTurn
        rw [if_neg (by omega), hn, if_pos hkn]
        rw [← hx]
        simp only [rd_T26, Int.toNat_natCast]
        have : decide (k = n - 1) = false := decide_eq_false (by omega)
        rw [this, Bool.or_false]
      rw [e]
      subst ead
      simp only [Int.toNat_natCast] at x0 x1 x2
      have HCx := Aside0.mk Cx
      have g1 : decide ((n : Int) - 1 ≤ (k : Int)) = false := decide_eq_false (by omega)
      have g2 : ((n : Int) == 0) = false := by rw [beq0]; simp; omega
      have g3 : decide ((k : Int) < (n : Int)) = true := decide_eq_true (by omega)
      have hn0 : (0 : Int) ≤ (n : Int) - 1 := by omega
      clear hn hC e hx Cx lx
      go_enter Try.func13, Try.ntmps13
      go_upto_region 1 with (fail)
      obtain ⟨w1, hw1⟩ : ∃ w1, w.alloc (.cells #[.bool false, .bool false, .slice none 0 0] 26) = w1 := ⟨_, rfl⟩
      obtain ⟨g, hg⟩ : ∃ g, w.heap.size = g := ⟨_, rfl⟩
      rw [hw1, hg]
      have bg : w1.heap[g]? = some (.cells #[.bool false, .bool false, .slice none 0 0] 26 (0, 0)) := by rw [← hw1, ← hg]; exact blk_new _ _
      have B1 : Aside0 (Below w.heap.size w w1) := ⟨by rw [← hw1]; exact below_alloc (Below.refl _ _) _⟩
      have BG := Aside0.mk bg
      have j0 := blk_cell bg 0
      have j1 := blk_cell bg 1
      have j2 := blk_cell bg 2
      have l0 := blk_frozen bg 0
      have l1 := blk_frozen bg 1
      have l2 := blk_frozen bg 2
      have hgl := blk_lt bg
      have y0 := pw_cell_below B1.out x0
      have y1 := pw_cell_below B1.out x1
      have y2 := pw_cell_below B1.out x2
      have HG := Aside0.mk hg
      clear bg hw1 hg x0 x1 x2
      go_wp2
      refine bodyPost_ret (results_c rfl _ _ g 26 #[.bool x.f0, .bool x.f1, .slice A2 x.f2.length c2] (0, 0) _ rfl (put3 BG.out _ _ _) Try.underlying26 rfl (by kernel_rfl)) rfl ?_
      exact ⟨_, _, rfl, Kd.C_below HCx.out (below3 B1.out (Nat.le_of_eq HG.out) _ _ _), below3 B1.out (Nat.le_of_eq HG.out) _ _ _⟩
    · obtain ⟨ad, A2, c2, ead, x0, x1, x2, lx, Cx⟩ := at_T26 HC.out ((n - 1 : Nat) : Int) (by omega) (by omega)
      obtain ⟨x, hx⟩ : ∃ x, rd_T26 turns ((n - 1 : Nat) : Int) = x := ⟨_, rfl⟩
      rw [hx] at x0 x1 x2 lx Cx
      have e : pTurn turns k = ⟨true, x.f1, x.f2⟩ := by
        unfold pTurn
        rw [if_neg (by omega), hn, if_neg hkn]
        rw [← hx]
        simp only [rd_T26, Int.toNat_natCast]
        simp
      rw [e]
      subst ead
      simp only [Int.toNat_natCast] at x0 x1 x2
      obtain ⟨m, hm⟩ : ∃ m, n = m + 1 := ⟨n - 1, by omega⟩
      subst hm
      simp only [Nat.add_sub_cancel] at x0 x1 x2 hkn
      have HCx := Aside0.mk Cx
      have g1 : decide ((m : Int) ≤ (k : Int)) = true := decide_eq_true (by omega)
      have gm : ((m + 1 : Nat) : Int) - 1 = (m : Int) := by omega
      have g3 : decide ((m : Int) < ((m + 1 : Nat) : Int)) = true := decide_eq_true (by omega)
      clear hn hC e hx Cx lx
      go_enter Try.func13, Try.ntmps13
      go_upto_region 1 with (fail)
      obtain ⟨w1, hw1⟩ : ∃ w1, w.alloc (.cells #[.bool false, .bool false, .slice none 0 0] 26) = w1 := ⟨_, rfl⟩
      obtain ⟨g, hg⟩ : ∃ g, w.heap.size = g := ⟨_, rfl⟩
      rw [hw1, hg]
      have bg : w1.heap[g]? = some (.cells #[.bool false, .bool false, .slice none 0 0] 26 (0, 0)) := by rw [← hw1, ← hg]; exact blk_new _ _
      have B1 : Aside0 (Below w.heap.size w w1) := ⟨by rw [← hw1]; exact below_alloc (Below.refl _ _) _⟩
      have BG := Aside0.mk bg
      have j0 := blk_cell bg 0
      have j1 := blk_cell bg 1
      have j2 := blk_cell bg 2
      have l0 := blk_frozen bg 0
      have l1 := blk_frozen bg 1
      have l2 := blk_frozen bg 2
      have hgl := blk_lt bg
      have y0 := pw_cell_below B1.out x0
      have y1 := pw_cell_below B1.out x1
      have y2 := pw_cell_below B1.out x2
      have HG := Aside0.mk hg
      clear bg hw1 hg x0 x1 x2
      go_wp2
      refine bodyPost_ret (results_c rfl _ _ g 26 #[.bool true, .bool x.f1, .slice A2 x.f2.length c2] (0, 0) _ rfl (blk_alloc (put3 BG.out _ _ _) _) Try.underlying26 rfl (by kernel_rfl)) rfl ?_
      exact ⟨_, _, rfl, Kd.C_below HCx.out (below_alloc (below3 B1.out (Nat.le_of_eq HG.out) _ _ _) _), below_alloc (below3 B1.out (Nat.le_of_eq HG.out) _ _ _) _⟩
/-! ### Turns of one's own, whose rows are written -/
def Loose (w : World) (base hi g : Nat) (cs : Array Value) (ls : List Nat) : Prop :=
  w.heap[g]? = some (.cells cs 26 (0, 0)) ∧ base ≤ g ∧ g < hi ∧ ∀ i, i < ls.length → ∃ A c, cs[i * 3 + 2]? = some (.slice A (ls.getD i 0) c) ∧ (0 < ls.getD i 0 → ∃ b cur, A = some ⟨b, 0, none⟩ ∧ base ≤ b ∧ b < hi ∧ w.heap[b]? = some (.cells cur 3 (0, 0)) ∧ ls.getD i 0 ≤ cur.size)
theorem loose_of {w : World} {base : Nat} {ok : Nat → Prop} {v : Value} {xs : List S26} (h : k26.R 26 w base ok v xs) (hn : 0 < xs.length) : ∃ g c cs, v = .slice (some ⟨g, 0, none⟩) xs.length c ∧ Loose w base w.heap.size g cs (xs.map fun x => x.f2.length) := by
  obtain ⟨_, inner, ⟨hl, h2⟩, hr⟩ := h
  rcases h2 with ⟨_, h0⟩ | ⟨g, cap, cur, hv, hb, hh, hnc, hcm, hcs, htake⟩
  · omega
  · rw [show k26.sz = 3 from rfl] at htake hcs
    refine ⟨g, cap, cur, hv, hh, hb, blk_lt hh, fun i hi => ?_⟩
    rw [List.length_map] at hi
    have hx : xs[i]? = some xs[i] := List.getElem?_eq_getElem hi
    obtain ⟨v2, hc, hR⟩ := k26_openM (hr.2 i xs[i] hx)
    have hin : inner[i * 3 + 2]? = some v2 := by
      have h3 : ((inner.drop (i * 3)).take 3)[2]? = some v2 := by rw [show ((inner.drop (i * 3)).take 3) = [.bool xs[i].f0, .bool xs[i].f1, v2] from hc]; rfl
      rw [List.getElem?_take_of_lt (by decide), List.getElem?_drop] at h3
      exact h3
    have hcur : cur[i * 3 + 2]? = some v2 := by
      rw [← htake, List.getElem?_take_of_lt (by omega)] at hin
      rw [← Array.getElem?_toList]
      exact hin
    have hlen : (xs.map fun x => x.f2.length).getD i 0 = xs[i].f2.length := by
      rw [List.getD_eq_getElem?_getD, List.getElem?_map, hx]; rfl
    rw [hlen]
    obtain ⟨_, inner2, ⟨hl2, h4⟩, _⟩ := hR
    rcases h4 with ⟨e, e0⟩ | ⟨g2, cap2, cur2, e, hb2, hh2, hnc2, _, hcs2, _⟩
    · refine ⟨none, 0, by rw [hcur, e, e0], fun hp => by omega⟩
    · exact ⟨some ⟨g2, 0, none⟩, cap2, by rw [hcur, e], fun _ => ⟨g2, cur2, rfl, hb2, blk_lt hh2, hh2, by rw [hcs2]; show _ ≤ cap2 * 1; omega⟩⟩
theorem Loose.below {w w1 : World} {base hi g : Nat} {cs : Array Value} {ls : List Nat} (h : Loose w base hi g cs ls) (hb : Below w.heap.size w w1) : Loose w1 base hi g cs ls := by
  obtain ⟨h1, h2, h3, h4⟩ := h
  refine ⟨blk_below h1 hb, h2, h3, fun i hi => ?_⟩
  obtain ⟨A, c, h5, h6⟩ := h4 i hi
  refine ⟨A, c, h5, fun hp => ?_⟩
  obtain ⟨b, cur, e, g1, g2, g3, g4⟩ := h6 hp
  exact ⟨b, cur, e, g1, g2, blk_below g3 hb, g4⟩
theorem Loose.set {w : World} {base hi g b k : Nat} {cs cur : Array Value} {ls : List Nat} (h : Loose w base hi g cs ls) (hb : w.heap[b]? = some (.cells cur 3 (0, 0))) (u : Value) : Loose (w.setCell ⟨b, k, none⟩ u) base hi g cs ls := by
  obtain ⟨h1, h2, h3, h4⟩ := h
  refine ⟨blk_far h1 (p := ⟨b, k, none⟩) (blk_ne h1 hb (by decide)) u, h2, h3, fun i hi => ?_⟩
  obtain ⟨A, c, h5, h6⟩ := h4 i hi
  refine ⟨A, c, h5, fun hp => ?_⟩
  obtain ⟨b', cur', e, g1, g2, g3, g4⟩ := h6 hp
  by_cases hbb : b' = b
  · subst hbb
    exact ⟨b', _, e, g1, g2, blk_put g3 k u rfl, by rw [Array.size_setIfInBounds]; exact g4⟩
  · exact ⟨b', cur', e, g1, g2, blk_far g3 (p := ⟨b, k, none⟩) hbb u, g4⟩
def WokenSt (W : World) (pb bx wz : Nat) (turns : List S26) (l : List Int) (d0 d1 : Bool) (Av : Option Addr) (n cv : Nat) (wr : World) : Prop := ∃ (f : Owner) (ys : List Int), (Kd.int .i64).R 3 wr wz (fun k => wz ≤ k ∧ f k = wz) (.slice Av n cv) ys ∧ PlayAt W.heap.size f wr pb turns l ∧ Below W.heap.size W wr ∧ wr.heap[bx]? = some (.cells #[.bool d0, .bool d1, .slice Av n cv] 26 (0, 0))
def TasksSt (W : World) (pb : Nat) (turns : List S26) (l : List Int) (wr : World) : Prop := ∃ f, PlayAt W.heap.size f wr pb turns l ∧ Below W.heap.size W wr
def OwnSt (W wr : World) (vo : Value) (xs : List S26) : Prop := k26.R 26 wr W.heap.size (fun b => W.heap.size ≤ b) vo xs ∧ Below W.heap.size W wr
set_option maxHeartbeats 8000000 in
set_option maxRecDepth 100000 in
theorem law_Turns (W : World) (A0 : Option Addr) (c0 : Nat) (turns : List S26) (A1 : Option Addr) (c1 : Nat) (tasks : List Int) (hC0 : k26.C W A0 turns.length turns) (hs : turns.length * 32 ≤ 140737488351232) (hw : ∀ x ∈ turns, x.f2.length * 8 ≤ 140737488351232) (hC1 : (Kd.int .i64).C W A1 tasks.length tasks) (hl1 : tasks.length * 8 ≤ 140737488351232) :
    Calls Try.prog 3 #[.slice A0 turns.length c0, .slice A1 tasks.length c1] W fun e w' => e = .returned (.bool true) ∧ Below W.heap.size W w' := by
  have q27 := some27
  have HC0 := Aside0.mk hC0
  have HC1 := Aside0.mk hC1
  have HS := Aside0.mk hs
  have HW := Aside0.mk hw
  have HL1 := Aside0.mk hl1
  obtain ⟨n, hn⟩ : ∃ n, turns.length = n := ⟨_, rfl⟩
  have HN := Aside0.mk hn
  obtain ⟨m, hm⟩ : ∃ m, tasks.length = m := ⟨_, rfl⟩
  have HM := Aside0.mk hm
  have hn32 : n * 32 ≤ 140737488351232 := by rw [← hn]; exact hs
  have hm8 : m * 8 ≤ 140737488351232 := by rw [← hm]; exact hl1
  rw [hn, hm]
  clear hC0 hs hw hC1 hl1 hn hm
  go_enter Try.func3, Try.ntmps3
  go_upto_region 4 with (go_at_call 9; refine (lives_walk _).mono ?_; rintro e w1 ⟨rfl, hb⟩; have B1 := Aside0.mk hb; clear hb)
  have S0 : Aside0 (OwnSt W w1 (.slice none 0 0) (turns.take 0)) := ⟨Kd.R_nil _ _ _ _ _, B1.out⟩
  go_wp2
  go_loopw [5, 6] (fun vo idx wr => ∃ i : Nat, i ≤ n ∧ idx = .int .i64 (i : Int) ∧ Aside0 (OwnSt W wr vo (turns.take i))) (fun _ idx _ => n - (intOf idx).toNat)
  case atStart => exact ⟨0, Nat.zero_le _, rfl, S0⟩
  case round =>
    obtain ⟨i, hi, rfl, SI⟩ := hrel
    by_cases hlt : i < n
    · obtain ⟨vo, hvo⟩ : ∃ vo, u5 = vo := ⟨_, rfl⟩
      obtain ⟨Ao, co, hv⟩ := Kd.R_slice SI.out.1
      rw [List.length_take, Nat.min_eq_left (by have := HN.out; omega)] at hv
      subst hvo
      subst hv
      obtain ⟨ad, A2, c2, ead, x0, x1, x2, lx, Cx⟩ := at_T26 (Kd.C_below HC0.out SI.out.2) (i : Int) (by omega) (by have := HN.out; omega)
      have hil : i < turns.length := by have := HN.out; omega
      obtain ⟨x, hx⟩ : ∃ x, rd_T26 turns (i : Int) = x := ⟨_, rfl⟩
      rw [hx] at x0 x1 x2 lx Cx
      have hmem : x ∈ turns := by
        rw [← hx]
        simp only [rd_T26, Int.toNat_natCast]
        rw [List.getD_eq_getElem?_getD, List.getElem?_eq_getElem hil]
        exact List.getElem_mem hil
      have HT : Aside0 (turns.take (i + 1) = turns.take i ++ [x]) := ⟨by
        rw [List.take_succ_eq_append_getElem hil, ← hx]
        simp [rd_T26, List.getD_eq_getElem?_getD, List.getElem?_eq_getElem hil]⟩
      subst ead
      simp only [Int.toNat_natCast] at x0 x1 x2
      have HCx := Aside0.mk Cx
      have HWx := Aside0.mk (show (0 + x.f2.length) * 8 ≤ 140737488355328 by have := HW.out x hmem; omega)
      have HL32 := Aside0.mk (show ((turns.take i).length + 1) * 32 ≤ 140737488355328 by rw [List.length_take]; omega)
      have ix0 : decide ((i : Int) < (n : Int)) = true := decide_eq_true (by omega)
      have BA : Aside0 (∀ wd w3, Below wr.heap.size wr wd → Below wd.heap.size wd w3 → Below W.heap.size W w3) := ⟨fun wd w3 h1 h2 => by
        have h3 := SI.out.2.trans (h1.mono SI.out.2.size)
        exact h3.trans (h2.mono h3.size)⟩
      have RA : Aside0 (∀ wd w3, Below wr.heap.size wr wd → Below wd.heap.size wd w3 → k26.R 26 w3 W.heap.size (fun b => W.heap.size ≤ b) (.slice Ao i co) (turns.take i)) := ⟨fun wd w3 h1 h2 => Kd.R_below SI.out.1 (h1.trans (h2.mono h1.size))⟩
      clear hx hmem hil lx Cx
      go_upto_region 7 with (fail)
      refine start_ (n := 22) (S := fun w' => w'.cell? (ad.add (i * 3)) = some (.bool x.f0) ∧ w'.cell? ⟨(ad.add (i * 3)).block, (ad.add (i * 3)).off + 1, none⟩ = some (.bool x.f1) ∧ w'.cell? ⟨(ad.add (i * 3)).block, (ad.add (i * 3)).off + 2, none⟩ = some (.slice A2 x.f2.length c2)) (ds := [20]) #[false, false, false, false, false, false, false, false, false, false, false, false, false, false, false, false, false, false, false, false, false, false] (by kernel_rfl) rfl rfl (⟨x0, x1, x2⟩) (fun hHeld => ?_)
      generalize hwd : wr.drew = wd at hHeld ⊢
      have BD : Aside0 (Below wr.heap.size wr wd) := ⟨by rw [← hwd]; exact below_drew (Below.refl _ _)⟩
      obtain ⟨y0, y1, y2⟩ := hHeld
      have hHeld : wd.cell? (ad.add (i * 3)) = some (.bool x.f0) ∧ wd.cell? ⟨(ad.add (i * 3)).block, (ad.add (i * 3)).off + 1, none⟩ = some (.bool x.f1) ∧ wd.cell? ⟨(ad.add (i * 3)).block, (ad.add (i * 3)).off + 2, none⟩ = some (.slice A2 x.f2.length c2) := ⟨y0, y1, y2⟩
      clear hwd
      refine pure_ (i := 0) (N := some 21) (v := ?_) (a' := ?_) #[true, false, false, false, false, false, false, false, false, false, false, false, false, false, false, false, false, false, false, false, false, false] rfl rfl (by kernel_rfl) (fun _ _ _ h => h) (Or.inl ⟨by rfl, ?_⟩) ?_ ?_
      rotate_left
      · intro w'
        go_simp
        with_reducible rfl
      rotate_left
      · simp only [Act.put, List.setIfInBounds_toArray, List.set_cons_zero, List.set_cons_succ, i64_w, i32_w]
        rfl
      refine pure_ (i := 1) (N := some 22) (v := ?_) (a' := ?_) #[true, true, false, false, false, false, false, false, false, false, false, false, false, false, false, false, false, false, false, false, false, false] rfl rfl (by kernel_rfl) (fun _ _ _ h => h) (Or.inl ⟨by rfl, ?_⟩) ?_ ?_
      rotate_left
      · intro w'
        go_simp
        with_reducible rfl
      rotate_left
      · simp only [Act.put, List.setIfInBounds_toArray, List.set_cons_zero, List.set_cons_succ, i64_w, i32_w]
        rfl
      refine pure_ (i := 2) (N := some 23) (v := ?_) (a' := ?_) #[true, true, true, false, false, false, false, false, false, false, false, false, false, false, false, false, false, false, false, false, false, false] rfl rfl (by kernel_rfl) (fun _ _ _ h => h) (Or.inl ⟨by rfl, ?_⟩) ?_ ?_
      rotate_left
      · intro w'
        go_simp
        with_reducible rfl
      rotate_left
      · simp only [Act.put, List.setIfInBounds_toArray, List.set_cons_zero, List.set_cons_succ, i64_w, i32_w]
        rfl
      refine pure_ (i := 3) (N := some 24) (v := ?_) (a' := ?_) #[true, true, true, true, false, false, false, false, false, false, false, false, false, false, false, false, false, false, false, false, false, false] rfl rfl (by kernel_rfl) (fun _ _ _ h => h) (Or.inl ⟨by rfl, ?_⟩) ?_ ?_
      rotate_left
      · intro w'
        go_simp
        with_reducible rfl
      rotate_left
      · simp only [Act.put, List.setIfInBounds_toArray, List.set_cons_zero, List.set_cons_succ, i64_w, i32_w]
        rfl
      refine pure_ (i := 4) (N := some 25) (v := ?_) (a' := ?_) #[true, true, true, true, true, false, false, false, false, false, false, false, false, false, false, false, false, false, false, false, false, false] rfl rfl (by kernel_rfl) (fun _ _ _ h => h) (Or.inl ⟨by rfl, ?_⟩) ?_ ?_
      rotate_left
      · intro w'
        go_simp
        with_reducible rfl
      rotate_left
      · simp only [Act.put, List.setIfInBounds_toArray, List.set_cons_zero, List.set_cons_succ, i64_w, i32_w]
        rfl
      refine take_ (i := 5) (N := some 26) (v := ?_) (a' := ?_) #[true, true, true, true, true, true, false, false, false, false, false, false, false, false, false, false, false, false, false, false, false, false] rfl rfl (by kernel_rfl) (fun _ _ _ h => h) (Or.inl ⟨by rfl, ?_⟩) hHeld ?_ ?_
      rotate_left
      · intro w' s0
        obtain ⟨s1, s2, s3⟩ := s0
        go_simp
        with_reducible rfl
      rotate_left
      · simp only [Act.put, List.setIfInBounds_toArray, List.set_cons_zero, List.set_cons_succ, i64_w, i32_w]
        rfl
      refine pure_ (i := 6) (N := some 27) (v := ?_) (a' := ?_) #[true, true, true, true, true, true, true, false, false, false, false, false, false, false, false, false, false, false, false, false, false, false] rfl rfl (by kernel_rfl) (fun _ _ _ h => h) (Or.inl ⟨by rfl, ?_⟩) ?_ ?_
      rotate_left
      · intro w'
        go_simp
        with_reducible rfl
      rotate_left
      · simp only [Act.put, List.setIfInBounds_toArray, List.set_cons_zero, List.set_cons_succ, i64_w, i32_w]
        rfl
      refine pure_ (i := 7) (N := some 28) (v := ?_) (a' := ?_) #[true, true, true, true, true, true, true, true, false, false, false, false, false, false, false, false, false, false, false, false, false, false] rfl rfl (by kernel_rfl) (fun _ _ _ h => h) (Or.inl ⟨by rfl, ?_⟩) ?_ ?_
      rotate_left
      · intro w'
        go_simp
        with_reducible rfl
      rotate_left
      · simp only [Act.put, List.setIfInBounds_toArray, List.set_cons_zero, List.set_cons_succ, i64_w, i32_w]
        rfl
      refine pure_ (i := 8) (N := some 29) (v := ?_) (a' := ?_) #[true, true, true, true, true, true, true, true, true, false, false, false, false, false, false, false, false, false, false, false, false, false] rfl rfl (by kernel_rfl) (fun _ _ _ h => h) (Or.inl ⟨by rfl, ?_⟩) ?_ ?_
      rotate_left
      · intro w'
        go_simp
        with_reducible rfl
      rotate_left
      · simp only [Act.put, List.setIfInBounds_toArray, List.set_cons_zero, List.set_cons_succ, i64_w, i32_w]
        rfl
      refine pure_ (i := 9) (N := some 30) (v := ?_) (a' := ?_) #[true, true, true, true, true, true, true, true, true, true, false, false, false, false, false, false, false, false, false, false, false, false] rfl rfl (by kernel_rfl) (fun _ _ _ h => h) (Or.inl ⟨by rfl, ?_⟩) ?_ ?_
      rotate_left
      · intro w'
        go_simp
        with_reducible rfl
      rotate_left
      · simp only [Act.put, List.setIfInBounds_toArray, List.set_cons_zero, List.set_cons_succ, i64_w, i32_w]
        rfl
      refine take_ (i := 10) (N := some 31) (v := ?_) (a' := ?_) #[true, true, true, true, true, true, true, true, true, true, true, false, false, false, false, false, false, false, false, false, false, false] rfl rfl (by kernel_rfl) (fun _ _ _ h => h) (Or.inl ⟨by rfl, ?_⟩) hHeld ?_ ?_
      rotate_left
      · intro w' s0
        obtain ⟨s1, s2, s3⟩ := s0
        go_simp
        with_reducible rfl
      rotate_left
      · simp only [Act.put, List.setIfInBounds_toArray, List.set_cons_zero, List.set_cons_succ, i64_w, i32_w]
        rfl
      refine pure_ (i := 12) (N := some 33) (v := ?_) (a' := ?_) #[true, true, true, true, true, true, true, true, true, true, true, false, true, false, false, false, false, false, false, false, false, false] rfl rfl (by kernel_rfl) (fun _ _ _ h => h) (Or.inl ⟨by rfl, ?_⟩) ?_ ?_
      rotate_left
      · intro w'
        go_simp
        with_reducible rfl
      rotate_left
      · simp only [Act.put, List.setIfInBounds_toArray, List.set_cons_zero, List.set_cons_succ, i64_w, i32_w]
        rfl
      refine pure_ (i := 13) (N := some 34) (v := ?_) (a' := ?_) #[true, true, true, true, true, true, true, true, true, true, true, false, true, true, false, false, false, false, false, false, false, false] rfl rfl (by kernel_rfl) (fun _ _ _ h => h) (Or.inl ⟨by rfl, ?_⟩) ?_ ?_
      rotate_left
      · intro w'
        go_simp
        with_reducible rfl
      rotate_left
      · simp only [Act.put, List.setIfInBounds_toArray, List.set_cons_zero, List.set_cons_succ, i64_w, i32_w]
        rfl
      refine pure_ (i := 14) (N := some 35) (v := ?_) (a' := ?_) #[true, true, true, true, true, true, true, true, true, true, true, false, true, true, true, false, false, false, false, false, false, false] rfl rfl (by kernel_rfl) (fun _ _ _ h => h) (Or.inl ⟨by rfl, ?_⟩) ?_ ?_
      rotate_left
      · intro w'
        go_simp
        with_reducible rfl
      rotate_left
      · simp only [Act.put, List.setIfInBounds_toArray, List.set_cons_zero, List.set_cons_succ, i64_w, i32_w]
        rfl
      refine pure_ (i := 15) (N := some 36) (v := ?_) (a' := ?_) #[true, true, true, true, true, true, true, true, true, true, true, false, true, true, true, true, false, false, false, false, false, false] rfl rfl (by kernel_rfl) (fun _ _ _ h => h) (Or.inl ⟨by rfl, ?_⟩) ?_ ?_
      rotate_left
      · intro w'
        go_simp
        with_reducible rfl
      rotate_left
      · simp only [Act.put, List.setIfInBounds_toArray, List.set_cons_zero, List.set_cons_succ, i64_w, i32_w]
        rfl
      refine take_ (i := 16) (N := some 37) (v := ?_) (a' := ?_) #[true, true, true, true, true, true, true, true, true, true, true, false, true, true, true, true, true, false, false, false, false, false] rfl rfl (by kernel_rfl) (fun _ _ _ h => h) (Or.inl ⟨by rfl, ?_⟩) hHeld ?_ ?_
      rotate_left
      · intro w' s0
        obtain ⟨s1, s2, s3⟩ := s0
        go_simp
        with_reducible rfl
      rotate_left
      · simp only [Act.put, List.setIfInBounds_toArray, List.set_cons_zero, List.set_cons_succ, i64_w, i32_w]
        rfl
      refine one_ (i := 11) (N := some 32) #[true, true, true, true, true, true, true, true, true, true, true, true, true, true, true, true, true, false, false, false, false, false] rfl rfl (by kernel_rfl) (by decide) (fun K hK => ?_)
      refine value_ (w1 := ?_) (v := ?_) (by rfl) rfl ?_ ?_
      rotate_left 2
      · go_simp
        constructor
        · rfl
        · rfl
      refine hK.out _ _ (by exact ⟨pw_cell_below (below_alloc (Below.refl wd.heap.size wd) _) y0, pw_cell_below (below_alloc (Below.refl wd.heap.size wd) _) y1, pw_cell_below (below_alloc (Below.refl wd.heap.size wd) _) y2⟩) (fun hHeld => ?_)
      clear hK K
      refine norm_ (a' := ?_) ?_ ?_
      rotate_left
      · show Act.put _ (some 32) _ = _
        simp only [Act.put, List.setIfInBounds_toArray, List.set_cons_zero, List.set_cons_succ, i64_w, i32_w]
        rfl
      refine one_ (i := 17) (N := some 38) #[true, true, true, true, true, true, true, true, true, true, true, true, true, true, true, true, true, true, false, false, false, false] rfl rfl (by kernel_rfl) (by decide) (fun K hK => ?_)
      refine Kd.R_append_rows_step (Kd.int .i64) (w0 := wd.alloc (.cells #[] 3)) wd.heap.size (by rfl) (.tmp 32) (.tmp 37) 23 3 (.int .i64 0) 8 rfl Try.underlying23 info3 rfl (by decide) (by decide) (.slice (some ⟨wd.heap.size, 0, none⟩) 0 0) [] x.f2 A2 x.f2.length c2 (fun k => wd.heap.size ≤ k) (fun _ => False) rfl rfl (made0 _ _ wd) (Kd.C_below HCx.out (below_alloc BD.out _)) (fun x cs h => h) (fun k h => h.elim) (fun k h => by simp at h; omega) (Below.refl _ _) (by simp) HWx.out ?_
      intro v3 w3 hR3 hb3 hg3 hat3
      obtain ⟨A3, c3, hv3⟩ := Kd.R_slice hR3
      rw [List.nil_append] at hv3 hR3
      subst hv3
      have R3 := Aside0.mk hR3
      have B3 := Aside0.mk ((below_alloc (Below.refl wd.heap.size wd) (.cells #[] 3)).trans hb3)
      clear hR3 hb3 hg3 hat3
      refine hK.out _ _ (by exact ⟨pw_cell_below B3.out y0, pw_cell_below B3.out y1, pw_cell_below B3.out y2⟩) (fun hHeld => ?_)
      clear hK K
      refine norm_ (a' := ?_) ?_ ?_
      rotate_left
      · show Act.put _ (some 38) _ = _
        simp only [Act.put, List.setIfInBounds_toArray, List.set_cons_zero, List.set_cons_succ, i64_w, i32_w]
        rfl
      refine pure_ (i := 18) (N := some 39) (v := ?_) (a' := ?_) #[true, true, true, true, true, true, true, true, true, true, true, true, true, true, true, true, true, true, true, false, false, false] rfl rfl (by kernel_rfl) (fun _ _ _ h => h) (Or.inl ⟨by rfl, ?_⟩) ?_ ?_
      rotate_left
      · intro w'
        go_simp
        with_reducible rfl
      rotate_left
      · simp only [Act.put, List.setIfInBounds_toArray, List.set_cons_zero, List.set_cons_succ, i64_w, i32_w]
        rfl
      refine one_ (i := 19) (N := some 40) #[true, true, true, true, true, true, true, true, true, true, true, true, true, true, true, true, true, true, true, true, false, false] rfl rfl (by kernel_rfl) (by decide) (fun K hK => ?_)
      refine value_ (w1 := ?_) (v := ?_) (by rfl) rfl ?_ ?_
      rotate_left 2
      · go_simp
        constructor
        · rfl
        · rfl
      refine hK.out _ _ (by exact ⟨pw_cell_below (B3.out.alloc B3.out.size _) y0, pw_cell_below (B3.out.alloc B3.out.size _) y1, pw_cell_below (B3.out.alloc B3.out.size _) y2⟩) (fun hHeld => ?_)
      clear hK K
      refine norm_ (a' := ?_) ?_ ?_
      rotate_left
      · show Act.put _ (some 40) _ = _
        simp only [Act.put, List.setIfInBounds_toArray, List.set_cons_zero, List.set_cons_succ, i64_w, i32_w]
        rfl
      refine last_ (i := 20) (N := some 41) #[true, true, true, true, true, true, true, true, true, true, true, true, true, true, true, true, true, true, true, true, true, false] rfl rfl (by kernel_rfl) (by decide) (fun K hK => ?_)
      refine Kd.R_append_step k26 (w0 := W) W.heap.size (by rfl) (.tmp 21) (.tmp 40) 22 26 (.agg #[.bool false, .bool false, .slice none 0 0]) 32 rfl Try.underlying22 info26 rfl (by decide) (by decide) (.slice Ao i co) (turns.take i) x [.bool x.f0, .bool x.f1, .slice A3 x.f2.length c3] (fun b => W.heap.size ≤ b) (fun b => wd.heap.size ≤ b) rfl rfl (k26_mkM _ _ _ _ (Kd.R_lower R3.out (Nat.le_trans SI.out.2.size BD.out.size))) (fun b hb => ⟨Nat.le_trans (Nat.le_trans SI.out.2.size BD.out.size) hb, fun e => by have := own_lt (Kd.R_own SI.out.1).choose_spec b e.symm; have := BD.out.size; omega⟩) (fun b hb => Nat.le_trans (BA.out wd w3 BD.out B3.out).size hb) (RA.out wd w3 BD.out B3.out) (BA.out wd w3 BD.out B3.out) (BA.out wd w3 BD.out B3.out).size HL32.out ?_
      intro v4 w4 hR4 hb4 hg4 hat4
      have R4 := Aside0.mk (And.intro hR4 hb4)
      clear hR4 hb4 hg4 hat4
      refine hK.out _ _ ?_
      clear hK K
      refine norm_ (a' := ?_) ?_ ?_
      rotate_left
      · show Act.put _ (some 41) _ = _
        simp only [Act.put, List.setIfInBounds_toArray, List.set_cons_zero, List.set_cons_succ, i64_w, i32_w]
        rfl
      refine pure_ (i := 21) (N := some 5) (v := ?_) (a' := ?_) #[true, true, true, true, true, true, true, true, true, true, true, true, true, true, true, true, true, true, true, true, true, true] rfl rfl (by kernel_rfl) (fun _ _ _ h => h) (Or.inl ⟨by rfl, ?_⟩) ?_ ?_
      rotate_left
      · intro w'
        go_simp
        with_reducible rfl
      rotate_left
      · simp only [Act.put, List.setIfInBounds_toArray, List.set_cons_zero, List.set_cons_succ, i64_w, i32_w]
        rfl
      refine done_ (by kernel_rfl) ?_
      go_wp2
      go_roundw
      case rel => exact ⟨i + 1, by omega, by go_num, ⟨by rw [HT.out]; exact R4.out⟩⟩
      case measure => simp [intOf]; omega
    · have hkl : i = n := by omega
      obtain ⟨vo, hvo⟩ : ∃ vo, u5 = vo := ⟨_, rfl⟩
      have R0 : OwnSt W wr u5 turns := by have h := SI.out; rw [hkl, ← HN.out, List.take_length] at h; exact h
      obtain ⟨Ao, co, hv⟩ := Kd.R_slice R0.1
      rw [HN.out] at hv
      subst hvo
      subst hv
      subst hkl
      obtain ⟨ls, hls⟩ : ∃ ls, (turns.map fun x => x.f2.length) = ls := ⟨_, rfl⟩
      have HLS : Aside0 (ls.length = i ∧ ∀ j, j < i → (ls.getD j 0) * 8 ≤ 140737488351232) := ⟨by
        rw [← hls, List.length_map, HN.out]
        refine ⟨rfl, fun j hj => ?_⟩
        have hjt : j < turns.length := by have := HN.out; omega
        rw [List.getD_eq_getElem?_getD, List.getElem?_map, List.getElem?_eq_getElem hjt]
        exact HW.out _ (List.getElem_mem hjt)⟩
      have HG : ∃ g cs, 0 < i → Ao = some ⟨g, 0, none⟩ ∧ Loose wr W.heap.size wr.heap.size g cs ls := by
        by_cases h0 : 0 < i
        · obtain ⟨g, c, cs, e, hl⟩ := loose_of R0.1 (by rw [HN.out]; exact h0)
          injection e with e1 _ _
          rw [hls] at hl
          exact ⟨g, cs, fun _ => ⟨e1, hl⟩⟩
        · exact ⟨0, #[], fun h => absurd h h0⟩
      obtain ⟨g, cs, hgl⟩ := HG
      have HGL := Aside0.mk hgl
      have KN := Aside0.mk (newPlay_walk (c := co) (show k26.C wr Ao turns.length turns by have h := (R_C R0.1).1; rw [HN.out]; exact h) (by rw [HN.out]; omega) (fun x hx => by have := HW.out x hx; omega))
      rw [HN.out] at KN
      have BR := Aside0.mk R0.2
      obtain ⟨pb, hpb⟩ : ∃ pb, wr.heap.size = pb := ⟨_, rfl⟩
      have HPB := Aside0.mk hpb
      clear hgl R0 hls SI S0 hpb
      go_upto_region 9 with (go_at_call 10; refine KN.out.mono ?_; rintro e w2 ⟨rfl, hn⟩; rw [HPB.out]; have P2 := Aside0.mk (show PlayAt W.heap.size (owns (fun k => k) pb pb) w2 pb turns [] by have h := play_new (f := fun k => k) BR.out.size hn; rw [HPB.out] at h; exact h); have B2 := Aside0.mk hn.choose_spec.2.2; clear hn)
      obtain ⟨f, hf⟩ : ∃ f, owns (fun k => k) pb pb = f := ⟨_, rfl⟩
      have HF : Aside0 (∀ k, k < pb → f k = k) := ⟨fun k hk => by rw [← hf]; exact owns_old _ _ _ _ hk⟩
      rw [hf] at P2
      clear hf
      have ST0 : Aside0 (PlayAt W.heap.size f w2 pb turns [] ∧ Below W.heap.size W w2 ∧ (0 < i → Loose w2 W.heap.size pb g cs ls)) := ⟨P2.out, BR.out.trans (B2.out.mono BR.out.size), fun h0 => by have h := (HGL.out h0).2.below B2.out; rw [HPB.out] at h; exact h⟩
      go_upto_region 12 with (fail)
      go_loopw [8] (fun idx wr => ∃ j : Nat, j ≤ i ∧ idx = .int .i64 (j : Int) ∧ Aside0 (PlayAt W.heap.size f wr pb turns [] ∧ Below W.heap.size W wr ∧ (0 < i → Loose wr W.heap.size pb g cs ls))) (fun idx _ => i - (intOf idx).toNat)
      case atStart => exact ⟨0, Nat.zero_le _, rfl, ST0⟩
      case round =>
        obtain ⟨j, hj, rfl, SJ⟩ := hrel
        by_cases hlt2 : j < i
        · obtain ⟨ea, _⟩ := HGL.out (by omega)
          subst ea
          have ix0 : decide ((j : Int) < (i : Int)) = true := decide_eq_true (by omega)
          obtain ⟨len, hlen⟩ : ∃ len, ls.getD j 0 = len := ⟨_, rfl⟩
          have HLEN := Aside0.mk hlen
          have hl8 : len * 8 ≤ 140737488351232 := by rw [← hlen]; exact HLS.out.2 j hlt2
          have RC := Aside0.mk (fun (w : World) (h : Loose w W.heap.size pb g cs ls) => (show ∃ A c, w.cell? ⟨g, j * 3 + 2, none⟩ = some (.slice A len c) ∧ (0 < len → ∃ b cur, A = some ⟨b, 0, none⟩ ∧ W.heap.size ≤ b ∧ b < pb ∧ w.heap[b]? = some (.cells cur 3 (0, 0)) ∧ len ≤ cur.size) ∧ cs[j * 3 + 2]? = some (.slice A len c) from by
            obtain ⟨h1, h2, h3, h4⟩ := h
            obtain ⟨A, c, h5, h6⟩ := h4 j (by rw [HLS.out.1]; exact hlt2)
            rw [hlen] at h5 h6
            exact ⟨A, c, by rw [blk_cell h1]; exact h5, h6, h5⟩))
          clear hlen
          go_upto_region 15 with (fail)
          go_loopw [9] (fun idx wr => ∃ k : Nat, k ≤ len ∧ idx = .int .i64 (k : Int) ∧ Aside0 (PlayAt W.heap.size f wr pb turns [] ∧ Below W.heap.size W wr ∧ (0 < i → Loose wr W.heap.size pb g cs ls))) (fun idx _ => len - (intOf idx).toNat)
          case atStart => exact ⟨0, Nat.zero_le _, rfl, SJ⟩
          case round =>
            obtain ⟨k, hk, rfl, SK⟩ := hrel
            obtain ⟨A, c, z0, hb, _⟩ := RC.out _ (SK.out.2.2 (by omega))
            by_cases hlt3 : k < len
            · obtain ⟨b, cur, eb, hbB, hbp, hcur, hcs⟩ := hb (by omega)
              subst eb
              have k0 : wr.cell? ⟨b, k, none⟩ = some (cur[k]'(by omega)) := by rw [blk_cell hcur]; exact Array.getElem?_eq_getElem (by omega)
              have k1 := blk_frozen hcur k
              have SE : Aside0 (PlayAt W.heap.size f (wr.setCell ⟨b, k, none⟩ (.int .i64 (-7))) pb turns [] ∧ Below W.heap.size W (wr.setCell ⟨b, k, none⟩ (.int .i64 (-7))) ∧ (0 < i → Loose (wr.setCell ⟨b, k, none⟩ (.int .i64 (-7))) W.heap.size pb g cs ls)) := ⟨SK.out.1.mv (Mv.set (Mv.refl W.heap.size (fun id => id ≠ pb) f wr) ⟨b, k, none⟩ _ hbB (fun _ => by rw [HF.out b hbp]; omega)) (fun h => h rfl), SK.out.2.1.setCell hbB _, fun h0 => (SK.out.2.2 h0).set hcur _⟩
              have i4 : decide ((k : Int) < (len : Int)) = true := decide_eq_true (by omega)
              clear hcur hb
              go_wp2
              go_roundw
              case rel => exact ⟨k + 1, by omega, by go_num, SE⟩
              case measure => simp [intOf]; omega
            · have hkl : k = len := by omega
              clear hb
              subst hkl
              go_wp2
              go_roundw
              case rel => exact ⟨j + 1, by omega, by go_num, SK⟩
              case measure => simp [intOf]; omega
        · have ST1 : Aside0 (TasksSt W pb turns (tasks.take 0) wr) := ⟨⟨f, SJ.out.1, SJ.out.2.1⟩⟩
          clear ST0 HGL P2 B2 KN
          have hji : j = i := by omega
          subst hji
          go_upto_region 19 with (fail)
          go_loopw [10] (fun idx wr => ∃ q : Nat, q ≤ m ∧ idx = .int .i64 (q : Int) ∧ Aside0 (TasksSt W pb turns (tasks.take q) wr)) (fun idx _ => m - (intOf idx).toNat)
          case atStart => exact ⟨0, Nat.zero_le _, rfl, ST1⟩
          case round =>
            obtain ⟨q, hq, rfl, SQ⟩ := hrel
            obtain ⟨f, hp, hbl⟩ := SQ.out
            by_cases hlt4 : q < m
            · obtain ⟨ad1, ea1, z⟩ := (Kd.reads_of_C (d := 0) (Kd.C_below HC1.out hbl)).at_ (q : Int) (by omega) (by have := HM.out; omega)
              subst ea1
              simp only [Int.toNat_natCast, rdOf] at z
              obtain ⟨task, htask⟩ : ∃ task, tasks.getD q 0 = task := ⟨_, rfl⟩
              rw [htask] at z
              have hqt : q < tasks.length := by have := HM.out; omega
              have HTQ : Aside0 (tasks.take (q + 1) = tasks.take q ++ [task]) := ⟨by
                rw [List.take_succ_eq_append_getElem hqt, ← htask, List.getD_eq_getElem?_getD, List.getElem?_eq_getElem hqt]
                rfl⟩
              have hlq : (tasks.take q).length = q := by rw [List.length_take]; omega
              have KS := Aside0.mk (step_any hp (by have := HS.out; omega) (fun x hx => by have := HW.out x hx; omega) task (by rw [hlq]; omega))
              rw [hlq, ← HTQ.out] at KS
              obtain ⟨x, hx⟩ : ∃ x, pTurn turns q = x := ⟨_, rfl⟩
              have KT := Aside0.mk (fun (w : World) (hb : Below W.heap.size W w) => turn_walk (c := c0) (Kd.C_below HC0.out hb) q (by omega))
              rw [hx] at KS KT
              rw [HN.out] at KT
              obtain ⟨wz, hwz⟩ : ∃ wz, wr.heap.size = wz := ⟨_, rfl⟩
              have HWZ := Aside0.mk (And.intro hwz (And.intro hp.lt hbl))
              clear htask hqt hlq hx hwz hp
              go_upto_region 22 with (go_at_call 11; refine KS.out.mono ?_; rintro e w3 ⟨v, f', rfl, hR, hp3, hm3⟩; obtain ⟨Av, cv, hv⟩ := Kd.R_slice hR; subst hv; have R3 := Aside0.mk hR; have P3 := Aside0.mk hp3; have V3 := Aside0.mk hm3; clear hR hp3 hm3)
              obtain ⟨w4, hw4⟩ : ∃ w4, w3.alloc (.cells #[.bool x.f0, .bool x.f1, .slice Av x.f2.length cv] 26) = w4 := ⟨_, rfl⟩
              obtain ⟨bx, hbx⟩ : ∃ bx, w3.heap.size = bx := ⟨_, rfl⟩
              rw [hw4, hbx]
              have b4 : w4.heap[bx]? = some (.cells #[.bool x.f0, .bool x.f1, .slice Av x.f2.length cv] 26 (0, 0)) := by rw [← hw4, ← hbx]; exact blk_new _ _
              have B34 : Aside0 (Below w3.heap.size w3 w4) := ⟨by rw [← hw4]; exact below_alloc (Below.refl _ _) _⟩
              have B4 : Aside0 (Below W.heap.size W w4) := ⟨by
                have h := HWZ.out.2.2.trans V3.out.below
                exact h.trans (B34.out.mono h.size)⟩
              have CV4 := Aside0.mk (Kd.C_below (R_C R3.out).1 B34.out)
              have HB4 := Aside0.mk b4
              have z0 := blk_cell b4 0
              have z1 := blk_cell b4 1
              have z2 := blk_cell b4 2
              simp only [List.getElem?_toArray, List.getElem?_cons_zero, List.getElem?_cons_succ] at z0 z1 z2
              clear b4 hw4 hbx z
              refine start_ (n := 6) (S := fun w' => w'.cell? ⟨bx, 0, none⟩ = some (.bool x.f0) ∧ w'.cell? ⟨bx, 1, none⟩ = some (.bool x.f1) ∧ w'.cell? ⟨bx, 2, none⟩ = some (.slice Av x.f2.length cv)) (ds := []) #[false, false, false, false, false, false] (by kernel_rfl) rfl rfl (⟨z0, z1, z2⟩) (fun hHeld => ?_)
              generalize hwd : w4.drew = wd at hHeld ⊢
              have BD : Aside0 (Below w4.heap.size w4 wd) := ⟨by rw [← hwd]; exact below_drew (Below.refl _ _)⟩
              obtain ⟨y0, y1, y2⟩ := hHeld
              have hHeld : wd.cell? ⟨bx, 0, none⟩ = some (.bool x.f0) ∧ wd.cell? ⟨bx, 1, none⟩ = some (.bool x.f1) ∧ wd.cell? ⟨bx, 2, none⟩ = some (.slice Av x.f2.length cv) := ⟨y0, y1, y2⟩
              clear hwd
              refine take_ (i := 0) (N := some 81) (v := ?_) (a' := ?_) #[true, false, false, false, false, false] rfl rfl (by kernel_rfl) (fun _ _ _ h => h) (Or.inl ⟨by rfl, ?_⟩) hHeld ?_ ?_
              rotate_left
              · intro w' s0
                obtain ⟨s1, s2, s3⟩ := s0
                go_simp
                with_reducible rfl
              rotate_left
              · simp only [Act.put, List.setIfInBounds_toArray, List.set_cons_zero, List.set_cons_succ, i64_w, i32_w]
                rfl
              refine pure_ (i := 1) (N := some 82) (v := ?_) (a' := ?_) #[true, true, false, false, false, false] rfl rfl (by kernel_rfl) (fun _ _ _ h => h) (Or.inl ⟨by rfl, ?_⟩) ?_ ?_
              rotate_left
              · intro w'
                go_simp
                with_reducible rfl
              rotate_left
              · simp only [Act.put, List.setIfInBounds_toArray, List.set_cons_zero, List.set_cons_succ, i64_w, i32_w]
                rfl
              refine pure_ (i := 2) (N := some 83) (v := ?_) (a' := ?_) #[true, true, true, false, false, false] rfl rfl (by kernel_rfl) (fun _ _ _ h => h) (Or.inl ⟨by rfl, ?_⟩) ?_ ?_
              rotate_left
              · intro w'
                go_simp
                with_reducible rfl
              rotate_left
              · simp only [Act.put, List.setIfInBounds_toArray, List.set_cons_zero, List.set_cons_succ, i64_w, i32_w]
                rfl
              refine one_ (i := 3) (N := some 84) #[true, true, true, true, false, false] rfl rfl (by kernel_rfl) (by decide) (fun K hK => ?_)
              refine goes_ Try.func13 (by kernel_rfl) rfl #[.slice A0 j c0, .int .i64 (q : Int)] (by rfl) rfl rfl (by (try simp only [List.map_toArray, List.map_cons, List.map_nil]); first | done | rfl) ?_
              with_reducible refine (KT.out wd (B4.out.trans (BD.out.mono B4.out.size))).mono ?_
              rintro e w5 ⟨A5, c5, rfl, hC5, hb5⟩
              refine ⟨_, rfl, ?_⟩
              have C5 := Aside0.mk hC5
              have B5 := Aside0.mk hb5
              clear hC5 hb5
              refine hK.out _ _ (by exact ⟨pw_cell_below B5.out y0, pw_cell_below B5.out y1, pw_cell_below B5.out y2⟩) (fun hHeld => ?_)
              clear hK K
              refine norm_ (a' := ?_) ?_ ?_
              rotate_left
              · show Act.put _ (some 84) _ = _
                simp only [Act.put, List.setIfInBounds_toArray, List.set_cons_zero, List.set_cons_succ, i64_w, i32_w]
                rfl
              refine one_ (i := 4) (N := some 85) #[true, true, true, true, true, false] rfl rfl (by kernel_rfl) (by decide) (fun K hK => ?_)
              refine goes_ Try.func12 (by kernel_rfl) rfl #[.agg #[.bool x.f0, .bool x.f1, .slice Av x.f2.length cv], .agg #[.bool x.f0, .bool x.f1, .slice A5 x.f2.length c5]] (by rfl) rfl rfl (by (try simp only [List.map_toArray, List.map_cons, List.map_nil]); first | done | rfl) ?_
              with_reducible refine (sameTurned_walk (c := cv) (c' := c5) (Kd.C_below CV4.out (BD.out.trans (B5.out.mono BD.out.size))) C5.out).mono ?_
              rintro e w6 ⟨rfl, hb6⟩
              refine ⟨_, rfl, ?_⟩
              have B6 := Aside0.mk hb6
              clear hb6
              refine hK.out _ _ (by exact ⟨pw_cell_below B6.out (pw_cell_below B5.out y0), pw_cell_below B6.out (pw_cell_below B5.out y1), pw_cell_below B6.out (pw_cell_below B5.out y2)⟩) (fun hHeld => ?_)
              clear hK K
              refine norm_ (a' := ?_) ?_ ?_
              rotate_left
              · show Act.put _ (some 85) _ = _
                simp only [Act.put, List.setIfInBounds_toArray, List.set_cons_zero, List.set_cons_succ, i64_w, i32_w]
                rfl
              refine pure_ (i := 5) (N := some 86) (v := ?_) (a' := ?_) #[true, true, true, true, true, true] rfl rfl (by kernel_rfl) (fun _ _ _ h => h) (Or.inl ⟨by rfl, ?_⟩) ?_ ?_
              rotate_left
              · intro w'
                go_simp
                with_reducible rfl
              rotate_left
              · simp only [Act.put, List.setIfInBounds_toArray, List.set_cons_zero, List.set_cons_succ, i64_w, i32_w]
                rfl
              refine done_ (by kernel_rfl) ?_
              have ST6 : Aside0 (WokenSt W pb bx wz turns (tasks.take (q + 1)) x.f0 x.f1 Av x.f2.length cv w6) := ⟨by
                have b46 : Below w4.heap.size w4 w6 := (BD.out.trans (B5.out.mono BD.out.size)).trans (B6.out.mono (BD.out.trans (B5.out.mono BD.out.size)).size)
                have b36 : Below w3.heap.size w3 w6 := B34.out.trans (b46.mono B34.out.size)
                have r6 := Kd.R_below R3.out b36
                rw [HWZ.out.1] at r6
                exact ⟨f', x.f2, r6, P3.out.below b36, B4.out.trans (b46.mono B4.out.size), blk_below HB4.out b46⟩⟩
              obtain ⟨xl, hxl⟩ : ∃ xl, x.f2.length = xl := ⟨_, rfl⟩
              rw [hxl] at ST6
              have HWZ2 : Aside0 (pb < wz ∧ W.heap.size ≤ wz) := ⟨by rw [← HWZ.out.1]; exact ⟨HWZ.out.2.1, HWZ.out.2.2.size⟩⟩
              have hxl63 : xl ≤ 9223372036854775807 := by obtain ⟨_, _, h, _⟩ := ST6.out; exact (R_C h).1.2.1
              clear z0 z1 z2 y0 y1 y2 hHeld hxl
              go_wp2
              go_loopw [12] (fun idx wr => ∃ k : Nat, k ≤ xl ∧ idx = .int .i64 (k : Int) ∧ Aside0 (WokenSt W pb bx wz turns (tasks.take (q + 1)) x.f0 x.f1 Av xl cv wr)) (fun idx _ => xl - (intOf idx).toNat)
              case atStart => exact ⟨0, Nat.zero_le _, rfl, ST6⟩
              case round =>
                obtain ⟨k, hk, rfl, SK⟩ := hrel
                obtain ⟨f5, ys, r1, r2, r3, r4⟩ := SK.out
                have z2 := blk_cell r4 2
                simp only [List.getElem?_toArray, List.getElem?_cons_zero, List.getElem?_cons_succ] at z2
                by_cases hlt5 : k < xl
                · have hys := (R_C r1).2.1
                  obtain ⟨inner, ho⟩ := Kd.R_own r1
                  rcases ho.2 with ⟨hv, h0⟩ | ⟨b, cap, cur, hv, hbB, hcur, hnc, _, hcs, _⟩
                  · omega
                  · injection hv with e1 _ e3
                    subst e1
                    have hfb := r1.1 b (by simp [Value.ownBlock])
                    obtain ⟨uk, k0⟩ : ∃ u, wr.cell? ⟨b, k, none⟩ = some u := ⟨_, by rw [blk_cell hcur]; exact Array.getElem?_eq_getElem (by rw [hcs]; show k < cap * 1; omega)⟩
                    have k1 := blk_frozen hcur k
                    have SE : Aside0 (WokenSt W pb bx wz turns (tasks.take (q + 1)) x.f0 x.f1 (some ⟨b, 0, none⟩) xl cv (wr.setCell ⟨b, k, none⟩ (.int .i64 (-9)))) := ⟨⟨f5, _, Kd.R_putn (enc := Value.int .i64) r1 (k : Int) (-9), r2.mv (Mv.set (Mv.refl W.heap.size (fun id => id = wz) f5 wr) ⟨b, k, none⟩ _ (Nat.le_trans HWZ2.out.2 hfb.1) (fun _ => hfb.2)) (fun h => by have := HWZ2.out.1; omega), r3.setCell (Nat.le_trans HWZ2.out.2 hfb.1) _, blk_far r4 (p := ⟨b, k, none⟩) (blk_ne r4 hcur (by decide)) _⟩⟩
                    have i4 : decide ((k : Int) < (xl : Int)) = true := decide_eq_true (by omega)
                    clear hcur ho r1 r2 r3 r4 hcs hnc hbB hys
                    go_wp2
                    go_roundw
                    case rel => exact ⟨k + 1, by omega, by go_num, SE⟩
                    case measure => simp [intOf]; omega
                · have hkl : k = xl := by omega
                  have SE : Aside0 (TasksSt W pb turns (tasks.take (q + 1)) wr) := ⟨⟨f5, r2, r3⟩⟩
                  clear r1 r2 r3 r4
                  subst hkl
                  go_wp2
                  go_roundw
                  case rel => exact ⟨q + 1, by omega, by go_num, SE⟩
                  case measure => simp [intOf]; omega
            · have hqm : q = m := by omega
              rw [hqm, ← HM.out, List.take_length] at hp
              have KK := Aside0.mk (taken_walk hp (by rw [HM.out]; omega))
              have BF := Aside0.mk hbl
              have CT := Aside0.mk (fun (w : World) (hb : Below wr.heap.size wr w) => Kd.C_below (Kd.C_below HC1.out hbl) hb)
              have KI := Aside0.mk (fun (w : World) (A : Option Addr) (c : Nat) (h1 : (Kd.int .i64).C w A tasks.length tasks) (h2 : (Kd.int .i64).C w A1 tasks.length tasks) => sameInts_walk (c := c) (c' := c1) h1 h2)
              rw [HM.out] at KI
              subst hqm
              clear hp hbl
              go_wp2_with (first
                | (go_at_call 15; refine KK.out.mono ?_; rintro e w3 ⟨v, rfl, hR, hb⟩; obtain ⟨A3, c3, hv⟩ := Kd.R_slice hR; rw [HM.out] at hv; subst hv; have R3 := Aside0.mk hR; have B3 := Aside0.mk hb; clear hR hb)
                | (go_at_call 14; refine (KI.out _ _ _ (R_C R3.out).1 (by have h := CT.out _ B3.out; rw [HM.out] at h; exact h)).mono ?_; rintro e w4 ⟨rfl, hd⟩; have D4 := Aside0.mk hd; clear hd))
              go_ret
              have h3 := BF.out.trans (B3.out.mono BF.out.size)
              exact ⟨rfl, h3.trans (D4.out.below.mono h3.size)⟩
end Go.Proofs.Ytkigbgabnbjomaa.Sched
namespace Go.Proofs.Ytkigbgabnbjomaa.Main
open Go.Proofs.Ytkigbgabnbjomaa.Sched Go.Proofs.Ytkigbgabnbjomaa.PSchedPlays
open Go.RowKit Go.Proofs.YtkigbgabnbjomaaW.PrintWords Go.Proofs.YtkigbgabnbjomaaW.PrintLast Go.Proofs.YtkigbgabnbjomaaW.PrintMore
set_option linter.unusedVariables false
set_option linter.unusedSimpArgs false
theorem SchedTurns (W : World) (A0 : Option Addr) (c0 : Nat) (l0 : List (Bool × (Bool × (List Int)))) (A1 : Option Addr) (c1 : Nat) (l1 : List Int) (hC0 : Kd.C (Kd.pair Kd.bool (Kd.pair Kd.bool (Kd.slice 3 (Kd.int .i64)))) W A0 l0.length l0) (hc0 : l0.length ≤ c0) (hG0 : (fun l => l.length * 32 ≤ 140737488351232 ∧ l.length ≤ 9223372036854775807 ∧ ∀ x ∈ l, (fun x => (fun _ => True) x.1 ∧ (fun x => (fun _ => True) x.1 ∧ (fun l => l.length * 8 ≤ 140737488351232 ∧ l.length ≤ 9223372036854775807 ∧ ∀ x ∈ l, (fun x => (Lit.int .i64 x).wf = true) x) x.2) x.2) x) l0) (hC1 : Kd.C (Kd.int .i64) W A1 l1.length l1) (hc1 : l1.length ≤ c1) (hG1 : (fun l => l.length * 8 ≤ 140737488351232 ∧ l.length ≤ 9223372036854775807 ∧ ∀ x ∈ l, (fun x => (Lit.int .i64 x).wf = true) x) l1) :
    Calls Try.prog 3 #[.slice A0 l0.length c0, .slice A1 l1.length c1] W fun e w' => e = .returned (.bool true) ∧ Below W.heap.size W w' := by
  have h := law_Turns W A0 c0 (l0.map s26) A1 c1 l1 (by rw [List.length_map]; exact C_s26 hC0) (by rw [List.length_map]; exact hG0.1) (fun x hx => by obtain ⟨y, hy, rfl⟩ := List.mem_map.1 hx; exact (hG0.2.2 y hy).2.2.1) hC1 hG1.1
  rw [List.length_map] at h
  exact h
end Go.Proofs.Ytkigbgabnbjomaa.Main
