/- The best cache walked.
   No condition. -/
import Derived.Test.YteaidghanfjigaaWork
import Derived.ArgAppend
import Derived.BigRegion
import Derived.Deep.QuietTactic
import Derived.BigQuiet
import Derived.Deep.RegionHeld3
import Derived.ChangeAlike
import Derived.RegionTactic
import Derived.Maps.OwnSet
import Derived.Maps.OwnOps
import Derived.Deep.DeepCutAuto
import Derived.Deep.CutBlock
import Derived.Deep.RegionLaw
import Derived.StillTailTactics
import Derived.Maps.RangeWalk
namespace Go.Proofs.Yteaidghanfjigaa.QCurveCurves
open Go.RowKit Go.Proofs.YteaidghanfjigaaW.PrintWords Go.Proofs.YteaidghanfjigaaW.PrintLast Go.Proofs.YteaidghanfjigaaW.PrintMore
set_option linter.unusedVariables false
set_option linter.unusedSimpArgs false
/-- The first place from i on that holds x; the row's length: there is none. -/
def ff (L : List Int) (i : Nat) (x : Int) : Nat := i + (L.drop i).idxOf x
theorem ff_at (L : List Int) (i : Nat) (hi : i < L.length) (x : Int) : ff L i x = if rd L (i : Int) = x then i else ff L (i + 1) x := by
  have e : rd L (i : Int) = L[i] := by rw [rd_nat]; simp [List.getD, hi]
  unfold ff
  rw [e, List.drop_eq_getElem_cons hi, List.idxOf_cons]
  by_cases c : L[i] = x
  · rw [if_pos c, show (L[i] == x) = true by simpa using c]; rfl
  · rw [if_neg c, show (L[i] == x) = false by simpa using c]; simp only [cond_false]; omega
theorem ff_end (L : List Int) (x : Int) : ff L L.length x = L.length := by unfold ff; rw [List.drop_length]; simp
theorem ff_le (L : List Int) (i : Nat) (hi : i ≤ L.length) (x : Int) : i ≤ ff L i x ∧ ff L i x ≤ L.length := by
  unfold ff
  have h1 : (L.drop i).idxOf x ≤ (L.drop i).length := List.idxOf_le_length
  rw [List.length_drop] at h1
  omega
/-- What the map tells, seen from i on. -/
def mf (L : List Int) (i : Nat) (x : Int) : Option Int := if ff L i x < L.length then some ((ff L i x : Nat) : Int) else none
theorem mf_end (L : List Int) (x : Int) : mf L L.length x = none := by unfold mf; rw [ff_end, if_neg (by omega)]
theorem mf_step (L : List Int) (j : Nat) (hj : j < L.length) (x : Int) : mf L j x = if x = rd L (j : Int) then some (j : Int) else mf L (j + 1) x := by
  by_cases c : x = rd L (j : Int)
  · rw [if_pos c]; unfold mf; rw [ff_at L j hj, if_pos c.symm, if_pos hj]
  · have c' : ¬ rd L (j : Int) = x := fun e => c e.symm
    rw [if_neg c]; unfold mf; rw [ff_at L j hj, if_neg c']
/-- The next places, those from i on told. -/
def nl (L : List Int) (i : Nat) : List Int := (List.range L.length).map (fun j => if j < i then 0 else ((ff L (j + 1) (rd L (j : Int)) : Nat) : Int))
theorem nl_length (L : List Int) (i : Nat) : (nl L i).length = L.length := by unfold nl; rw [List.length_map, List.length_range]
theorem nl_start (L : List Int) : nl L L.length = List.replicate L.length 0 := by
  rw [List.eq_replicate_iff]
  refine ⟨nl_length _ _, fun b hb => ?_⟩
  unfold nl at hb
  obtain ⟨j, hj, rfl⟩ := List.mem_map.1 hb
  rw [List.mem_range] at hj
  rw [if_pos hj]
theorem nl_get (L : List Int) (i k : Nat) (hk : k < L.length) : (nl L i)[k]? = some (if k < i then 0 else ((ff L (k + 1) (rd L (k : Int)) : Nat) : Int)) := by
  unfold nl; rw [List.getElem?_map, List.getElem?_range hk]; rfl
theorem nl_set (L : List Int) (j : Nat) : (nl L (j + 1)).set j ((ff L (j + 1) (rd L (j : Int)) : Nat) : Int) = nl L j := by
  apply List.ext_getElem?
  intro k
  by_cases hk : k < L.length
  · rw [List.getElem?_set, nl_get L (j + 1) k hk, nl_get L j k hk, nl_length]
    by_cases c : j = k
    · subst c; rw [if_pos rfl, if_pos hk, if_neg (by omega)]
    · rw [if_neg c]
      by_cases c2 : k < j
      · rw [if_pos (by omega), if_pos c2]
      · rw [if_neg (by omega), if_neg c2]
  · rw [List.getElem?_eq_none (by rw [List.length_set, nl_length]; omega), List.getElem?_eq_none (by rw [nl_length]; omega)]
theorem rd_nl (L : List Int) (i : Nat) (hi : i < L.length) : rd (nl L 0) (i : Int) = ((ff L (i + 1) (rd L (i : Int)) : Nat) : Int) := by
  rw [rd_nat]; unfold nl; simp [List.getD, hi]
structure NSt (w : World) (L : List Int) (nb mb i : Nat) (wr : World) : Prop where
  row : Kd.R (Kd.int .i64) 3 wr w.heap.size (fun k => k = nb) (.slice (some ⟨nb, 0, none⟩) L.length L.length) (nl L i)
  map : ∃ cnt, MapV (plainElem Try.prog 3) wr mb (L.length - i) (mf L i) cnt
  below : Below w.heap.size w wr
  nb0 : w.heap.size ≤ nb
  mb0 : w.heap.size ≤ mb
  ne : nb ≠ mb
theorem NSt.next {w : World} {L : List Int} {nb mb j : Nat} {w1 w' : World} (h0 : w.heap.size ≤ nb) (h1 : w.heap.size ≤ mb) (hne : nb ≠ mb) (hj : j < L.length) (hR : Kd.R (Kd.int .i64) 3 w1 w.heap.size (fun k => k = nb) (.slice (some ⟨nb, 0, none⟩) L.length L.length) (nl L j)) (hb : Below w.heap.size w w1)
    {cnt : Nat} (hm : MapV (plainElem Try.prog 3) w' mb (L.length - (j + 1) + 1) (fun y => if y = rd L (j : Int) then some (j : Int) else mf L (j + 1) y) cnt) (hg : w1.grownBy w' (some mb)) : NSt w L nb mb j w' :=
  ⟨Kd.R_grown hR hg (fun k hk e => hne (by rw [← hk]; exact Option.some.inj e)), ⟨cnt, by rw [show L.length - j = L.length - (j + 1) + 1 by omega]; exact hm.congr rfl (fun y _ => mf_step L j hj y)⟩, below_g hb h1 hg, h0, h1, hne⟩
theorem make_ints28 (n : Nat) (h : n ≤ 2000) (W : World) : (Instr.makeSlice 28 (.int .i64 (n : Int)) (.int .i64 (n : Int))).run Try.prog W = .ok (.slice (some ⟨W.heap.size, 0, none⟩) n n) (W.alloc (.cells (nums .i64 (List.replicate n 0)).toArray 3)) := by
  obtain ⟨i0, hi, hz0, hz1, hz2⟩ := info_parts (show (Try.prog.info? 3).map (fun i => (i.zero, i.size, i.bytes)) = some (some (.int .i64 0), 1, 8) by kernel_rfl)
  have := run_make (P := Try.prog) W 28 3 i0 (.int .i64 0) Try.underlying28 hi hz0 .i64 .i64 (n : Int) (n : Int) (by omega) (by omega) (by rw [hz2]; omega) (by omega)
  rw [this, hz1]
  rw [Int.toNat_natCast]
  congr 3
  apply Array.toList_inj.1
  simp [madeCells, nums, Value.cells]
  rw [List.eq_replicate_iff]
  refine ⟨by simp, fun b hb => ?_⟩
  obtain ⟨x, _, rfl⟩ := List.mem_map.1 hb
  simp [Nat.mod_one]
set_option maxHeartbeats 4000000 in
set_option maxRecDepth 100000 in
theorem next_walk (A : Option Addr) (c : Nat) (L : List Int) (hL : L.length ≤ 1024) (hwf : ∀ x ∈ L, (Lit.int .u64 x).wf = true) (w : World) (hC : Kd.C (Kd.int .u64) w A L.length L) (hc : L.length ≤ c) :
    Calls Try.prog 35 #[.slice A L.length c] w fun e w' => ∃ nb, e = .returned (.slice (some ⟨nb, 0, none⟩) L.length L.length) ∧ w.heap.size ≤ nb ∧ Kd.R (Kd.int .i64) 3 w' w.heap.size (fun k => k = nb) (.slice (some ⟨nb, 0, none⟩) L.length L.length) (nl L 0) ∧ Below w.heap.size w w' := by
  have HC := Aside0.mk hC
  have HWF := Aside0.mk hwf
  obtain ⟨ln, hln⟩ : ∃ ln, L.length = ln := ⟨_, rfl⟩
  rw [hln] at hL
  have hmm := @run_makeMap Try.prog
  have hmk : ∀ W : World, (Instr.makeSlice 28 (.int .i64 (ln : Int)) (.int .i64 (ln : Int))).run Try.prog W = .ok (.slice (some ⟨W.heap.size, 0, none⟩) ln ln) (W.alloc (.cells (nums .i64 (List.replicate ln 0)).toArray 3)) := fun W => make_ints28 ln (by omega) W
  have HL := Aside0.mk hL
  have HLN := Aside0.mk hln
  rw [hln]
  have l1 : IntKind.i64.wrap ((ln : Int) - 1) = (ln : Int) - 1 := by rw [IntKind.wrap_i64]; omega
  have l2 : wrap64 ((ln : Int) - 1) = (ln : Int) - 1 := cw64' (by omega) (by omega)
  clear hC hc hwf hln
  obtain ⟨bs, hbs⟩ : ∃ bs, w.heap.size = bs := ⟨_, rfl⟩
  rw [hbs]
  have HBS := Aside0.mk hbs
  clear hbs
  go_enter Try.func35, Try.ntmps35
  go_wp2
  obtain ⟨w2, hw2⟩ : ∃ w2, (w.alloc (.cells (nums .i64 (List.replicate ln 0)).toArray 3)).alloc (.map #[] 0) = w2 := ⟨_, rfl⟩
  have U2 : Below w.heap.size w w2 := by rw [← hw2]; exact below_alloc (below_alloc (Below.refl _ _) _) _
  have M2 : w2.heap[w.heap.size + 1]? = some (.map #[] 0) := by
    have h := blk_new (w.alloc (.cells (nums .i64 (List.replicate ln 0)).toArray 3)) (.map #[] 0)
    rw [World.size_alloc] at h
    rw [← hw2]; exact h
  have N2 : w2.heap[w.heap.size]? = some (.cells (nums .i64 (List.replicate ln 0)).toArray 3 (0, 0)) := by rw [← hw2]; exact blk_alloc (blk_new w _) _
  rw [hw2]
  clear hw2 hmk hmm l1 l2
  obtain ⟨nb, hnb⟩ : ∃ nb, w.heap.size = nb := ⟨_, rfl⟩
  obtain ⟨mb, hmb⟩ : ∃ mb, w.heap.size + 1 = mb := ⟨_, rfl⟩
  have D0 : NSt w L nb mb ln w2 := by
    have e := HLN.out
    refine ⟨?_, ⟨0, ?_⟩, U2, by omega, by omega, by omega⟩
    · rw [← e, nl_start, e]
      exact row_own w2 w.heap.size nb _ ln (by simp) (by omega) (by have := HL.out; omega) (by rw [← hnb]; exact N2)
    · rw [← e, Nat.sub_self]
      exact (MapV.new (by rw [← hmb]; exact M2)).congr rfl (fun x _ => mf_end L x)
  have SD0 := Aside0.mk D0
  try rw [hmb]
  try rw [hnb]
  clear U2 M2 N2 D0 hmb hnb
  go_loopw [5] (fun idx wr => ∃ i : Nat, i ≤ ln ∧ idx = .int .i64 ((i : Int) - 1) ∧ Aside0 (NSt w L nb mb i wr)) (fun idx _ => (intOf idx + 1).toNat)
  case atStart => exact ⟨ln, Nat.le_refl _, rfl, SD0⟩
  case round =>
    clear SD0
    rename_i idx wr
    obtain ⟨i, hi, rfl, HD⟩ := hrel
    cases i with
    | zero =>
      have RR := Aside0.mk HD.out.row
      have BB := Aside0.mk HD.out.below
      have N0 := Aside0.mk HD.out.nb0
      rw [show (((0 : Nat) : Int) - 1) = (-1 : Int) from rfl]
      go_wp2
      go_ret
      rw [← HBS.out, ← HLN.out]
      exact ⟨nb, rfl, N0.out, RR.out, BB.out⟩
    | succ j =>
      rw [show (((j + 1 : Nat) : Int) - 1) = (j : Int) by omega]
      obtain ⟨ad, eA, k0⟩ := Kd.at_int (Kd.C_below HC.out HD.out.below) (j : Int) (by omega) (by rw [HLN.out]; omega)
      subst eA
      simp only [Int.toNat_natCast] at k0
      have m0 : (0 : Int) ≤ (j : Int) := by omega
      have m1 : (j : Int) < (ln : Int) := by omega
      have m2 : wrap64 ((j : Int) - 1) = (j : Int) - 1 := cw64' (by omega) (by omega)
      have m3 : IntKind.i64.wrap ((j : Int) - 1) = (j : Int) - 1 := by rw [IntKind.wrap_i64]; omega
      have WFX := Aside0.mk (show (Lit.int .u64 (rd L (j : Int))).wf = true from HWF.out _ (by rw [rd_nat, List.getD_eq_getElem?_getD, List.getElem?_eq_getElem (by rw [HLN.out]; omega)]; exact List.getElem_mem _))
      obtain ⟨cnt, hm⟩ := HD.out.map
      have HM := Aside0.mk hm
      have RW := HD.out.row
      rw [HLN.out] at RW
      have hcell := Kd.R_celln 0 RW (j : Int) (by omega) (by omega)
      obtain ⟨hx0, hf0⟩ := hcell
      have HP1 := Aside0.mk (Kd.R_putg RW (j : Int) (ln : Int))
      simp only [Int.toNat_natCast] at hx0 hf0
      have NM := Aside0.mk (show L.length - (j + 1) < maxLen by unfold maxLen; have := HL.out; have := HLN.out; omega)
      have JL := Aside0.mk (show j < L.length by have := HLN.out; omega)
      have KC := Aside0.mk (fun (wx : World) (hb : Below w.heap.size w wx) => Kd.at_int (Kd.C_below HC.out hb) (j : Int) (by omega) (by rw [HLN.out]; omega))
      have WFJ := Aside0.mk (show (Lit.int .i64 (j : Int)).wf = true from WalkArith.wf_i64 (by have := HL.out; omega))
      clear hm RW
      by_cases hq : ff L (j + 1) (rd L (j : Int)) < ln
      · obtain ⟨p, hp⟩ : ∃ p, ff L (j + 1) (rd L (j : Int)) = p := ⟨_, rfl⟩
        have HF := Aside0.mk (show mf L (j + 1) (rd L (j : Int)) = some (p : Int) by unfold mf; rw [HLN.out, if_pos hq, hp])
        have NS := Aside0.mk (show ((nl L (j + 1)).set j (ln : Int)).set j (p : Int) = nl L j by rw [List.set_set, ← nl_set L j, hp])
        obtain ⟨h, hh⟩ : ∃ h, rd L (j : Int) = h := ⟨_, rfl⟩
        rw [hh] at k0 WFX HF KC
        have HH := Aside0.mk hh
        clear hh hp hq
        go_wp2_with (first
          | ((with_reducible refine gate_store (t := 3) (p := 23) rfl ?_); refine store_event (t := 3) (p := 23) (v := ?vo1) (w1 := (wr.setCell ⟨nb, j, none⟩ (.int .i64 (ln : Int)))) ?hg ?ho ?hn ?hr ?_; (case ho => rfl); (case hg => rfl); (case hn => rfl); (case hr => first | (go_simp; done) | (go_simp; rfl)); intro w3 hw3; have R3 := Aside0.mk (show Kd.R (Kd.int .i64) 3 w3 w.heap.size (fun k => k = nb) (.slice (some ⟨nb, 0, none⟩) ln ln) ((nl L (j + 1)).set j (ln : Int)) by rw [hw3]; exact HP1.out.1); have B3 := Aside0.mk (show Below w.heap.size w w3 by rw [hw3]; exact below_set HD.out.below HD.out.nb0); have M3 := Aside0.mk (show MapV (plainElem Try.prog 3) w3 mb (L.length - (j + 1)) (mf L (j + 1)) cnt by rw [hw3]; exact HM.out.setCell (fun e => HD.out.ne e.symm) _); clear hw3 hx0 hf0 k0; obtain ⟨ad2, eA2, k0⟩ := KC.out w3 B3.out; cases eA2; simp only [Int.toNat_natCast] at k0; obtain ⟨hx0, hf0⟩ := Kd.R_celln 0 R3.out (j : Int) (by omega) (by omega); simp only [Int.toNat_natCast] at hx0 hf0; have HP2 := Aside0.mk (Kd.R_putg R3.out (j : Int) (p : Int)))
          | (at_lookup; refine wpList_mapv_hit _ rfl (.tmp 25) (.tmp 29) 43 3 rfl Try.underlying43 (.int .i64 0) (zero3 _) (.lit (.int .i64 0)) [] (intElem_mk (by decide)) (Value.int .i64) intElem_inv mb (L.length - (j + 1)) cnt (mf L (j + 1)) rfl M3.out h WFX.out rfl (p : Int) HF.out ?_)
          | ((with_reducible refine gate_store (t := 3) (p := 37) rfl ?_); refine store_event (t := 3) (p := 37) (v := ?vo2) (w1 := (w3.setCell ⟨nb, j, none⟩ (.int .i64 (p : Int)))) ?hg ?ho ?hn ?hr ?_; (case ho => rfl); (case hg => rfl); (case hn => rfl); (case hr => first | (go_simp; done) | (go_simp; rfl)); intro w4 hw4; have R4 := Aside0.mk (show Kd.R (Kd.int .i64) 3 w4 w.heap.size (fun k => k = nb) (.slice (some ⟨nb, 0, none⟩) L.length L.length) (nl L j) by rw [hw4, HLN.out, ← NS.out]; exact HP2.out.1); have B4 := Aside0.mk (show Below w.heap.size w w4 by rw [hw4]; exact below_set B3.out HD.out.nb0); have M4 := Aside0.mk (show MapV (plainElem Try.prog 3) w4 mb (L.length - (j + 1)) (mf L (j + 1)) cnt by rw [hw4]; exact M3.out.setCell (fun e => HD.out.ne e.symm) _); clear hw4 hx0 hf0 k0; obtain ⟨ad3, eA3, k0⟩ := KC.out w4 B4.out; cases eA3; simp only [Int.toNat_natCast] at k0)
          | (at_mapUpdate; refine wpList_mapv_put _ rfl (.tmp 38) (.tmp 42) (.tmp 43) 43 3 rfl Try.underlying43 mb (L.length - (j + 1)) cnt (mf L (j + 1)) rfl M4.out NM.out h WFX.out rfl (.int .i64 (j : Int)) rfl (j : Int) [] (intElem_mk WFJ.out) ?_; intro w5 hm5 hg5; have D5 := Aside0.mk (NSt.next HD.out.nb0 HD.out.mb0 HD.out.ne JL.out R4.out B4.out (by rw [HH.out]; exact hm5) hg5); clear hm5 hg5 k0))
        go_roundw
        case rel => exact ⟨j, by omega, by go_num, D5⟩
        case measure => simp [intOf]
      · have HF := Aside0.mk (show mf L (j + 1) (rd L (j : Int)) = none by unfold mf; rw [HLN.out, if_neg hq])
        have NS := Aside0.mk (show (nl L (j + 1)).set j (ln : Int) = nl L j by
          have h1 := (ff_le L (j + 1) (by have := HLN.out; omega) (rd L (j : Int))).2
          have e : ff L (j + 1) (rd L (j : Int)) = ln := by have := HLN.out; omega
          rw [← nl_set L j, e])
        obtain ⟨h, hh⟩ : ∃ h, rd L (j : Int) = h := ⟨_, rfl⟩
        rw [hh] at k0 WFX HF KC
        have HH := Aside0.mk hh
        clear hh hq
        go_wp2_with (first
          | ((with_reducible refine gate_store (t := 3) (p := 23) rfl ?_); refine store_event (t := 3) (p := 23) (v := ?vo1) (w1 := (wr.setCell ⟨nb, j, none⟩ (.int .i64 (ln : Int)))) ?hg ?ho ?hn ?hr ?_; (case ho => rfl); (case hg => rfl); (case hn => rfl); (case hr => first | (go_simp; done) | (go_simp; rfl)); intro w3 hw3; have R4 := Aside0.mk (show Kd.R (Kd.int .i64) 3 w3 w.heap.size (fun k => k = nb) (.slice (some ⟨nb, 0, none⟩) L.length L.length) (nl L j) by rw [hw3, HLN.out, ← NS.out]; exact HP1.out.1); have B3 := Aside0.mk (show Below w.heap.size w w3 by rw [hw3]; exact below_set HD.out.below HD.out.nb0); have M3 := Aside0.mk (show MapV (plainElem Try.prog 3) w3 mb (L.length - (j + 1)) (mf L (j + 1)) cnt by rw [hw3]; exact HM.out.setCell (fun e => HD.out.ne e.symm) _); clear hw3 hx0 hf0 k0; obtain ⟨ad2, eA2, k0⟩ := KC.out w3 B3.out; cases eA2; simp only [Int.toNat_natCast] at k0)
          | (at_lookup; refine wpList_mapv_miss _ rfl (.tmp 25) (.tmp 29) 43 3 rfl Try.underlying43 (.int .i64 0) (zero3 _) (.lit (.int .i64 0)) [] (intElem_mk (by decide)) (fun v ps h => intElem_inv v 0 ps h) mb (L.length - (j + 1)) cnt (mf L (j + 1)) rfl M3.out h WFX.out rfl HF.out ?_)
          | (at_mapUpdate; refine wpList_mapv_put _ rfl (.tmp 38) (.tmp 42) (.tmp 43) 43 3 rfl Try.underlying43 mb (L.length - (j + 1)) cnt (mf L (j + 1)) rfl M3.out NM.out h WFX.out rfl (.int .i64 (j : Int)) rfl (j : Int) [] (intElem_mk WFJ.out) ?_; intro w5 hm5 hg5; have D5 := Aside0.mk (NSt.next HD.out.nb0 HD.out.mb0 HD.out.ne JL.out R4.out B3.out (by rw [HH.out]; exact hm5) hg5); clear hm5 hg5 k0))
        go_roundw
        case rel => exact ⟨j, by omega, by go_num, D5⟩
        case measure => simp [intOf]
/-- o is asked for again latest, of what f tells. -/
def Top (f : Int → Option Int) (o : Int) : Prop := (Lit.int .u64 o).wf = true ∧ ∃ v, f o = some v ∧ ∀ x u, (Lit.int .u64 x).wf = true → f x = some u → u < v ∨ (u = v ∧ x ≤ o)
theorem Top.unique {f : Int → Option Int} {a b : Int} (ha : Top f a) (hb : Top f b) : a = b := by
  obtain ⟨wa, va, ea, ma⟩ := ha
  obtain ⟨wb, vb, eb, mb⟩ := hb
  have h1 := ma b vb wb eb
  have h2 := mb a va wa ea
  omega
structure Late (D : DataW Unit) (f : Int → Option Int) (o v : Int) (b : Bool) (left : Lit → Bool) : Prop where
  sub : ∀ z, left z = true → Maps.has D z = true
  no : b = false → ∀ z, Maps.has D z = true → left z = true
  yes : b = true → (Lit.int .u64 o).wf = true ∧ f o = some v ∧ ∀ x u, (Lit.int .u64 x).wf = true → f x = some u → left (.int .u64 x) = false → u < v ∨ (u = v ∧ x ≤ o)
theorem same_u64 (y x : Int) : (Lit.int .u64 y).sameKey (.int .u64 x) = true ↔ y = x := by simp [Lit.sameKey]
theorem Late.start (D : DataW Unit) (f : Int → Option Int) (o v : Int) : Late D f o v false (Maps.has D) := ⟨fun _ h => h, fun _ _ h => h, fun h => by cases h⟩
theorem Late.sub' {D : DataW Unit} {f : Int → Option Int} {o v : Int} {b : Bool} {left : Lit → Bool} (H : Late D f o v b left) (x : Int) : ∀ z, (left z && !z.sameKey (.int .u64 x)) = true → Maps.has D z = true := fun z h => H.sub z (by simp at h; exact h.1)
theorem Late.gone {left : Lit → Bool} {x y : Int} (h : (left (.int .u64 y) && !(Lit.int .u64 y).sameKey (.int .u64 x)) = false) : left (.int .u64 y) = false ∨ y = x := by
  by_cases c : y = x
  · exact .inr c
  · have : (Lit.int .u64 y).sameKey (.int .u64 x) = false := by
      cases e : (Lit.int .u64 y).sameKey (.int .u64 x) with
      | false => rfl
      | true => exact absurd ((same_u64 y x).1 e) c
    rw [this] at h
    left; simpa using h
theorem Late.take {D : DataW Unit} {f : Int → Option Int} {o v : Int} {b : Bool} {left : Lit → Bool} (H : Late D f o v b left) {x c : Int} (hw : (Lit.int .u64 x).wf = true) (hf : f x = some c) (hc : b = true → v < c ∨ (c = v ∧ o < x)) (hd : ∀ y u, (Lit.int .u64 y).wf = true → f y = some u → Maps.has D (.int .u64 y) = true) : Late D f x c true (fun z => left z && !z.sameKey (.int .u64 x)) := by
  refine ⟨H.sub' x, (fun h => by cases h), fun _ => ⟨hw, hf, fun y u hy hu hl => ?_⟩⟩
  rcases Late.gone hl with h | h
  · cases b with
    | false => rw [H.no rfl _ (hd y u hy hu)] at h; cases h
    | true =>
      obtain ⟨_, _, h3⟩ := H.yes rfl
      have h4 := h3 y u hy hu h
      have h5 := hc rfl
      omega
  · subst h
    rw [hf] at hu
    have := Option.some.inj hu
    omega
theorem Late.leave {D : DataW Unit} {f : Int → Option Int} {o v : Int} {left : Lit → Bool} (H : Late D f o v true left) {x c : Int} (hf : f x = some c) (hc : ¬ (v < c ∨ (c = v ∧ o < x))) : Late D f o v true (fun z => left z && !z.sameKey (.int .u64 x)) := by
  obtain ⟨h1, h2, h3⟩ := H.yes rfl
  refine ⟨H.sub' x, (fun h => by cases h), fun _ => ⟨h1, h2, fun y u hy hu hl => ?_⟩⟩
  rcases Late.gone hl with h | h
  · exact h3 y u hy hu h
  · subst h
    rw [hf] at hu
    have := Option.some.inj hu
    omega
set_option maxHeartbeats 4000000 in
set_option maxRecDepth 100000 in
theorem late_walk (w : World) (mb n cnt : Nat) (f : Int → Option Int) (hm : MapV (plainElem Try.prog 3) w mb n f cnt) (x0 u0 : Int) (hw0 : (Lit.int .u64 x0).wf = true) (hf0 : f x0 = some u0) :
    Calls Try.prog 36 #[.map (some mb)] w fun e w' => ∃ o, e = .returned (.int .u64 o) ∧ Top f o ∧ Below w.heap.size w w' := by
  obtain ⟨D, hown, hsz, hD⟩ := hm
  have HD := Aside0.mk hD
  have HSZ := Aside0.mk (show Maps.has D (.int .u64 x0) = true by rw [(hD x0 hw0).1, hf0]; rfl)
  have HHAS := Aside0.mk (show ∀ y u, (Lit.int .u64 y).wf = true → f y = some u → Maps.has D (.int .u64 y) = true from fun y u hy hu => by rw [(hD y hy).1, hu]; rfl)
  obtain ⟨bs, hbs⟩ : ∃ bs, w.heap.size = bs := ⟨_, rfl⟩
  have HM := Aside0.mk hown.lt
  have HBS := Aside0.mk hbs
  clear hD hsz hw0 hf0 hbs
  go_enter Try.func36, Try.ntmps36
  go_wp2_with (at_range; refine wpList_range_own _ rfl _ 43 rfl 23 3 key23 Try.underlying43 _ mb n D rfl hown ?_; intro w0 hrg0 hg0 hs0)
  go_frame
  have B0 := Aside0.mk (show Below w.heap.size w w0 from (Below.refl _ _).grown hg0 (Nat.le_refl _) (fun k hk => by cases hk))
  go_loopw [3, 4, 5] (fun v3 v4 v5 wr => ∃ (o v : Int) (b : Bool) (left : Lit → Bool) (c : Nat), v3 = .int .u64 o ∧ v4 = .int .i64 v ∧ v5 = .bool b ∧ wr.ranges Try.prog 23 (plainElem Try.prog 3) mb w.heap.size n D left c ∧ Aside0 (Late D f o v b left) ∧ Aside0 (Below w.heap.size w wr)) (fun _ _ _ wr => wr.rangeLeft mb w.heap.size)
  case atStart => exact ⟨0, 0, false, _, _, rfl, rfl, rfl, hrg0, ⟨Late.start D f 0 0⟩, B0⟩
  case round =>
    clear hrg0 hg0 hs0 B0 hown
    obtain ⟨o, v, b, left, cn, rfl, rfl, rfl, hrg, HL, HB⟩ := hrel
    go_wp2_with (at_next; refine wpList_next_ranges_ii _ rfl _ rfl 23 3 .u64 .i64 key23 Try.underlying23 Try.underlying3 mb w.heap.size n _ _ _ rfl hrg ?_ ?_)
    · intro hc0 hl0
      have hb : b = true := by
        cases b with
        | true => rfl
        | false => have h := HL.out.no rfl _ HSZ.out; rw [hl0] at h; cases h
      have T := Aside0.mk (show Top f o from by
        obtain ⟨h1, h2, h3⟩ := HL.out.yes hb
        exact ⟨h1, v, h2, fun x u hx hu => h3 x u hx hu (hl0 _)⟩)
      clear hrg hc0 hl0 hb
      go_wp2
      go_ret
      exact ⟨o, rfl, T.out, HB.out⟩
    · intro x c w1 cnt1 hwx hwc hlx hat hrg1 hlt hg1 hs1 hen
      have hfx := Aside0.mk (show f x = some c from by
        obtain ⟨e1, e2⟩ := HD.out x hwx
        rw [HL.out.sub _ hlx] at e1
        cases hf : f x with
        | none => rw [hf] at e1; cases e1
        | some a =>
          have h1 := e2 a hf (.lit (.int .i64 0))
          rw [hat] at h1
          injection h1 with h1
          injection h1 with _ h1
          rw [h1])
      have HB1 := Aside0.mk (show Below w.heap.size w w1 from HB.out.grown hg1 HB.out.size (fun k hk => by cases hk; exact Nat.le_refl _))
      have HLT := Aside0.mk (show w1.rangeLeft mb w.heap.size < wr.rangeLeft mb w.heap.size by rw [hrg1.left_eq, hrg.left_eq]; exact hlt)
      have HW := Aside0.mk hwx
      have HR1 := Aside0.mk hrg1
      clear hlx hat hlt hg1 hs1 hrg hrg1 hwc hwx
      cases b with
      | false =>
        have HN := Aside0.mk (HL.out.take HW.out hfx.out (fun h => by cases h) HHAS.out)
        go_wp2
        go_roundw
        case rel => exact ⟨x, c, true, _, _, rfl, rfl, rfl, HR1.out, HN, HB1⟩
        case measure => exact HLT.out
      | true =>
        by_cases c1 : v < c
        · have HN := Aside0.mk (HL.out.take HW.out hfx.out (fun _ => .inl c1) HHAS.out)
          have c1b : decide (v < c) = true := decide_eq_true c1
          go_wp2
          go_roundw
          case rel => exact ⟨x, c, true, _, _, rfl, rfl, rfl, HR1.out, HN, HB1⟩
          case measure => exact HLT.out
        · have c1b : decide (v < c) = false := decide_eq_false c1
          by_cases c2 : c = v
          · subst c2
            by_cases c3 : o < x
            · have HN := Aside0.mk (HL.out.take HW.out hfx.out (fun _ => .inr ⟨rfl, c3⟩) HHAS.out)
              have c3b : decide (o < x) = true := decide_eq_true c3
              go_wp2
              go_roundw
              case rel => exact ⟨x, c, true, _, _, rfl, rfl, rfl, HR1.out, HN, HB1⟩
              case measure => exact HLT.out
            · have HN := Aside0.mk (HL.out.leave hfx.out (fun h => by rcases h with h | h <;> omega))
              have c3b : decide (o < x) = false := decide_eq_false c3
              go_wp2
              go_roundw
              case rel => exact ⟨o, c, true, _, _, rfl, rfl, rfl, HR1.out, HN, HB1⟩
              case measure => exact HLT.out
          · have HN := Aside0.mk (HL.out.leave hfx.out (fun h => by rcases h with h | h <;> omega))
            have c2b : (c == v) = false := beq_false_of_ne c2
            go_wp2
            go_roundw
            case rel => exact ⟨o, v, true, _, _, rfl, rfl, rfl, HR1.out, HN, HB1⟩
            case measure => exact HLT.out
/-- What the map of a best cache tells. -/
def bfun (L : List Int) (i : Nat) (H : List Int) (x : Int) : Option Int := if x ∈ H then some ((ff L i x : Nat) : Int) else none
def tix (L : List Int) (i : Nat) (H : List Int) : Nat → Nat
  | 0 => 0
  | k + 1 => if k = 0 then 0 else if ff L i (rd H (k : Int)) > ff L i (rd H (tix L i H k : Int)) ∨ (ff L i (rd H (k : Int)) = ff L i (rd H (tix L i H k : Int)) ∧ rd H (k : Int) > rd H (tix L i H k : Int)) then k else tix L i H k
theorem tix_spec (L : List Int) (i : Nat) (H : List Int) : ∀ k, 1 ≤ k → tix L i H k < k ∧ ∀ j, j < k → ff L i (rd H (j : Int)) < ff L i (rd H (tix L i H k : Int)) ∨ (ff L i (rd H (j : Int)) = ff L i (rd H (tix L i H k : Int)) ∧ rd H (j : Int) ≤ rd H (tix L i H k : Int)) := by
  intro k
  induction k with
  | zero => intro h; omega
  | succ k ih =>
    intro _
    by_cases z : k = 0
    · subst z
      simp only [tix, if_true]
      refine ⟨by omega, fun j hj => ?_⟩
      obtain rfl : j = 0 := by omega
      exact .inr ⟨rfl, Int.le_refl _⟩
    · obtain ⟨h1, h2⟩ := ih (by omega)
      simp only [tix]
      rw [if_neg z]
      split
      · rename_i c
        refine ⟨by omega, fun j hj => ?_⟩
        by_cases e : j = k
        · subst e; exact .inr ⟨rfl, Int.le_refl _⟩
        · have := h2 j (by omega); omega
      · rename_i c
        refine ⟨by omega, fun j hj => ?_⟩
        by_cases e : j = k
        · subst e; omega
        · exact h2 j (by omega)
def top1 (L : List Int) (i : Nat) (H : List Int) : Int := rd H (tix L i H H.length : Int)
theorem rd_mem (H : List Int) (j : Nat) (hj : j < H.length) : rd H (j : Int) = H[j] := by rw [rd_nat]; simp [List.getD, hj]
theorem top1_top (L : List Int) (i : Nat) (H : List Int) (hw : ∀ x ∈ H, (Lit.int .u64 x).wf = true) (hH : 0 < H.length) : Top (bfun L i H) (top1 L i H) := by
  obtain ⟨h1, h2⟩ := tix_spec L i H H.length hH
  have e := rd_mem H (tix L i H H.length) h1
  have hm : top1 L i H ∈ H := by unfold top1; rw [e]; exact List.getElem_mem _
  refine ⟨hw _ hm, ((ff L i (top1 L i H) : Nat) : Int), by unfold bfun; rw [if_pos hm], fun x u hx hu => ?_⟩
  unfold bfun at hu
  by_cases c : x ∈ H
  · rw [if_pos c] at hu
    have hu := Option.some.inj hu
    obtain ⟨j, hj, rfl⟩ := List.getElem_of_mem c
    have h3 := h2 j hj
    rw [rd_mem H j hj] at h3
    unfold top1 at *
    omega
  · rw [if_neg c] at hu; cases hu
/-- A step of the best cache, and the cache behind i elements. -/
def bst (L : List Int) (sz i : Nat) (s : List Int × Nat) : List Int × Nat :=
  if rd L (i : Int) ∈ s.1 then (s.1, s.2 + 1) else if sz = 0 then s else if s.1.length = sz then (s.1.erase (top1 L (i + 1) s.1) ++ [rd L (i : Int)], s.2) else (s.1 ++ [rd L (i : Int)], s.2)
def bh (L : List Int) (sz : Nat) : Nat → List Int × Nat
  | 0 => ([], 0)
  | i + 1 => bst L sz i (bh L sz i)
theorem bh_inv (L : List Int) (sz : Nat) (hw : ∀ x ∈ L, (Lit.int .u64 x).wf = true) : ∀ i, i ≤ L.length → (bh L sz i).1.Nodup ∧ (∀ x ∈ (bh L sz i).1, (Lit.int .u64 x).wf = true) ∧ (bh L sz i).1.length ≤ i ∧ (bh L sz i).1.length ≤ sz ∧ (bh L sz i).2 ≤ i := by
  intro i
  induction i with
  | zero => intro _; simp [bh]
  | succ i ih =>
    intro hi
    obtain ⟨h1, h2, h3, h4, h5⟩ := ih (by omega)
    have hwi : (Lit.int .u64 (rd L (i : Int))).wf = true := hw _ (by rw [rd_mem L i (by omega)]; exact List.getElem_mem _)
    simp only [bh, bst]
    split
    · exact ⟨h1, h2, by simp only []; omega, h4, by simp only []; omega⟩
    · rename_i c
      split
      · exact ⟨h1, h2, by omega, h4, by omega⟩
      · rename_i c2
        split
        · rename_i c3
          have hl : ((bh L sz i).1.erase (top1 L (i + 1) (bh L sz i).1)).length + 1 ≤ (bh L sz i).1.length := by
            have hm : top1 L (i + 1) (bh L sz i).1 ∈ (bh L sz i).1 := by
              unfold top1
              rw [rd_mem _ _ (tix_spec L (i + 1) _ _ (by omega)).1]; exact List.getElem_mem _
            rw [List.length_erase_of_mem hm]; omega
          refine ⟨?_, ?_, ?_, ?_, by simp only []; omega⟩
          · rw [List.nodup_append]
            refine ⟨h1.erase _, by simp, fun a ha b hb e => ?_⟩
            simp at hb
            subst hb; subst e
            exact c (List.mem_of_mem_erase ha)
          · intro x hx
            rcases List.mem_append.1 hx with hx | hx
            · exact h2 x (List.mem_of_mem_erase hx)
            · simp at hx; rw [hx]; exact hwi
          · simp only [List.length_append, List.length_cons, List.length_nil]; omega
          · simp only [List.length_append, List.length_cons, List.length_nil]; omega
        · refine ⟨?_, ?_, ?_, ?_, by simp only []; omega⟩
          · rw [List.nodup_append]
            refine ⟨h1, by simp, fun a ha b hb e => ?_⟩
            simp at hb
            subst hb; subst e
            exact c ha
          · intro x hx
            rcases List.mem_append.1 hx with hx | hx
            · exact h2 x hx
            · simp at hx; rw [hx]; exact hwi
          · simp only [List.length_append, List.length_cons, List.length_nil]; omega
          · simp only [List.length_append, List.length_cons, List.length_nil]; omega
theorem bfun_next (L : List Int) (i : Nat) (hi : i < L.length) (H : List Int) (x : Int) (hx : x ≠ rd L (i : Int)) : bfun L (i + 1) H x = bfun L i H x := by
  unfold bfun
  rw [ff_at L i hi, if_neg (show ¬ rd L (i : Int) = x from fun e => hx e.symm)]
theorem bfun_miss (L : List Int) (i : Nat) (hi : i < L.length) (H : List Int) (hn : rd L (i : Int) ∉ H) (x : Int) : bfun L (i + 1) H x = bfun L i H x := by
  by_cases c : x = rd L (i : Int)
  · subst c; unfold bfun; rw [if_neg hn, if_neg hn]
  · exact bfun_next L i hi H x c
theorem bfun_hit (L : List Int) (i : Nat) (hi : i < L.length) (H : List Int) (hm : rd L (i : Int) ∈ H) (x : Int) : bfun L (i + 1) H x = if x = rd L (i : Int) then some ((ff L (i + 1) (rd L (i : Int)) : Nat) : Int) else bfun L i H x := by
  by_cases c : x = rd L (i : Int)
  · rw [if_pos c]; subst c; unfold bfun; rw [if_pos hm]
  · rw [if_neg c]; exact bfun_next L i hi H x c
theorem bfun_put (L : List Int) (i : Nat) (hi : i < L.length) (H : List Int) (x : Int) : bfun L (i + 1) (H ++ [rd L (i : Int)]) x = if x = rd L (i : Int) then some ((ff L (i + 1) (rd L (i : Int)) : Nat) : Int) else bfun L i H x := by
  by_cases c : x = rd L (i : Int)
  · rw [if_pos c]; subst c; unfold bfun; rw [if_pos (by simp)]
  · rw [if_neg c, bfun_next L i hi _ x c]
    unfold bfun
    simp [c]
theorem bfun_erase (L : List Int) (i : Nat) (H : List Int) (hn : H.Nodup) (o x : Int) : bfun L i (H.erase o) x = if x = o then none else bfun L i H x := by
  unfold bfun
  by_cases c : x = o
  · rw [if_pos c, if_neg (fun h => (List.Nodup.mem_erase_iff hn).1 h |>.1 c)]
  · rw [if_neg c]
    by_cases d : x ∈ H
    · rw [if_pos d, if_pos ((List.Nodup.mem_erase_iff hn).2 ⟨c, d⟩)]
    · rw [if_neg d, if_neg (fun h => d (List.mem_of_mem_erase h))]
theorem bfun_some (L : List Int) (i : Nat) (H : List Int) (x : Int) : (bfun L i H x).isSome = true ↔ x ∈ H := by
  unfold bfun
  by_cases c : x ∈ H
  · rw [if_pos c]; simp [c]
  · rw [if_neg c]; simp [c]
structure BSt (w : World) (L : List Int) (sz nb mb i : Nat) (wr : World) : Prop where
  row : Kd.R (Kd.int .i64) 3 wr w.heap.size (fun k => k = nb) (.slice (some ⟨nb, 0, none⟩) L.length L.length) (nl L 0)
  map : ∃ n, n ≤ i ∧ MapV (plainElem Try.prog 3) wr mb n (bfun L i (bh L sz i).1) (bh L sz i).1.length
  below : Below w.heap.size w wr
  nbl : nb < wr.heap.size
  mb0 : w.heap.size ≤ mb
  ne : nb ≠ mb
theorem row_g {w wr w' : World} {S : List Int} {nb mb n c : Nat} (h : Kd.R (Kd.int .i64) 3 wr w.heap.size (fun k => k = nb) (.slice (some ⟨nb, 0, none⟩) n c) S) (hne : nb ≠ mb) (hg : wr.grownBy w' (some mb)) : Kd.R (Kd.int .i64) 3 w' w.heap.size (fun k => k = nb) (.slice (some ⟨nb, 0, none⟩) n c) S :=
  Kd.R_grown h hg (fun k hk e => hne (by rw [← hk]; exact Option.some.inj e))
theorem BSt.next {w : World} {L : List Int} {sz nb mb i : Nat} {w1 w' : World} (hR : Kd.R (Kd.int .i64) 3 w1 w.heap.size (fun k => k = nb) (.slice (some ⟨nb, 0, none⟩) L.length L.length) (nl L 0)) (hb : Below w.heap.size w w1) (hl : nb < w1.heap.size) (h1 : w.heap.size ≤ mb) (hne : nb ≠ mb)
    {n : Nat} (hn : n ≤ i + 1) {f : Int → Option Int} {cnt : Nat} (hm : MapV (plainElem Try.prog 3) w' mb n f cnt) (hg : w1.grownBy w' (some mb)) (hf : ∀ x, bfun L (i + 1) (bh L sz (i + 1)).1 x = f x) (hc : cnt = (bh L sz (i + 1)).1.length) : BSt w L sz nb mb (i + 1) w' :=
  ⟨Kd.R_grown hR hg (fun k hk e => hne (by rw [← hk]; exact Option.some.inj e)), ⟨n, hn, by rw [← hc]; exact hm.congr rfl (fun x _ => hf x)⟩, below_g hb h1 hg, Nat.lt_of_lt_of_le hl hg.size, h1, hne⟩
theorem BSt.stay {w : World} {L : List Int} {sz nb mb i : Nat} {wr : World} (H : BSt w L sz nb mb i wr) (hs : (bh L sz (i + 1)).1 = (bh L sz i).1) (hf : ∀ x, bfun L (i + 1) (bh L sz i).1 x = bfun L i (bh L sz i).1 x) : BSt w L sz nb mb (i + 1) wr := by
  obtain ⟨n, hn, hm⟩ := H.map
  exact ⟨H.row, ⟨n, by omega, by rw [hs]; exact hm.congr rfl (fun x _ => hf x)⟩, H.below, H.nbl, H.mb0, H.ne⟩
set_option maxHeartbeats 4000000 in
set_option maxRecDepth 100000 in
theorem best_walk (A : Option Addr) (c : Nat) (L : List Int) (hL : L.length ≤ 1024) (hwf : ∀ x ∈ L, (Lit.int .u64 x).wf = true) (sz : Nat) (w : World) (hC : Kd.C (Kd.int .u64) w A L.length L) (hc : L.length ≤ c) :
    Calls Try.prog 26 #[.slice A L.length c, .int .i64 sz] w fun e w' => e = .returned (.tuple #[.int .i64 (((bh L sz L.length).2 : Nat) : Int), .int .i64 0]) ∧ Below w.heap.size w w' := by
  have HC := Aside0.mk hC
  have HWF := Aside0.mk hwf
  have HINV := Aside0.mk (bh_inv L sz hwf)
  obtain ⟨ln, hln⟩ : ∃ ln, L.length = ln := ⟨_, rfl⟩
  have htl : Aside0 (∀ w', Kd.C (Kd.int .u64) w' A L.length L → Calls Try.prog 29 #[.slice A ln c] w' fun e w'' => e = .returned (.int .i64 0) ∧ Drawn0 w' w'') := ⟨fun w' h => by
    have := curve_tooLong.calls A c L 0 w' h hc (by unfold curve_tooLong.f; rw [if_neg (by omega)])
    rw [hln] at this
    exact this⟩
  have hnx : Aside0 (∀ w', Kd.C (Kd.int .u64) w' A L.length L → Calls Try.prog 35 #[.slice A ln c] w' fun e w'' => ∃ nb, e = .returned (.slice (some ⟨nb, 0, none⟩) ln ln) ∧ w'.heap.size ≤ nb ∧ Kd.R (Kd.int .i64) 3 w'' w'.heap.size (fun k => k = nb) (.slice (some ⟨nb, 0, none⟩) L.length L.length) (nl L 0) ∧ Below w'.heap.size w' w'') := ⟨fun w' h => by
    have := next_walk A c L hL hwf w' h hc
    rw [hln] at this
    rw [hln]
    exact this⟩
  rw [hln] at hL
  have hmm := @run_makeMap Try.prog
  have HL := Aside0.mk hL
  have HLN := Aside0.mk hln
  rw [hln]
  have hn1 : ¬ (sz : Int) < 0 := by omega
  clear hC hc hwf hln
  go_enter Try.func26, Try.ntmps26
  go_wp2_with (first
    | (go_at_call 29; refine (htl.out _ HC.out).mono ?_; rintro e w1 ⟨rfl, ⟨n1, hn1⟩⟩; have B1 := Aside0.mk (show Below w.heap.size w w1 by rw [hn1]; exact pw_below_drewN (Below.refl _ _) n1); clear hn1)
    | (go_at_call 35; refine (hnx.out w1 (Kd.C_below HC.out B1.out)).mono ?_; rintro e w2 ⟨nb, rfl, hnb, hR, hb⟩; have B2 := Aside0.mk (below_then B1.out B1.out.size hb); have NB := Aside0.mk hnb; have RW2 := Aside0.mk (show Kd.R (Kd.int .i64) 3 w2 w.heap.size (fun k => k = nb) (.slice (some ⟨nb, 0, none⟩) L.length L.length) (nl L 0) from Kd.R_lower hR B1.out.size); clear hnb hR hb))
  obtain ⟨w3, hw3⟩ : ∃ w3, w2.alloc (.map #[] 0) = w3 := ⟨_, rfl⟩
  have U3 : Below w2.heap.size w2 w3 := by rw [← hw3]; exact below_alloc (Below.refl _ _) _
  have M3 : w3.heap[w2.heap.size]? = some (.map #[] 0) := by rw [← hw3]; exact blk_new w2 _
  have D0 : BSt w L sz nb w2.heap.size 0 w3 := by
    have hlt := Kd.R_lt RW2.out nb rfl
    refine ⟨Kd.R_below RW2.out U3, ⟨0, Nat.le_refl _, ?_⟩, below_then B2.out B2.out.size U3, Nat.lt_of_lt_of_le hlt U3.size, B2.out.size, by omega⟩
    exact (MapV.new M3).congr rfl (fun x _ => by simp [bfun, bh])
  rw [hw3]
  clear hw3 hmm
  obtain ⟨mb, hmb⟩ : ∃ mb, w2.heap.size = mb := ⟨_, rfl⟩
  rw [hmb] at D0
  have SD0 := Aside0.mk D0
  rw [hmb]
  clear U3 M3 D0 hmb B1 B2 NB RW2
  go_loopw [9, 26] (fun v9 idx wr => ∃ i : Nat, i ≤ ln ∧ idx = .int .i64 i ∧ v9 = .int .i64 (((bh L sz i).2 : Nat) : Int) ∧ Aside0 (BSt w L sz nb mb i wr)) (fun _ idx _ => ln - (intOf idx).toNat)
  case atStart => exact ⟨0, Nat.zero_le _, rfl, rfl, SD0⟩
  case round =>
    clear SD0
    rename_i v9 idx wr
    obtain ⟨i, hi, rfl, rfl, HD⟩ := hrel
    by_cases hlt : i < ln
    · obtain ⟨ad, eA, k0⟩ := Kd.at_int (Kd.C_below HC.out HD.out.below) (i : Int) (by omega) (by rw [HLN.out]; omega)
      subst eA
      simp only [Int.toNat_natCast] at k0
      have m0 : (0 : Int) ≤ (i : Int) := by omega
      have m1 : (i : Int) < (ln : Int) := by omega
      have IL := Aside0.mk (show i < L.length by rw [HLN.out]; exact hlt)
      have WFX := Aside0.mk (show (Lit.int .u64 (rd L (i : Int))).wf = true from HWF.out _ (by rw [rd_mem L i (by rw [HLN.out]; exact hlt)]; exact List.getElem_mem _))
      obtain ⟨n, hn, hm⟩ := HD.out.map
      have HM := Aside0.mk hm
      have HN := Aside0.mk hn
      have HI := Aside0.mk (HINV.out i (by rw [HLN.out]; exact hi))
      have NM := Aside0.mk (show n < maxLen by unfold maxLen; have := HL.out; omega)
      have NX := Aside0.mk (fun (wx : World) (hR : Kd.R (Kd.int .i64) 3 wx w.heap.size (fun k => k = nb) (.slice (some ⟨nb, 0, none⟩) L.length L.length) (nl L 0)) => (by
        have h := (Kd.R_celln 0 hR (i : Int) (by omega) (by rw [HLN.out]; omega)).1
        simp only [Int.toNat_natCast] at h
        exact h.trans (congrArg (fun z : Int => some (Value.int .i64 z)) (rd_nl L i IL.out)) : wx.cell? ⟨nb, i, none⟩ = some (.int .i64 ((ff L (i + 1) (rd L (i : Int)) : Nat) : Int))))
      have WFN := Aside0.mk (show (Lit.int .i64 ((ff L (i + 1) (rd L (i : Int)) : Nat) : Int)).wf = true from WalkArith.wf_i64 (by have h1 := (ff_le L (i + 1) IL.out (rd L (i : Int))).2; have h2 := HL.out; have h3 := HLN.out; omega))
      have HS := Aside0.mk (show bh L sz (i + 1) = bst L sz i (bh L sz i) from rfl)
      have k1 := NX.out wr HD.out.row
      have HIT := Aside0.mk (bfun_hit L i IL.out (bh L sz i).1)
      have MISS := Aside0.mk (bfun_miss L i IL.out (bh L sz i).1)
      have PUT := Aside0.mk (fun H => bfun_put L i IL.out H)
      obtain ⟨q, hq⟩ : ∃ q : Int, ((ff L (i + 1) (rd L (i : Int)) : Nat) : Int) = q := ⟨_, rfl⟩
      rw [hq] at k1 NX WFN HIT PUT
      obtain ⟨h, hh⟩ : ∃ h, rd L (i : Int) = h := ⟨_, rfl⟩
      rw [hh] at k0 WFX HIT MISS PUT
      have HH := Aside0.mk hh
      obtain ⟨S, hS⟩ : ∃ S, bh L sz i = S := ⟨_, rfl⟩
      rw [hS] at HM HI HS HIT MISS
      unfold bst at HS
      rw [hh] at HS
      have hSS := Aside0.mk hS
      rw [hS]
      obtain ⟨tv, htv⟩ : ∃ tv : Int, ((S.2 : Nat) : Int) = tv := ⟨_, rfl⟩
      rw [htv]
      have TV := Aside0.mk htv
      have hw1 : wrap64 (tv + 1) = tv + 1 := by rw [cw64' (by omega) (by have := HI.out.2.2.2.2; have := HL.out; omega)]
      have hw2 : IntKind.i64.wrap (tv + 1) = tv + 1 := by rw [IntKind.wrap_i64]; have := HI.out.2.2.2.2; have := HL.out; omega
      clear hm hn hq hh hS htv
      by_cases hin : h ∈ S.1
      · have HF := Aside0.mk (show bfun L i S.1 h = some ((ff L i h : Nat) : Int) by unfold bfun; rw [if_pos hin])
        have E1 := Aside0.mk (show bh L sz (i + 1) = (S.1, S.2 + 1) by rw [HS.out, if_pos hin])
        have HIN := Aside0.mk hin
        have KEY := Aside0.mk (show ∀ w4, MapV (plainElem Try.prog 3) w4 mb (n + 1) (fun y => if y = h then some q else bfun L i S.1 y) (if (bfun L i S.1 h).isSome = true then S.1.length else S.1.length + 1) → wr.grownBy w4 (some mb) → BSt w L sz nb mb (i + 1) w4 from
          fun w4 hm4 hg4 => BSt.next HD.out.row HD.out.below HD.out.nbl HD.out.mb0 HD.out.ne (by have := HN.out; omega) hm4 hg4 (by rw [E1.out]; exact HIT.out HIN.out) (by rw [E1.out]; exact if_pos ((bfun_some L i S.1 h).2 HIN.out)))
        clear hin
        go_wp2_with (first
          | (at_lookup; refine wpList_mapv_hit _ rfl (.tmp 32) (.tmp 33) 43 3 rfl Try.underlying43 (.int .i64 0) (zero3 _) (.lit (.int .i64 0)) [] (intElem_mk (by decide)) (Value.int .i64) intElem_inv mb n S.1.length (bfun L i S.1) rfl HM.out h WFX.out rfl ((ff L i h : Nat) : Int) HF.out ?_)
          | (at_mapUpdate; refine wpList_mapv_put _ rfl (.tmp 52) (.tmp 53) (.tmp 57) 43 3 rfl Try.underlying43 mb n S.1.length (bfun L i S.1) rfl HM.out NM.out h WFX.out rfl (.int .i64 q) rfl q [] (intElem_mk WFN.out) ?_; intro w4 hm4 hg4; have D4 := Aside0.mk (KEY.out w4 hm4 hg4); clear hm4 hg4 k0 k1))
        go_roundw
        case rel => exact ⟨i + 1, by omega, by go_num, by rw [E1.out, ← TV.out]; rfl, D4⟩
        case measure => simp [intOf]; omega
      · have HF := Aside0.mk (show bfun L i S.1 h = none by unfold bfun; rw [if_neg hin])
        have HIN := Aside0.mk hin
        clear hin hw1 hw2
        by_cases hz : sz = 0
        · have zz : (sz : Int) = 0 := by omega
          have E1 := Aside0.mk (show bh L sz (i + 1) = S by rw [HS.out, if_neg HIN.out, if_pos hz])
          have D4 := Aside0.mk (HD.out.stay (by rw [E1.out, hSS.out]) (by rw [hSS.out]; exact MISS.out HIN.out))
          have zb : ((sz : Int) == 0) = true := by rw [zz]; rfl
          clear k1 hz zz
          go_wp2_with (at_lookup; refine wpList_mapv_miss _ rfl (.tmp 32) (.tmp 33) 43 3 rfl Try.underlying43 (.int .i64 0) (zero3 _) (.lit (.int .i64 0)) [] (intElem_mk (by decide)) (fun v ps h => intElem_inv v 0 ps h) mb n S.1.length (bfun L i S.1) rfl HM.out h WFX.out rfl HF.out ?_)
          go_roundw
          case rel => exact ⟨i + 1, by omega, by go_num, by rw [E1.out, TV.out], D4⟩
          case measure => simp [intOf]; omega
        · have zz : ¬ (sz : Int) = 0 := by omega
          by_cases hf : S.1.length = sz
          · have E1 := Aside0.mk (show bh L sz (i + 1) = (S.1.erase (top1 L (i + 1) S.1) ++ [h], S.2) by rw [HS.out, if_neg HIN.out, if_neg hz, if_pos hf])
            have hf2 : ((S.1.length : Nat) : Int) = (sz : Int) := by omega
            have TT := Aside0.mk (show Top (bfun L i S.1) (top1 L (i + 1) S.1) from by
              have h := top1_top L (i + 1) S.1 HI.out.2.1 (by omega)
              rw [show bfun L (i + 1) S.1 = bfun L i S.1 from funext (fun x => MISS.out HIN.out x)] at h
              exact h)
            obtain ⟨tp, htp⟩ : ∃ tp, top1 L (i + 1) S.1 = tp := ⟨_, rfl⟩
            rw [htp] at TT E1
            have TI := Aside0.mk (show tp ∈ S.1 from by obtain ⟨_, v, hv, _⟩ := TT.out; rw [← bfun_some L i, hv]; rfl)
            have WFT := Aside0.mk TT.out.1
            have EX : Aside0 (∃ u, bfun L i S.1 tp = some u) := ⟨by obtain ⟨_, v, hv, _⟩ := TT.out; exact ⟨v, hv⟩⟩
            have LE := Aside0.mk (show (S.1.erase tp).length = S.1.length - 1 from List.length_erase_of_mem TI.out)
            have LP := Aside0.mk (show 1 ≤ S.1.length from by rw [hf]; omega)
            have HFF := Aside0.mk hf2
            have KM := Aside0.mk (show ∀ w5, MapV (plainElem Try.prog 3) w5 mb n (fun y => if y = tp then none else bfun L i S.1 y) (S.1.length - (if (bfun L i S.1 tp).isSome = true then 1 else 0)) → MapV (plainElem Try.prog 3) w5 mb n (bfun L i (S.1.erase tp)) (S.1.erase tp).length from fun w5 hm5 => by
              rw [if_pos ((bfun_some L i S.1 tp).2 TI.out), ← LE.out] at hm5
              exact hm5.congr rfl (fun x _ => bfun_erase L i S.1 HI.out.1 tp x))
            have KP := Aside0.mk (show ∀ w5 w6, Kd.R (Kd.int .i64) 3 w5 w.heap.size (fun k => k = nb) (.slice (some ⟨nb, 0, none⟩) L.length L.length) (nl L 0) → Below w.heap.size w w5 → nb < w5.heap.size → MapV (plainElem Try.prog 3) w6 mb (n + 1) (fun y => if y = h then some q else bfun L i (S.1.erase tp) y) (if (bfun L i (S.1.erase tp) h).isSome = true then (S.1.erase tp).length else (S.1.erase tp).length + 1) → w5.grownBy w6 (some mb) → BSt w L sz nb mb (i + 1) w6 from
              fun w5 w6 hR hB hN hm6 hg6 => BSt.next hR hB hN HD.out.mb0 HD.out.ne (by have := HN.out; omega) hm6 hg6 (by rw [E1.out]; exact PUT.out (S.1.erase tp)) (by rw [E1.out, if_neg (fun hh => HIN.out (List.mem_of_mem_erase ((bfun_some L i _ h).1 hh)))]; simp))
            clear hf hz htp hf2
            go_wp2_with (first
              | (at_lookup; refine wpList_mapv_miss _ rfl (.tmp 32) (.tmp 33) 43 3 rfl Try.underlying43 (.int .i64 0) (zero3 _) (.lit (.int .i64 0)) [] (intElem_mk (by decide)) (fun v ps h => intElem_inv v 0 ps h) mb n S.1.length (bfun L i S.1) rfl HM.out h WFX.out rfl HF.out ?_)
              | (at_len; refine wpList_mapv_len _ rfl (.tmp 45) 43 3 rfl Try.underlying43 mb n _ _ rfl HM.out ?_; rw [HFF.out])
              | (go_at_call 36; refine (late_walk wr mb n S.1.length (bfun L i S.1) HM.out tp EX.out.choose WFT.out EX.out.choose_spec).mono ?_; rintro e w4 ⟨o4, rfl, hT4, hb4⟩; obtain rfl : o4 = tp := hT4.unique TT.out; have M4 := Aside0.mk (HM.out.below hb4); have R4 := Aside0.mk (Kd.R_below HD.out.row hb4); have B4 := Aside0.mk (below_then HD.out.below HD.out.below.size hb4); have N4 := Aside0.mk (Nat.lt_of_lt_of_le HD.out.nbl hb4.size); clear hT4 hb4 k0 k1)
              | (at_delete; refine wpList_mapv_delete _ rfl (.tmp 49) (.tmp 51) 43 3 rfl Try.underlying43 mb n S.1.length (bfun L i S.1) rfl M4.out o4 WFT.out rfl ?_; intro w5 hm5 hg5; have M5 := Aside0.mk (KM.out w5 hm5); have R5 := Aside0.mk (row_g R4.out HD.out.ne hg5); have B5 := Aside0.mk (below_g B4.out HD.out.mb0 hg5); have N5 := Aside0.mk (Nat.lt_of_lt_of_le N4.out hg5.size); have k1 := NX.out w5 R5.out; clear hm5 hg5)
              | (at_mapUpdate; refine wpList_mapv_put _ rfl (.tmp 52) (.tmp 53) (.tmp 57) 43 3 rfl Try.underlying43 mb n (S.1.erase o4).length (bfun L i (S.1.erase o4)) rfl M5.out NM.out h WFX.out rfl (.int .i64 q) rfl q [] (intElem_mk WFN.out) ?_; intro w6 hm6 hg6; have D6 := Aside0.mk (KP.out w5 w6 R5.out B5.out N5.out hm6 hg6); clear hm6 hg6 k1))
            go_roundw
            case rel => exact ⟨i + 1, by omega, by go_num, by rw [E1.out, TV.out], D6⟩
            case measure => simp [intOf]; omega
          · have hf2 : ¬ ((S.1.length : Nat) : Int) = (sz : Int) := by omega
            have E1 := Aside0.mk (show bh L sz (i + 1) = (S.1 ++ [h], S.2) by rw [HS.out, if_neg HIN.out, if_neg hz, if_neg hf])
            obtain ⟨hc, hhc⟩ : ∃ hc : Int, ((S.1.length : Nat) : Int) = hc := ⟨_, rfl⟩
            rw [hhc] at hf2
            have HHC := Aside0.mk hhc
            have KEY := Aside0.mk (show ∀ w4, MapV (plainElem Try.prog 3) w4 mb (n + 1) (fun y => if y = h then some q else bfun L i S.1 y) (if (bfun L i S.1 h).isSome = true then S.1.length else S.1.length + 1) → wr.grownBy w4 (some mb) → BSt w L sz nb mb (i + 1) w4 from
              fun w4 hm4 hg4 => BSt.next HD.out.row HD.out.below HD.out.nbl HD.out.mb0 HD.out.ne (by have := HN.out; omega) hm4 hg4 (by rw [E1.out]; exact PUT.out S.1) (by rw [E1.out, if_neg (fun hh => HIN.out ((bfun_some L i S.1 h).1 hh))]; simp))
            clear hhc hf hz
            go_wp2_with (first
              | (at_lookup; refine wpList_mapv_miss _ rfl (.tmp 32) (.tmp 33) 43 3 rfl Try.underlying43 (.int .i64 0) (zero3 _) (.lit (.int .i64 0)) [] (intElem_mk (by decide)) (fun v ps h => intElem_inv v 0 ps h) mb n S.1.length (bfun L i S.1) rfl HM.out h WFX.out rfl HF.out ?_)
              | (at_len; refine wpList_mapv_len _ rfl (.tmp 45) 43 3 rfl Try.underlying43 mb n _ _ rfl HM.out ?_; rw [HHC.out])
              | (at_mapUpdate; refine wpList_mapv_put _ rfl (.tmp 52) (.tmp 53) (.tmp 57) 43 3 rfl Try.underlying43 mb n S.1.length (bfun L i S.1) rfl HM.out NM.out h WFX.out rfl (.int .i64 q) rfl q [] (intElem_mk WFN.out) ?_; intro w4 hm4 hg4; have D4 := Aside0.mk (KEY.out w4 hm4 hg4); clear hm4 hg4 k0 k1))
            go_roundw
            case rel => exact ⟨i + 1, by omega, by go_num, by rw [E1.out, TV.out], D4⟩
            case measure => simp [intOf]; omega
    · obtain rfl : i = ln := by omega
      have B1 := Aside0.mk HD.out.below
      have EL := Aside0.mk (show (bh L sz L.length).2 = (bh L sz i).2 by rw [HLN.out])
      go_wp2
      go_ret2
      exact ⟨rfl, B1.out⟩
/-- What Best answers. -/
def bestF (l0 : List Int) (n : Int) : Option (Int × Int) := if (l0.length : Int) > 1024 then some (0, 270) else if n < 0 then some (0, 1) else if ∀ x ∈ l0, (Lit.int .u64 x).wf = true then some ((((bh l0 n.toNat l0.length).2 : Nat) : Int), 0) else none
set_option maxHeartbeats 4000000 in
set_option maxRecDepth 100000 in
theorem best_long (A : Option Addr) (c ln : Nat) (a1 : Int) (w : World) (h : ∀ w', Below w.heap.size w w' → Calls Try.prog 29 #[.slice A ln c] w' fun e w'' => e = .returned (.int .i64 270) ∧ Drawn0 w' w'') :
    Calls Try.prog 26 #[.slice A ln c, .int .i64 a1] w fun e w' => e = .returned (.tuple #[.int .i64 0, .int .i64 270]) ∧ Below w.heap.size w w' := by
  have H := Aside0.mk h
  clear h
  go_enter Try.func26, Try.ntmps26
  go_wp2_with (go_at_call 29; refine (H.out w (Below.refl _ _)).mono ?_; rintro e w1 ⟨rfl, ⟨n1, hn1⟩⟩; have B1 := Aside0.mk (show Below w.heap.size w w1 by rw [hn1]; exact pw_below_drewN (Below.refl _ _) n1); clear hn1)
  go_ret2
  exact ⟨rfl, B1.out⟩
set_option maxHeartbeats 4000000 in
set_option maxRecDepth 100000 in
theorem best_neg (A : Option Addr) (c ln : Nat) (a1 : Int) (ha : a1 < 0) (w : World) (h : ∀ w', Below w.heap.size w w' → Calls Try.prog 29 #[.slice A ln c] w' fun e w'' => e = .returned (.int .i64 0) ∧ Drawn0 w' w'') :
    Calls Try.prog 26 #[.slice A ln c, .int .i64 a1] w fun e w' => e = .returned (.tuple #[.int .i64 0, .int .i64 1]) ∧ Below w.heap.size w w' := by
  have H := Aside0.mk h
  clear h
  go_enter Try.func26, Try.ntmps26
  go_wp2_with (go_at_call 29; refine (H.out w (Below.refl _ _)).mono ?_; rintro e w1 ⟨rfl, ⟨n1, hn1⟩⟩; have B1 := Aside0.mk (show Below w.heap.size w w1 by rw [hn1]; exact pw_below_drewN (Below.refl _ _) n1); clear hn1)
  go_ret2
  exact ⟨rfl, B1.out⟩
theorem best_calls (A0 : Option Addr) (c0 : Nat) (l0 : List Int) (a1 : Int) (r1 r2 : Int) (w : World) (hr0 : Kd.C (Kd.int .u64) w A0 l0.length l0) (hc0 : l0.length ≤ c0) (h : bestF l0 a1 = some (r1, r2)) :
    Calls Try.prog 26 #[.slice A0 l0.length c0, .int .i64 a1] w fun e w' => e = .returned (.tuple #[.int .i64 r1, .int .i64 r2]) ∧ Below w.heap.size w w' := by
  unfold bestF at h
  by_cases c : (l0.length : Int) > 1024
  · rw [if_pos c] at h
    injection h with h; injection h with h1 h2; subst h1 h2
    exact best_long A0 c0 l0.length a1 w (long_call A0 c0 l0 w hr0 hc0 c)
  · rw [if_neg c] at h
    have hs : ∀ w', Below w.heap.size w w' → Calls Try.prog 29 #[.slice A0 l0.length c0] w' fun e w'' => e = .returned (.int .i64 0) ∧ Drawn0 w' w'' :=
      fun w' hb => curve_tooLong.calls A0 c0 l0 0 w' (Kd.C_below hr0 hb) hc0 (by unfold curve_tooLong.f; rw [if_neg c])
    by_cases c2 : a1 < 0
    · rw [if_pos c2] at h
      injection h with h; injection h with h1 h2; subst h1 h2
      exact best_neg A0 c0 l0.length a1 c2 w hs
    · rw [if_neg c2] at h
      by_cases hw : ∀ x ∈ l0, (Lit.int .u64 x).wf = true
      · rw [if_pos hw] at h
        injection h with h; injection h with h1 h2; subst h1 h2
        have := best_walk A0 c0 l0 (by omega) hw a1.toNat w hr0 hc0
        rw [Int.toNat_of_nonneg (by omega)] at this
        exact this
      · rw [if_neg hw] at h; cases h
end Go.Proofs.Yteaidghanfjigaa.QCurveCurves
