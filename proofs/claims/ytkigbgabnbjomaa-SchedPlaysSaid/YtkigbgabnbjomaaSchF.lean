/- A runner made.
   No condition. -/
import Derived.Test.YtkigbgabnbjomaaSchE
import Derived.ArgAppend
import Derived.BigRegion
import Derived.Deep.QuietTactic
import Derived.BigQuiet
import Derived.Deep.RegionHeld3
import Derived.ChangeAlike
import Derived.RegionTactic
import Derived.Deep.DeepCutAuto
import Derived.Deep.CutBlock
import Derived.Deep.RegionLaw
import Derived.StillTailTactics
import Derived.WalkSpells
import Derived.Lib.SliceRun
namespace Go.Proofs.Ytkigbgabnbjomaa.Sched
open Go.Proofs.Ytkigbgabnbjomaa.PSchedPlays
open Go.RowKit Go.Proofs.YtkigbgabnbjomaaW.PrintWords Go.Proofs.YtkigbgabnbjomaaW.PrintLast Go.Proofs.YtkigbgabnbjomaaW.PrintMore
attribute [local go_sem] max2_int min2_int max_two min_two   -- for this text's walks alone
set_option linter.unusedVariables false
set_option linter.unusedSimpArgs false
/-! ### The calls' plays are made -/
theorem PlayAt.apart {B b e : Nat} {ok : Nat → Prop} {f : Owner} {w w1 : World} {pb : Nat} {turns : List S26} {taken : List Int} {α : Type} {d : Kd α} {v : Value} {xs : List α} (h : PlayAt B f w pb turns taken) (hr : d.R e w b ok v xs) (he : e ≠ 67 ∧ e ≠ 26 ∧ e ≠ 3) (hg : w.grownBy w1 v.ownBlock) : PlayAt B f w1 pb turns taken := by
  obtain ⟨⟨tv, kv, hb, h1, h2⟩, h3, h4⟩ := h
  refine ⟨⟨tv, kv, blk_grown hb hg (Kd.R_ne hr hb he.1), ?_, ?_⟩, h3, h4⟩
  · refine Kd.R_mono (Kd.R_grown (R_apart h1 hr (fun q hq => ?_)) hg (fun k hk => hk.2)) (fun k hk => hk.1)
    have : q = 26 ∨ q = 3 := by
      have e1 : q ∈ [26, 3] := hq
      simpa using e1
    rcases this with rfl | rfl
    · exact Ne.symm he.2.1
    · exact Ne.symm he.2.2
  · refine Kd.R_mono (Kd.R_grown (R_apart h2 hr (fun q hq => ?_)) hg (fun k hk => hk.2)) (fun k hk => hk.1)
    have : q = 3 := by
      have e1 : q ∈ [3] := hq
      simpa using e1
    rw [this]
    exact Ne.symm he.2.2
/-- A new play is a play. -/
theorem play_new {w w1 : World} {turns : List S26} {f : Owner} {B : Nat} (hB : B ≤ w.heap.size) (h : NPSt w w1 turns turns.length) : PlayAt B (owns f w.heap.size w.heap.size) w1 w.heap.size turns [] := by
  obtain ⟨tv, hb, hr, hbl⟩ := h
  rw [List.take_length] at hr
  exact ⟨⟨tv, _, hb, Kd.R_mono (Kd.R_lower hr hB) (fun k hk => ⟨owns_new _ _ _ _ hk, by simp [Value.ownBlock]⟩), Kd.R_nil _ _ _ _ _⟩, owns_new _ _ _ _ (Nat.le_refl _), hB⟩
/-- Each call's play, where it lies. -/
structure PlaysIn (B : Nat) (f : Owner) (w : World) (L : List (List Nat)) (cs : List (List (List S26))) : Prop where
  len : L.length = cs.length
  row : ∀ (i : Nat) (l : List Nat) (cl : List (List S26)), L[i]? = some l → cs[i]? = some cl → l.length = cl.length ∧ ∀ (k pb : Nat), l[k]? = some pb → ∃ turns, cl[k]? = some turns ∧ PlayAt B f w pb turns []
  inj : ∀ (i k i' k' pb : Nat) (l l' : List Nat), L[i]? = some l → l[k]? = some pb → L[i']? = some l' → l'[k']? = some pb → i = i' ∧ k = k'
theorem PlaysIn.nil (B : Nat) (f : Owner) (w : World) : PlaysIn B f w [] [] := ⟨rfl, fun i l cl h => by simp at h, fun i k i' k' pb l l' h => by simp at h⟩
theorem PlaysIn.move {B : Nat} {f f1 : Owner} {w w1 : World} {L : List (List Nat)} {cs : List (List (List S26))} (h : PlaysIn B f w L cs) (hm : ∀ pb turns, PlayAt B f w pb turns [] → PlayAt B f1 w1 pb turns []) : PlaysIn B f1 w1 L cs :=
  ⟨h.len, fun i l cl h1 h2 => ⟨(h.row i l cl h1 h2).1, fun k pb hk => by
    obtain ⟨turns, h3, h4⟩ := (h.row i l cl h1 h2).2 k pb hk
    exact ⟨turns, h3, hm _ _ h4⟩⟩, h.inj⟩
theorem PlaysIn.newRow {B : Nat} {f : Owner} {w : World} {L : List (List Nat)} {cs : List (List (List S26))} (h : PlaysIn B f w L cs) : PlaysIn B f w (L ++ [[]]) (cs ++ [[]]) := by
  have old : ∀ (i k pb : Nat) (l : List Nat), (L ++ [[]])[i]? = some l → l[k]? = some pb → L[i]? = some l := fun i k pb l h1 h2 => by
    by_cases hi : i < L.length
    · rwa [List.getElem?_append_left hi] at h1
    · rw [List.getElem?_append_right (by omega)] at h1
      rcases Nat.eq_zero_or_pos (i - L.length) with e | e
      · rw [e] at h1; simp at h1; subst h1; simp at h2
      · obtain ⟨j, hj⟩ : ∃ j, i - L.length = j + 1 := ⟨i - L.length - 1, by omega⟩
        rw [hj] at h1; simp at h1
  refine ⟨by simp [h.len], fun i l cl h1 h2 => ?_, fun i k i' k' pb l l' h1 h2 h3 h4 => h.inj i k i' k' pb l l' (old i k pb l h1 h2) h2 (old i' k' pb l' h3 h4) h4⟩
  by_cases hi : i < L.length
  · rw [List.getElem?_append_left hi] at h1
    rw [List.getElem?_append_left (by rw [← h.len]; exact hi)] at h2
    exact h.row i l cl h1 h2
  · rw [List.getElem?_append_right (by omega)] at h1
    rw [List.getElem?_append_right (by rw [← h.len]; omega), ← h.len] at h2
    rcases Nat.eq_zero_or_pos (i - L.length) with e | e
    · rw [e] at h1 h2
      simp at h1 h2
      subst h1
      subst h2
      exact ⟨rfl, fun k pb hk => by simp at hk⟩
    · obtain ⟨j, hj⟩ : ∃ j, i - L.length = j + 1 := ⟨i - L.length - 1, by omega⟩
      rw [hj] at h1; simp at h1
/-- What stands at the end, or ahead of it. -/
theorem at_end {α : Type} {L : List α} {a b : α} {i : Nat} (h : (L ++ [a])[i]? = some b) : (i < L.length ∧ L[i]? = some b) ∨ (i = L.length ∧ b = a) := by
  by_cases hi : i < L.length
  · rw [List.getElem?_append_left hi] at h; exact .inl ⟨hi, h⟩
  · rw [List.getElem?_append_right (by omega)] at h
    rcases Nat.eq_zero_or_pos (i - L.length) with e | e
    · rw [e] at h; simp at h; exact .inr ⟨by omega, h.symm⟩
    · obtain ⟨j, hj⟩ : ∃ j, i - L.length = j + 1 := ⟨i - L.length - 1, by omega⟩
      rw [hj] at h; simp at h
theorem PlaysIn.push {B : Nat} {f : Owner} {w : World} {L : List (List Nat)} {l : List Nat} {cs : List (List (List S26))} {cl : List (List S26)} (h : PlaysIn B f w (L ++ [l]) (cs ++ [cl])) {pb : Nat} {turns : List S26} (hp : PlayAt B f w pb turns []) (hn : ∀ (i k : Nat) (l' : List Nat), (L ++ [l])[i]? = some l' → l'[k]? ≠ some pb) :
    PlaysIn B f w (L ++ [l ++ [pb]]) (cs ++ [cl ++ [turns]]) := by
  have hlen : L.length = cs.length := by have := h.len; simp at this; exact this
  have hl := h.row L.length l cl (by simp) (by rw [hlen]; simp)
  have old : ∀ (i k p : Nat) (l' : List Nat), (L ++ [l ++ [pb]])[i]? = some l' → l'[k]? = some p → (∃ l'', (L ++ [l])[i]? = some l'' ∧ l''[k]? = some p) ∨ (i = L.length ∧ k = l.length ∧ p = pb) := by
    intro i k p l' h1 h2
    rcases at_end h1 with ⟨hi, e⟩ | ⟨hi, e⟩
    · exact .inl ⟨l', by rw [List.getElem?_append_left hi]; exact e, h2⟩
    · subst e
      rcases at_end h2 with ⟨hk, e2⟩ | ⟨hk, e2⟩
      · exact .inl ⟨l, by rw [hi]; simp, e2⟩
      · exact .inr ⟨hi, hk, e2⟩
  refine ⟨by simp [hlen], fun i l' cl' h1 h2 => ?_, fun i k i' k' p l1 l2 h1 h2 h3 h4 => ?_⟩
  · rcases at_end h1 with ⟨hi, e⟩ | ⟨hi, e⟩
    · rcases at_end h2 with ⟨hi2, e2⟩ | ⟨hi2, e2⟩
      · exact h.row i l' cl' (by rw [List.getElem?_append_left hi]; exact e) (by rw [List.getElem?_append_left hi2]; exact e2)
      · omega
    · rcases at_end h2 with ⟨hi2, e2⟩ | ⟨hi2, e2⟩
      · omega
      · subst e e2
        refine ⟨by simp [hl.1], fun k p hk => ?_⟩
        rcases at_end hk with ⟨hk1, e3⟩ | ⟨hk1, e3⟩
        · obtain ⟨turns', h5, h6⟩ := hl.2 k p e3
          exact ⟨turns', by rw [List.getElem?_append_left (by rw [← hl.1]; exact hk1)]; exact h5, h6⟩
        · subst e3
          exact ⟨turns, by rw [hk1, hl.1]; simp, hp⟩
  · rcases old i k p l1 h1 h2 with ⟨m1, a1, a2⟩ | ⟨b1, b2, b3⟩
    · rcases old i' k' p l2 h3 h4 with ⟨m2, c1, c2⟩ | ⟨d1, d2, d3⟩
      · exact h.inj i k i' k' p m1 m2 a1 a2 c1 c2
      · exact absurd (by rw [d3] at a2; exact a2) (hn i k m1 a1)
    · rcases old i' k' p l2 h3 h4 with ⟨m2, c1, c2⟩ | ⟨d1, d2, d3⟩
      · exact absurd (by rw [b3] at c2; exact c2) (hn i' k' m2 c1)
      · omega
theorem info63 : (Try.prog.info? 63).map (fun i => (i.zero, i.size, i.bytes)) = some (some (.slice none 0 0), 1, 24) := by kernel_rfl
abbrev kProcs : Kd (List (Option Nat)) := Kd.slice 78 kProc
def somes (L : List (List Nat)) : List (List (Option Nat)) := L.map fun l => l.map some
def OutSt (w wr : World) (vout : Value) (cs : List (List (List S26))) : Prop :=
  ∃ (f : Owner) (L : List (List Nat)), kProcs.R 63 wr w.heap.size (fun b => w.heap.size ≤ b) vout (somes L) ∧ PlaysIn w.heap.size f wr L cs ∧ Below w.heap.size w wr
def InSt (w wr : World) (vout vl : Value) (cs : List (List (List S26))) (cl : List (List S26)) : Prop :=
  ∃ (f : Owner) (L : List (List Nat)) (l : List Nat), kProcs.R 63 wr w.heap.size (fun b => w.heap.size ≤ b ∧ some b ≠ vl.ownBlock) vout (somes L) ∧ kProc.R 78 wr w.heap.size (fun b => w.heap.size ≤ b) vl (l.map some) ∧ PlaysIn w.heap.size f wr (L ++ [l]) (cs ++ [cl]) ∧ Below w.heap.size w wr
theorem InSt.start {w wr : World} {vout : Value} {cs : List (List (List S26))} (h : OutSt w wr vout cs) : InSt w wr vout (.slice none 0 0) cs [] := by
  obtain ⟨f, L, h1, h2, h3⟩ := h
  exact ⟨f, L, [], Kd.R_mono h1 (fun k hk => ⟨hk, by simp [Value.ownBlock]⟩), Kd.R_nil _ _ _ _ _, h2.newRow, h3⟩
/-- A play is made, and appended. -/
theorem InSt.push {w wr w1 : World} {vout vl : Value} {cs : List (List (List S26))} {cl : List (List S26)} {turns : List S26} (h : InSt w wr vout vl cs cl) (hn : NPSt wr w1 turns turns.length) (hlen : (cl.length + 1) * 16 ≤ 140737488355328) :
    ∃ l : List Nat, l.length = cl.length ∧ kProc.R 78 w1 w.heap.size (fun b => w.heap.size ≤ b) vl (l.map some) ∧ Below w.heap.size w w1 ∧ w.heap.size ≤ w1.heap.size ∧ ((l.map some).length + 1) * 16 ≤ 140737488355328 ∧
      ∀ v1 w2, kProc.R 78 w2 w.heap.size (fun b => w.heap.size ≤ b) v1 (l.map some ++ [some wr.heap.size]) → Below w.heap.size w w2 → w1.grownBy w2 vl.ownBlock → (v1.ownBlock = vl.ownBlock ∨ ∃ b, v1.ownBlock = some b ∧ w1.heap.size ≤ b) → InSt w w2 vout v1 cs (cl ++ [turns]) := by
  obtain ⟨f, L, l, h1, h2, h3, h4⟩ := h
  have hbl := hn.choose_spec.2.2
  have hl := h3.row L.length l cl (by simp) (by have := h3.len; simp at this; rw [this]; simp)
  have g1 := Kd.R_below h1 hbl
  have g2 := Kd.R_below h2 hbl
  refine ⟨l, hl.1, g2, h4.trans (hbl.mono h4.size), Nat.le_trans h4.size hbl.size, by rw [List.length_map, hl.1]; exact hlen, fun v1 w2 hR hb hg hat => ?_⟩
  have pn := play_new (f := f) (B := w.heap.size) h4.size hn
  refine ⟨owns f wr.heap.size wr.heap.size, L, l ++ [wr.heap.size], ?_, by rw [List.map_append]; exact hR, ?_, hb⟩
  · have g3 := Kd.R_grown g1 hg (fun k hk => hk.2)
    have g4 := Kd.R_bound g1
    have g5 : kProcs.R 63 w1 w.heap.size (fun b => (w.heap.size ≤ b ∧ some b ≠ v1.ownBlock) ∧ some b ≠ vl.ownBlock) vout (somes L) := Kd.R_mono g4 (fun k hk => by
      refine ⟨⟨hk.1.1, ?_⟩, hk.1.2⟩
      rcases hat with e | ⟨b, e, hle⟩
      · rw [e]; exact hk.1.2
      · rw [e]; intro e2; injection e2 with e2; have := hk.2.2.1; omega)
    exact Kd.R_mono (Kd.R_grown g5 hg (fun k hk => hk.2)) (fun k hk => hk.1)
  · have old : PlaysIn w.heap.size (owns f wr.heap.size wr.heap.size) w1 (L ++ [l]) (cs ++ [cl]) := h3.move (fun pb turns' hp => hp.mv (o := fun _ => False) (Mv.of_below (B := wr.heap.size) hbl (Nat.le_refl _) (fun k hk => owns_old _ _ _ k hk)) id)
    have new : PlaysIn w.heap.size (owns f wr.heap.size wr.heap.size) w1 (L ++ [l ++ [wr.heap.size]]) (cs ++ [cl ++ [turns]]) := old.push pn (fun i k l' hi hk => by
      by_cases hic : i < (cs ++ [cl]).length
      · obtain ⟨_, hr⟩ := h3.row i l' _ hi (List.getElem?_eq_getElem hic)
        obtain ⟨turns', _, hp⟩ := hr k _ hk
        have := hp.lt
        omega
      · have hlt := (List.getElem?_eq_some_iff.1 hi).1
        rw [h3.len] at hlt
        exact hic hlt)
    exact new.move (fun pb turns' hp => hp.apart g2 (by decide) hg)
/-- A row of calls is appended. -/
theorem InSt.close {w wr : World} {vout vl : Value} {cs : List (List (List S26))} {cl : List (List S26)} (h : InSt w wr vout vl cs cl) :
    ∃ (L : List (List Nat)) (l : List Nat), L.length = cs.length ∧ kProcs.R 63 wr w.heap.size (fun b => w.heap.size ≤ b) vout (somes L) ∧ kProcs.M wr w.heap.size (fun b => vl.ownBlock = some b) (l.map some) [vl] ∧ (∀ k, vl.ownBlock = some k → w.heap.size ≤ k ∧ some k ≠ vout.ownBlock) ∧ Below w.heap.size w wr ∧
      ∀ v1 w2, kProcs.R 63 w2 w.heap.size (fun b => w.heap.size ≤ b) v1 (somes L ++ [l.map some]) → Below w.heap.size w w2 → wr.grownBy w2 vout.ownBlock → OutSt w w2 v1 (cs ++ [cl]) := by
  obtain ⟨f, L, l, h1, h2, h3, h4⟩ := h
  have hL : L.length = cs.length := by have := h3.len; simp at this; exact this
  refine ⟨L, l, hL, Kd.R_mono h1 (fun k hk => hk.1), ⟨vl, rfl, ?_⟩, fun k hk => ⟨h2.1 k hk, fun e => (h1.1 k e.symm).2 hk.symm⟩, h4, fun v1 w2 hR hb hg => ?_⟩
  · obtain ⟨_, inner, ho, hr⟩ := h2
    exact ⟨fun k hk => hk, inner, ho, hr⟩
  · refine ⟨f, L ++ [l], by unfold somes; rw [List.map_append]; exact hR, h3.move (fun pb turns hp => hp.apart (Kd.R_mono h1 (fun k hk => hk.1)) (by decide) hg), hb⟩
def Procs (w : World) (calls : List (List (List S26))) (en : Ending) (w' : World) : Prop := ∃ v, en = .returned v ∧ OutSt w w' v calls
/-- How large calls may be. -/
def Sizes (calls : List (List (List S26))) : Prop := calls.length * 24 ≤ 140737488355328 ∧ ∀ cl ∈ calls, cl.length * 24 ≤ 140737488355328 ∧ ∀ turns ∈ cl, turns.length * 32 ≤ 140737488355328 ∧ ∀ y ∈ turns, y.f2.length * 8 ≤ 140737488355328
set_option maxHeartbeats 8000000 in
set_option maxRecDepth 100000 in
theorem procs_walk {w : World} {A : Option Addr} {c : Nat} {calls : List (List (List S26))} (hC : (Kd.slice 22 (Kd.slice 26 k26)).C w A calls.length calls) (hs : Sizes calls) :
    Calls Try.prog 17 #[.slice A calls.length c] w (Procs w calls) := by
  have HC := Aside0.mk hC
  have HS := Aside0.mk hs
  have S0 : Aside0 (OutSt w w (.slice none 0 0) (calls.take 0)) := ⟨fun _ => 0, [], Kd.R_nil _ _ _ _ _, PlaysIn.nil _ _ _, Below.refl _ _⟩
  obtain ⟨n, hn⟩ : ∃ n, calls.length = n := ⟨_, rfl⟩
  have HN := Aside0.mk hn
  have hn24 : n * 24 ≤ 140737488355328 := by rw [← hn]; exact hs.1
  rw [hn]
  clear hC hs hn
  go_enter Try.func17, Try.ntmps17
  go_wp2
  go_loopw [3, 4] (fun vo idx wr => ∃ i : Nat, i ≤ n ∧ idx = .int .i64 (i : Int) ∧ Aside0 (OutSt w wr vo (calls.take i))) (fun _ idx _ => n - (intOf idx).toNat)
  case atStart => exact ⟨0, Nat.zero_le _, rfl, S0⟩
  case round =>
    obtain ⟨i, hi, rfl, SI⟩ := hrel
    by_cases hlt : i < n
    · have HBR : Aside0 (Below w.heap.size w wr) := ⟨by obtain ⟨_, _, _, _, h⟩ := SI.out; exact h⟩
      obtain ⟨cl, hcl⟩ : ∃ cl, rd_L5 calls (i : Int) = cl := ⟨_, rfl⟩
      have hil : i < calls.length := by have := HN.out; omega
      have hmem : cl ∈ calls := by
        rw [← hcl]
        simp only [rd_L5, Int.toNat_natCast]
        rw [List.getD_eq_getElem?_getD, List.getElem?_eq_getElem hil]
        exact List.getElem_mem hil
      have HT : Aside0 (calls.take (i + 1) = calls.take i ++ [cl]) := ⟨by
        rw [List.take_succ_eq_append_getElem hil, ← hcl]
        simp [rd_L5, List.getD_eq_getElem?_getD, List.getElem?_eq_getElem hil]⟩
      have HCL := Aside0.mk hcl
      have HSZ := Aside0.mk (HS.out.2 cl hmem)
      obtain ⟨m, hm⟩ : ∃ m, cl.length = m := ⟨_, rfl⟩
      have HM := Aside0.mk hm
      have hm24 : m * 24 ≤ 140737488355328 := by rw [← hm]; exact HSZ.out.1
      have RD : Aside0 (∀ wi, Below w.heap.size w wi → ∃ ad A0 c0, A = some ad ∧ wi.cell? (ad.add i) = some (.slice A0 m c0) ∧ (Kd.slice 26 k26).C wi A0 m cl) := ⟨fun wi hb => by
        obtain ⟨ad, A0, c0, e, h1, h2, h3⟩ := at_L5 (Kd.C_below HC.out hb) (i : Int) (by omega) (by have := HN.out; omega)
        rw [hcl, hm] at h1 h3
        exact ⟨ad, A0, c0, e, h1, h3⟩⟩
      clear hcl hil hmem hm
      obtain ⟨wo, hwo⟩ : ∃ wo, wo = wr := ⟨_, rfl⟩
      rw [← hwo] at SI HBR
      rw [← hwo]
      clear hwo
      go_upto_region 7 with (fail)
      go_loopw [5, 6] (fun vl idx wi => ∃ k : Nat, k ≤ m ∧ idx = .int .i64 (k : Int) ∧ Aside0 (InSt w wi u3 vl (calls.take i) (cl.take k))) (fun _ idx _ => m - (intOf idx).toNat)
      case atStart => exact ⟨0, Nat.zero_le _, rfl, ⟨InSt.start SI.out⟩⟩
      case round =>
        obtain ⟨k, hk, rfl, SK⟩ := hrel
        have HBi : Aside0 (Below w.heap.size w wr) := ⟨by obtain ⟨_, _, _, _, _, _, h⟩ := SK.out; exact h⟩
        obtain ⟨ad, A0, c0, ea, z0, Cz⟩ := RD.out wr HBi.out
        subst ea
        have ix0 : decide ((i : Int) < (n : Int)) = true := decide_eq_true (by omega)
        by_cases hlt2 : k < m
        · obtain ⟨ad0, A1, c1, ea0, y0, hl1, Cy⟩ := at_L4 Cz (k : Int) (by omega) (by omega)
          subst ea0
          simp only [Int.toNat_natCast] at y0
          obtain ⟨turns, htn⟩ : ∃ turns, rd_L4 cl (k : Int) = turns := ⟨_, rfl⟩
          rw [htn] at y0 hl1 Cy
          have hkl : k < cl.length := by have := HM.out; omega
          have hmem : turns ∈ cl := by
            rw [← htn]
            simp only [rd_L4, Int.toNat_natCast]
            rw [List.getD_eq_getElem?_getD, List.getElem?_eq_getElem hkl]
            exact List.getElem_mem hkl
          have HT2 : Aside0 (cl.take (k + 1) = cl.take k ++ [turns]) := ⟨by
            rw [List.take_succ_eq_append_getElem hkl, ← htn]
            simp [rd_L4, List.getD_eq_getElem?_getD, List.getElem?_eq_getElem hkl]⟩
          have hsz := HSZ.out.2 turns hmem
          have MC := Aside0.mk (newPlay_walk (c := c1) Cy hsz.1 hsz.2)
          have HL16 := Aside0.mk (show ((cl.take k).length + 1) * 16 ≤ 140737488355328 by rw [List.length_take]; omega)
          obtain ⟨tl, htl⟩ : ∃ tl, turns.length = tl := ⟨_, rfl⟩
          rw [htl] at MC y0
          have ix1 : decide ((k : Int) < (m : Int)) = true := decide_eq_true (by omega)
          obtain ⟨pb, hpb⟩ : ∃ pb, wr.heap.size = pb := ⟨_, rfl⟩
          have HPB := Aside0.mk hpb
          clear Cz hl1 Cy htn hkl hmem hsz
          clear htl hpb
          go_wp2_with (first
            | (go_at_call 10; refine MC.out.mono ?_; rintro e w1 ⟨rfl, hn⟩; have PU := SK.out.push hn HL16.out; rw [HPB.out]; rw [HPB.out] at PU; obtain ⟨l, q1, q2, q3, q4, q5, q6⟩ := PU; have Q2 := Aside0.mk q2; have Q3 := Aside0.mk q3; have Q4 := Aside0.mk q4; have Q5 := Aside0.mk q5; have Q6 := Aside0.mk q6; clear hn q1 q2 q3 q4 q5 q6)
            | (at_builtin; refine Kd.R_append kProc (w0 := w) w.heap.size rfl (.tmp 22) (.tmp 32) 63 78 .nilIface 16 rfl Try.underlying63 info78 rfl (by decide) (by decide) _ (l.map some) (some pb) [procV (some pb)] (fun b => w.heap.size ≤ b) (fun _ => False) rfl rfl rfl (fun _ h => h.elim) (fun b h => Nat.le_trans Q4.out h) Q2.out Q3.out Q4.out Q5.out ?_; intro v1 w2 hR hb hg hat; have SK1 := Aside0.mk (Q6.out v1 w2 hR hb hg hat); clear hR hb hg hat))
          go_roundw
          case rel => exact ⟨k + 1, by omega, by go_num, ⟨by rw [HT2.out]; exact SK1.out⟩⟩
          case measure => simp [intOf]; omega
        · have hkl : k = m := by omega
          have CL := (show InSt w wr u3 u5 (calls.take i) cl by have h := SK.out; rw [hkl, ← HM.out, List.take_length] at h; exact h).close
          obtain ⟨L, l, q0, q1, q2, q3, q4, q5⟩ := CL
          obtain ⟨vl, hvl⟩ : ∃ vl, u5 = vl := ⟨_, rfl⟩
          have q2' := q2
          obtain ⟨v', e', q2''⟩ := q2'
          injection e' with e'
          obtain ⟨Al, cvl, hv⟩ := Kd.R_slice q2''
          rw [← e', List.length_map] at hv
          subst hvl
          subst hv
          have Q1 := Aside0.mk q1
          have Q2 := Aside0.mk q2
          have Q3 := Aside0.mk q3
          have Q4 := Aside0.mk q4
          have Q5 := Aside0.mk q5
          have Q0 := Aside0.mk (show ((somes L).length + 1) * 24 ≤ 140737488355328 by
            unfold somes
            rw [List.length_map, q0, List.length_take]
            omega)
          have Q6 := Aside0.mk q4.size
          clear q0 q1 q2 q3 q4 q5 q2'' e' Cz
          go_wp2_with (at_builtin; refine Kd.R_append kProcs (w0 := w) w.heap.size rfl (.tmp 34) (.tmp 36) 40 63 (.slice none 0 0) 24 rfl Try.underlying40 info63 rfl (by decide) (by decide) _ (somes L) (l.map some) _ (fun b => w.heap.size ≤ b) (fun b => (Value.slice Al l.length cvl).ownBlock = some b) rfl rfl Q2.out (fun b h => Q3.out b h) (fun b h => Nat.le_trans Q6.out h) Q1.out Q4.out Q6.out Q0.out ?_; intro v1 w2 hR hb hg hat; have SI1 := Aside0.mk (Q5.out v1 w2 hR hb hg); clear hR hb hg hat)
          go_roundw
          case rel => exact ⟨i + 1, by omega, by go_num, ⟨by rw [HT.out]; exact SI1.out⟩⟩
          case measure => simp [intOf]; omega
    · have hkl : i = n := by omega
      subst hkl
      go_wp2
      go_ret
      exact ⟨_, rfl, by have h := SI.out; rw [← HN.out, List.take_length] at h; exact h⟩
/-! ### A new runner -/
def longs (L : List (List (Option Nat))) : Bool := L.any fun l => decide (256 < l.length)
theorem at_procs {w : World} {A : Option Addr} {n : Nat} {xs : List (List (Option Nat))} (h : kProcs.C w A n xs) (k : Nat) (h1 : k < n) : ∃ ad A0 c0, A = some ad ∧ w.cell? (ad.add k) = some (.slice A0 (xs.getD k []).length c0) ∧ (xs.getD k []).length ≤ c0 ∧ kProc.C w A0 (xs.getD k []).length (xs.getD k []) := by
  obtain ⟨ad, c, e, _, hK, hc0⟩ := Kd.C_get h ([] : List (Option Nat)) (k : Int) (by omega) (by omega)
  simp only [Int.toNat_natCast] at hK hc0
  have hc : ∀ j u, c[j]? = some u → w.cell? (ad.add (k * 1 + j)) = some u := hc0
  obtain ⟨A0, c0, rfl, l0, g0⟩ := hK
  exact ⟨ad, A0, c0, e, by have hq := hc 0 _ rfl; rwa [Nat.mul_one, Nat.add_zero] at hq, l0, g0⟩
theorem long_walk {A : Option Addr} {n c : Nat} {w : World} : Calls Try.prog 35 #[.slice A n c] w fun e w' => e = .returned (.bool (decide (256 < n))) ∧ w = w' := by
  by_cases h : 256 < n
  · rw [decide_eq_true h]
    have g : decide ((256 : Int) < (n : Int)) = true := decide_eq_true (by omega)
    go_enter Try.func35, Try.ntmps35
    go_wp2
    go_ret
    exact ⟨by first | rfl | simp [h], rfl⟩
  · rw [decide_eq_false h]
    have g : decide ((256 : Int) < (n : Int)) = false := decide_eq_false (by omega)
    go_enter Try.func35, Try.ntmps35
    go_wp2
    go_ret
    exact ⟨by first | rfl | simp [h], rfl⟩
def Found (w : World) (b : Bool) (en : Ending) (w' : World) : Prop := ∃ r : Int, en = .returned (.int .i64 r) ∧ decide (0 ≤ r) = b ∧ w = w'
set_option maxHeartbeats 4000000 in
set_option maxRecDepth 100000 in
theorem index_walk {w : World} {A : Option Addr} {c : Nat} {xs : List (List (Option Nat))} (hC : kProcs.C w A xs.length xs) :
    Calls Try.prog 49 #[.slice A xs.length c, .func (.func 35) #[] #[]] w (Found w (longs xs)) := by
  have HC := Aside0.mk hC
  have hmax : xs.length ≤ 9223372036854775807 := hC.2.1
  obtain ⟨n, hn⟩ : ∃ n, xs.length = n := ⟨_, rfl⟩
  have HN := Aside0.mk hn
  rw [hn] at hmax HC
  rw [hn]
  clear hC hn
  go_enter Try.func49, Try.ntmps49
  go_wp2
  go_loop [8] (fun idx => ∃ k : Nat, k ≤ n ∧ idx = .int .i64 (k : Int) ∧ Aside0 (longs (xs.take k) = false)) (fun idx => n - (intOf idx).toNat)
  case atStart => exact ⟨0, Nat.zero_le _, rfl, ⟨rfl⟩⟩
  case round =>
    obtain ⟨k, hk, rfl, SK⟩ := hrel
    by_cases hlt : k < n
    · obtain ⟨ad, A0, c0, ea, z0, _, _⟩ := at_procs HC.out k hlt
      subst ea
      have hkl : k < xs.length := by have := HN.out; omega
      have HT := Aside0.mk (show longs (xs.take (k + 1)) = decide (256 < (xs.getD k []).length) by
        have h := SK.out
        unfold longs at h ⊢
        rw [List.take_succ_eq_append_getElem hkl, List.any_append, h, List.getD_eq_getElem?_getD, List.getElem?_eq_getElem hkl]
        simp)
      have HA := Aside0.mk (show longs (xs.take (k + 1)) = true → longs xs = true from fun h => by
        unfold longs at h ⊢
        rw [List.any_eq_true] at h ⊢
        obtain ⟨x, h1, h2⟩ := h
        exact ⟨x, List.mem_of_mem_take h1, h2⟩)
      obtain ⟨m, hm⟩ : ∃ m, (xs.getD k []).length = m := ⟨_, rfl⟩
      rw [hm] at z0 HT
      have ix : decide ((k : Int) < (n : Int)) = true := decide_eq_true (by omega)
      clear hm hkl
      by_cases hl : 256 < m
      · have LW := Aside0.mk (@long_walk A0 m c0 w)
        rw [decide_eq_true hl] at LW HT
        clear hl
        go_wp2_with (go_at_call 35; refine LW.out.mono ?_; rintro e w' ⟨rfl, rfl⟩)
        go_ret
        exact ⟨_, rfl, by rw [HA.out HT.out]; simp, rfl⟩
      · have LW := Aside0.mk (@long_walk A0 m c0 w)
        rw [decide_eq_false hl] at LW HT
        clear hl
        go_wp2_with (go_at_call 35; refine LW.out.mono ?_; rintro e w' ⟨rfl, rfl⟩)
        go_round
        case rel => exact ⟨k + 1, by omega, by go_num, HT⟩
        case measure => simp [intOf]; omega
    · have hkl : k = n := by omega
      subst hkl
      go_wp2
      go_ret
      exact ⟨_, rfl, by have h := SK.out; rw [← HN.out, List.take_length] at h; rw [h]; rfl, rfl⟩
set_option maxHeartbeats 1000000 in
theorem contains_walk {w : World} {A : Option Addr} {c : Nat} {xs : List (List (Option Nat))} (hC : kProcs.C w A xs.length xs) :
    Calls Try.prog 36 #[.slice A xs.length c, .func (.func 35) #[] #[]] w fun e w' => e = .returned (.bool (longs xs)) ∧ w = w' := by
  have H := Aside0.mk (index_walk (c := c) hC)
  obtain ⟨n, hn⟩ : ∃ n, xs.length = n := ⟨_, rfl⟩
  rw [hn] at H
  rw [hn]
  clear hC hn
  go_enter Try.func36, Try.ntmps36
  go_wp2_with (go_at_call 49; refine H.out.mono ?_; rintro e w' ⟨r, rfl, hr, rfl⟩; have HR := Aside0.mk hr; clear hr)
  go_ret
  exact ⟨by rw [← HR.out]; rfl, rfl⟩
theorem info75 : (Try.prog.info? 75).map (fun i => (i.zero, i.size, i.bytes)) = some (some (.pointer none), 1, 8) := by kernel_rfl
/-- The runner's tasks, as far as they are made. -/
def NewSt (w wr : World) (xs : List (List (Option Nat))) (k : Nat) : Prop :=
  ∃ (tv : Value) (tb : Nat → Nat) (cv : Nat → Value), wr.heap[w.heap.size]? = some (.cells #[tv, .int .i64 0, .slice none 0 0] 74 (0, 0)) ∧ kPtr.R 75 wr w.heap.size (fun b => w.heap.size ≤ b) tv ((List.range k).map tb) ∧
    (∀ t, t < k → wr.heap[tb t]? = some (.cells #[cv t, .int .i64 0, .bool false, .bool false] 80 (0, 0)) ∧ w.heap.size ≤ tb t ∧ kProc.R 78 wr w.heap.size (fun b => w.heap.size ≤ b) (cv t) (xs.getD t [])) ∧
    (∀ t u, t < k → u < k → tb t = tb u → t = u) ∧ Below w.heap.size w wr

/-- One task more. -/
theorem NewSt.step {w wr wd w3 : World} {xs : List (List (Option Nat))} {k : Nat} {tv v3 : Value} {tb : Nat → Nat} {cv : Nat → Value}
    (h1 : wr.heap[w.heap.size]? = some (.cells #[tv, .int .i64 0, .slice none 0 0] 74 (0, 0))) (h2 : kPtr.R 75 wr w.heap.size (fun b => w.heap.size ≤ b) tv ((List.range k).map tb))
    (h3 : ∀ t, t < k → wr.heap[tb t]? = some (.cells #[cv t, .int .i64 0, .bool false, .bool false] 80 (0, 0)) ∧ w.heap.size ≤ tb t ∧ kProc.R 78 wr w.heap.size (fun b => w.heap.size ≤ b) (cv t) (xs.getD t []))
    (h4 : ∀ t u, t < k → u < k → tb t = tb u → t = u) (h5 : Below w.heap.size w wr) (hd : Below wr.heap.size wr wd) (hs : wr.heap.size ≤ wd.heap.size) (hR3 : kProc.R 78 w3 wd.heap.size (fun b => wd.heap.size ≤ b) v3 (xs.getD k [])) (hb3 : Below wd.heap.size wd w3)
    {v1 : Value} {w4 : World} (hR : kPtr.R 75 w4 w.heap.size (fun b => w.heap.size ≤ b) v1 ((List.range k).map tb ++ [w3.heap.size])) (hB : Below w.heap.size w w4) (hg : (w3.alloc (.cells #[v3, .int .i64 0, .bool false, .bool false] 80)).grownBy w4 tv.ownBlock) :
    NewSt w (w4.setCell ⟨w.heap.size, 0, none⟩ v1) xs (k + 1) := by
  have hw3 : Below wr.heap.size wr w3 := hd.trans (hb3.mono hs)
  have hwx : Below wr.heap.size wr (w3.alloc (.cells #[v3, .int .i64 0, .bool false, .bool false] 80)) := hw3.alloc hw3.size _
  have k2 := Kd.R_below h2 hwx
  have nb : ∀ {g : Nat} {t : TypeId} {cells : Array Value}, (w3.alloc (.cells #[v3, .int .i64 0, .bool false, .bool false] 80)).heap[g]? = some (.cells cells t (0, 0)) → (75 : Nat) ≠ t → w4.heap[g]? = some (.cells cells t (0, 0)) := fun hg0 ht => blk_grown hg0 hg (Kd.R_ne k2 hg0 ht)
  have hb4 := nb (blk_below h1 hwx) (by decide)
  have hnew := nb (blk_new w3 (.cells #[v3, .int .i64 0, .bool false, .bool false] 80)) (by decide)
  have hws : w.heap.size ≤ w3.heap.size := Nat.le_trans h5.size hw3.size
  have hlt := blk_lt h1
  have row : ∀ {v : Value} {l : List (Option Nat)}, kProc.R 78 (w3.alloc (.cells #[v3, .int .i64 0, .bool false, .bool false] 80)) w.heap.size (fun b => w.heap.size ≤ b) v l → kProc.R 78 (w4.setCell ⟨w.heap.size, 0, none⟩ v1) w.heap.size (fun b => w.heap.size ≤ b) v l := fun hr =>
    Kd.R_set (Kd.R_mono (Kd.R_grown (R_apart hr k2 (by decide)) hg (fun k hk => hk.2)) (fun k hk => hk.1)) hb4 (by decide) 0 v1
  refine ⟨v1, fun t => if t = k then w3.heap.size else tb t, fun t => if t = k then v3 else cv t, blk_put hb4 0 v1 rfl, ?_, ?_, ?_, hB.setCell (Nat.le_refl _) v1⟩
  · have e : (List.range (k + 1)).map (fun t => if t = k then w3.heap.size else tb t) = (List.range k).map tb ++ [w3.heap.size] := by
      rw [List.range_succ, List.map_append]
      congr 1
      · apply List.map_congr_left
        intro t ht
        rw [List.mem_range] at ht
        rw [if_neg (by omega)]
      · simp
    rw [e]
    exact Kd.R_set hR hb4 (by decide) 0 v1
  · intro t ht
    by_cases e : t = k
    · subst e
      simp only [if_true]
      refine ⟨blk_far hnew (p := ⟨w.heap.size, 0, none⟩) (show w3.heap.size ≠ w.heap.size by have := hw3.size; omega) v1, hws, row ?_⟩
      exact Kd.R_mono (Kd.R_lower (Kd.R_below hR3 (below_alloc (Below.refl _ _) _)) (by have := hb3.size; have := h5.size; omega)) (fun b hb => by have := h5.size; omega)
    · simp only [if_neg e]
      obtain ⟨g1, g2, g3⟩ := h3 t (by omega)
      exact ⟨blk_far (nb (blk_below g1 hwx) (by decide)) (p := ⟨w.heap.size, 0, none⟩) (blk_ne g1 h1 (by decide)) v1, g2, row (Kd.R_below g3 hwx)⟩
  · intro t u ht hu
    have old : ∀ s, s < k → tb s < w3.heap.size := fun s hs => Nat.lt_of_lt_of_le (blk_lt (h3 s hs).1) hw3.size
    by_cases e : t = k
    · by_cases e2 : u = k
      · intro _; omega
      · simp only [e, if_true, if_neg e2]; intro e3; have := old u (by omega); omega
    · by_cases e2 : u = k
      · simp only [e2, if_true, if_neg e]; intro e3; have := old t (by omega); omega
      · simp only [if_neg e, if_neg e2]; exact h4 t u (by omega) (by omega)
def Newed (w : World) (xs : List (List (Option Nat))) (en : Ending) (w' : World) : Prop := en = .returned (.tuple #[.pointer (some ⟨w.heap.size, 0, none⟩), .int .i64 0]) ∧ NewSt w w' xs xs.length
def Refused (w : World) (en : Ending) (w' : World) : Prop := en = .returned (.tuple #[.pointer none, .int .i64 3]) ∧ w = w'
set_option maxHeartbeats 1000000 in
theorem new_many {w : World} {A : Option Addr} {n c : Nat} (hn : 16 < n) : Calls Try.prog 16 #[.slice A n c] w (Refused w) := by
  have g : decide ((16 : Int) < (n : Int)) = true := decide_eq_true (by omega)
  go_enter Try.func16, Try.ntmps16
  go_wp2
  go_ret2
  exact ⟨rfl, rfl⟩
set_option maxHeartbeats 1000000 in
theorem new_long {w : World} {A : Option Addr} {c : Nat} {xs : List (List (Option Nat))} (hC : kProcs.C w A xs.length xs) (hn : xs.length ≤ 16) (hl : longs xs = true) : Calls Try.prog 16 #[.slice A xs.length c] w (Refused w) := by
  have H := Aside0.mk (contains_walk (c := c) hC)
  rw [hl] at H
  obtain ⟨n, hn2⟩ : ∃ n, xs.length = n := ⟨_, rfl⟩
  rw [hn2] at H hn
  rw [hn2]
  have g : decide ((16 : Int) < (n : Int)) = false := decide_eq_false (by omega)
  clear hC hl hn2
  go_enter Try.func16, Try.ntmps16
  go_wp2_with (go_at_call 36; refine H.out.mono ?_; rintro e w' ⟨rfl, rfl⟩)
  go_ret2
  exact ⟨rfl, rfl⟩
set_option maxHeartbeats 8000000 in
set_option maxRecDepth 100000 in
theorem new_walk {w : World} {A : Option Addr} {c : Nat} {xs : List (List (Option Nat))} (hC : kProcs.C w A xs.length xs) (hn : xs.length ≤ 16) (hl : longs xs = false) : Calls Try.prog 16 #[.slice A xs.length c] w (Newed w xs) := by
  have H := Aside0.mk (contains_walk (c := c) hC)
  have HC := Aside0.mk hC
  rw [hl] at H
  have S0 : Aside0 (NewSt w (w.alloc (.cells #[.slice none 0 0, .int .i64 0, .slice none 0 0] 74)) xs 0) := ⟨_, fun _ => 0, fun _ => .slice none 0 0, blk_new w _, Kd.R_nil _ _ _ _ _, fun t ht => by omega, fun t u ht => by omega, below_alloc (Below.refl _ _) _⟩
  have HLEN : Aside0 (∀ t, t < xs.length → (xs.getD t []).length ≤ 256) := ⟨fun t ht => by
    unfold longs at hl
    rw [List.any_eq_false] at hl
    have h1 := hl (xs.getD t []) (by rw [List.getD_eq_getElem?_getD, List.getElem?_eq_getElem ht]; exact List.getElem_mem ht)
    simp at h1
    rwa [List.getD_eq_getElem?_getD]⟩
  obtain ⟨n, hn2⟩ : ∃ n, xs.length = n := ⟨_, rfl⟩
  have HN := Aside0.mk hn2
  rw [hn2] at H hn HC HLEN
  rw [hn2]
  have g : decide ((16 : Int) < (n : Int)) = false := decide_eq_false (by omega)
  obtain ⟨rb, hrb⟩ : ∃ rb, w.heap.size = rb := ⟨_, rfl⟩
  have HRB := Aside0.mk hrb
  clear hC hl hn2
  go_enter Try.func16, Try.ntmps16
  go_wp2_with (go_at_call 36; refine H.out.mono ?_; rintro e w' ⟨rfl, rfl⟩)
  go_loopw [20] (fun idx wr => ∃ k : Nat, k ≤ n ∧ idx = .int .i64 (k : Int) ∧ Aside0 (NewSt w wr xs k)) (fun idx _ => n - (intOf idx).toNat)
  case atStart => exact ⟨0, Nat.zero_le _, rfl, S0⟩
  case round =>
    obtain ⟨k, hk, rfl, SK⟩ := hrel
    by_cases hlt : k < n
    · obtain ⟨tv, tb, cv, h1, h2, h3, h4, h5⟩ := SK.out
      obtain ⟨At, ct, htv⟩ := Kd.R_slice h2
      rw [List.length_map, List.length_range] at htv
      subst htv
      have HS := Aside0.mk (And.intro h1 (And.intro h2 (And.intro h3 (And.intro h4 h5))))
      rw [hrb] at h1
      have HY := Aside0.mk h1
      have y0 := blk_cell h1 0
      simp only [List.getElem?_toArray, List.getElem?_cons_zero, List.getElem?_cons_succ] at y0
      obtain ⟨ad, Ai, ci, ea, z0, hli, Ci⟩ := at_procs (Kd.C_below HC.out h5) k hlt
      subst ea
      obtain ⟨li, hll⟩ : ∃ li, (xs.getD k []).length = li := ⟨_, rfl⟩
      rw [hll] at z0 hli Ci
      have HCI := Aside0.mk Ci
      have HLI := Aside0.mk hli
      have HLL := Aside0.mk hll
      have HLB := Aside0.mk (show li * 16 ≤ 140737488355328 by have := HLEN.out k hlt; omega)
      have BA : Aside0 (∀ w3, ∀ {wd : World}, Below wr.heap.size wr wd → Below wd.heap.size wd w3 → ∀ o : Obj, Below w.heap.size w (w3.alloc o)) := ⟨fun w3 wd hd hb o => by
        have h6 := h5.trans (hd.mono h5.size)
        exact below_alloc (h6.trans (hb.mono h6.size)) o⟩
      have RA : Aside0 (∀ w3, ∀ {wd : World}, Below wr.heap.size wr wd → Below wd.heap.size wd w3 → ∀ o : Obj, kPtr.R 75 (w3.alloc o) w.heap.size (fun b => w.heap.size ≤ b) (.slice At k ct) ((List.range k).map tb)) := ⟨fun w3 wd hd hb o => by
        have h6 := hd.trans (hb.mono hd.size)
        exact Kd.R_below h2 (h6.alloc h6.size o)⟩
      have HL8 : Aside0 ((((List.range k).map tb).length + 1) * 8 ≤ 140737488355328) := ⟨by rw [List.length_map, List.length_range]; omega⟩
      have HL9 : Aside0 (∀ b : Nat, ((List.range k).map tb ++ [b]).length = k + 1) := ⟨fun b => by simp⟩
      have NE4 : Aside0 (some rb ≠ (Value.slice At k ct).ownBlock) := ⟨Kd.R_ne h2 h1 (by decide)⟩
      have ix : decide ((k : Int) < (n : Int)) = true := decide_eq_true (by omega)
      clear h1 h2 h3 h4 h5 hli Ci hll
      go_upto_region 8 with (fail)
      refine start_ (n := 14) (S := fun w' => w'.cell? ⟨rb, 0, none⟩ = some (.slice At k ct)) (ds := [10, 13]) #[F,F,F,F,F,F,F,F,F,F,F,F,F,F] (by kernel_rfl) rfl rfl (y0) (fun hHeld => ?_)
      generalize hwd : wr.drew = wd at hHeld ⊢
      have BD : Aside0 (Below wr.heap.size wr wd) := ⟨by rw [← hwd]; exact below_drew (Below.refl _ _)⟩
      have y1 : wd.cell? ⟨rb, 0, none⟩ = some (.slice At k ct) := hHeld
      clear hwd
      refine pure_ (i := 0) (N := some 24) (v := ?_) (a' := ?_) #[T,F,F,F,F,F,F,F,F,F,F,F,F,F] rfl rfl (by kernel_rfl) (fun _ _ _ h => h) (Or.inl ⟨by rfl, ?_⟩) ?_ ?_
      rotate_left
      · intro w'
        go_simp
        with_reducible rfl
      rotate_left
      · simp only [Act.put, sA, s0_, sS, i64_w, i32_w]
        rfl
      refine pure_ (i := 1) (N := some 25) (v := ?_) (a' := ?_) #[T,T,F,F,F,F,F,F,F,F,F,F,F,F] rfl rfl (by kernel_rfl) (fun _ _ _ h => h) (Or.inl ⟨by rfl, ?_⟩) ?_ ?_
      rotate_left
      · intro w'
        go_simp
        with_reducible rfl
      rotate_left
      · simp only [Act.put, sA, s0_, sS, i64_w, i32_w]
        rfl
      refine pure_ (i := 2) (N := some 26) (v := ?_) (a' := ?_) #[T,T,T,F,F,F,F,F,F,F,F,F,F,F] rfl rfl (by kernel_rfl) (fun _ _ _ h => h) (Or.inl ⟨by rfl, ?_⟩) ?_ ?_
      rotate_left
      · intro w'
        go_simp
        with_reducible rfl
      rotate_left
      · simp only [Act.put, sA, s0_, sS, i64_w, i32_w]
        rfl
      refine pure_ (i := 3) (N := some 27) (v := ?_) (a' := ?_) #[T,T,T,T,F,F,F,F,F,F,F,F,F,F] rfl rfl (by kernel_rfl) (fun _ _ _ h => h) (Or.inl ⟨by rfl, ?_⟩) ?_ ?_
      rotate_left
      · intro w'
        go_simp
        with_reducible rfl
      rotate_left
      · simp only [Act.put, sA, s0_, sS, i64_w, i32_w]
        rfl
      refine pure_ (i := 5) (N := some 29) (v := ?_) (a' := ?_) #[T,T,T,T,F,T,F,F,F,F,F,F,F,F] rfl rfl (by kernel_rfl) (fun _ _ _ h => h) (Or.inl ⟨by rfl, ?_⟩) ?_ ?_
      rotate_left
      · intro w'
        go_simp
        with_reducible rfl
      rotate_left
      · simp only [Act.put, sA, s0_, sS, i64_w, i32_w]
        rfl
      refine take_ (i := 4) (N := some 28) (v := ?_) (a' := ?_) #[T,T,T,T,T,T,F,F,F,F,F,F,F,F] rfl rfl (by kernel_rfl) (fun _ _ _ h => h) (Or.inl ⟨by rfl, ?_⟩) hHeld ?_ ?_
      rotate_left
      · intro w' s0
        go_simp
        with_reducible rfl
      rotate_left
      · simp only [Act.put, sA, s0_, sS, i64_w, i32_w]
        rfl
      refine one_ (i := 6) (N := some 30) #[T,T,T,T,T,T,T,F,F,F,F,F,F,F] rfl rfl (by kernel_rfl) (by decide) (fun K hK => ?_)
      refine goes_ Try.func37 (by kernel_rfl) rfl #[.slice Ai li ci] (by rfl) rfl rfl (by (try simp only [List.map_toArray, List.map_cons, List.map_nil]); first | done | rfl) ?_
      with_reducible refine (clone37 (Kd.C_below HCI.out BD.out) HLI.out HLB.out).mono ?_
      rintro e w3 ⟨v, rfl, hR3, hb3⟩
      refine ⟨_, rfl, ?_⟩
      obtain ⟨A3, c3, hv3⟩ := Kd.R_slice hR3
      rw [HLL.out] at hv3
      subst hv3
      have R3 := Aside0.mk hR3
      have B3 := Aside0.mk hb3
      clear hR3 hb3
      refine hK.out _ _ (by exact pw_cell_below B3.out y1) (fun hHeld => ?_)
      clear hK K
      refine norm_ (a' := ?_) ?_ ?_
      rotate_left
      · show Act.put _ (some 30) _ = _
        simp only [Act.put, sA, s0_, sS, i64_w, i32_w]
        rfl
      refine pure_ (i := 7) (N := some 31) (v := ?_) (a' := ?_) #[T,T,T,T,T,T,T,T,F,F,F,F,F,F] rfl rfl (by kernel_rfl) (fun _ _ _ h => h) (Or.inl ⟨by rfl, ?_⟩) ?_ ?_
      rotate_left
      · intro w'
        go_simp
        with_reducible rfl
      rotate_left
      · simp only [Act.put, sA, s0_, sS, i64_w, i32_w]
        rfl
      refine one_ (i := 8) (N := some 32) #[T,T,T,T,T,T,T,T,T,F,F,F,F,F] rfl rfl (by kernel_rfl) (by decide) (fun K hK => ?_)
      refine value_ (w1 := ?_) (v := ?_) (by rfl) rfl ?_ ?_
      rotate_left 2
      · go_simp
        constructor
        · rfl
        · rfl
      refine hK.out _ _ (by exact pw_cell_below (B3.out.alloc B3.out.size _) y1) (fun hHeld => ?_)
      clear hK K
      refine norm_ (a' := ?_) ?_ ?_
      rotate_left
      · show Act.put _ (some 32) _ = _
        simp only [Act.put, sA, s0_, sS, i64_w, i32_w]
        rfl
      refine one_ (i := 9) (N := some 33) #[T,T,T,T,T,T,T,T,T,T,F,F,F,F] rfl rfl (by kernel_rfl) (by decide) (fun K hK => ?_)
      refine value_ (w1 := ?_) (v := ?_) (by rfl) rfl ?_ ?_
      rotate_left 2
      · go_simp
        constructor
        · rfl
        · rfl
      refine hK.out _ _ (by exact pw_cell_below ((B3.out.alloc B3.out.size _).alloc (B3.out.alloc B3.out.size _).size _) y1) (fun hHeld => ?_)
      clear hK K
      refine norm_ (a' := ?_) ?_ ?_
      rotate_left
      · show Act.put _ (some 33) _ = _
        simp only [Act.put, sA, s0_, sS, i64_w, i32_w]
        rfl
      refine last_ (i := 10) (N := some 34) #[T,T,T,T,T,T,T,T,T,T,T,F,F,F] rfl rfl (by kernel_rfl) (by decide) (fun K hK => ?_)
      refine Kd.R_append_step kPtr (w0 := w) w.heap.size (by rfl) (.tmp 28) (.tmp 33) 72 75 (.pointer none) 8 rfl Try.underlying72 info75 rfl (by decide) (by decide) (.slice At k ct) ((List.range k).map tb) w3.heap.size [ptrV w3.heap.size] (fun b => w.heap.size ≤ b) (fun _ => False) rfl (by rw [World.size_alloc]; rfl) rfl (fun _ h => h.elim) (fun b hb => Nat.le_trans (BA.out w3 BD.out B3.out _).size hb) (RA.out w3 BD.out B3.out _) (BA.out w3 BD.out B3.out _) (BA.out w3 BD.out B3.out _).size HL8.out ?_
      intro v1 w4 hR4 hb4 hg4 hat4
      obtain ⟨A4, c4, hv4⟩ := Kd.R_slice hR4
      rw [HL9.out] at hv4
      subst hv4
      have R4 := Aside0.mk hR4
      have B4 := Aside0.mk hb4
      have G4 := Aside0.mk hg4
      clear hR4 hb4 hg4 hat4
      refine hK.out _ _ ?_
      clear hK K
      refine norm_ (a' := ?_) ?_ ?_
      rotate_left
      · show Act.put _ (some 34) _ = _
        simp only [Act.put, sA, s0_, sS, i64_w, i32_w]
        rfl
      refine pure_ (i := 11) (N := some 35) (v := ?_) (a' := ?_) #[T,T,T,T,T,T,T,T,T,T,T,T,F,F] rfl rfl (by kernel_rfl) (fun _ _ _ h => h) (Or.inl ⟨by rfl, ?_⟩) ?_ ?_
      rotate_left
      · intro w'
        go_simp
        with_reducible rfl
      rotate_left
      · simp only [Act.put, sA, s0_, sS, i64_w, i32_w]
        rfl
      refine pure_ (i := 12) (N := some 36) (v := ?_) (a' := ?_) #[T,T,T,T,T,T,T,T,T,T,T,T,T,F] rfl rfl (by kernel_rfl) (fun _ _ _ h => h) (Or.inl ⟨by rfl, ?_⟩) ?_ ?_
      rotate_left
      · intro w'
        go_simp
        with_reducible rfl
      rotate_left
      · simp only [Act.put, sA, s0_, sS, i64_w, i32_w]
        rfl
      have b4 := blk_grown (blk_below HY.out ((BD.out.trans (B3.out.mono BD.out.size)).alloc (BD.out.trans (B3.out.mono BD.out.size)).size _)) G4.out NE4.out
      have y4 := blk_cell b4 0
      have f4 := blk_frozen b4 0
      clear b4
      refine last_ (i := 13) (N := none) #[T,T,T,T,T,T,T,T,T,T,T,T,T,T] rfl rfl (by kernel_rfl) (by decide) (fun K hK => ?_)
      refine skip_ (w1 := ?_) (by rfl) rfl ?_ ?_
      rotate_left
      · go_simp
        rfl
      refine hK.out _ _ ?_
      clear hK K
      refine done_ (by kernel_rfl) ?_
      have E : Aside0 (NewSt w (w4.setCell ⟨rb, 0, none⟩ (.slice A4 (k + 1) c4)) xs (k + 1)) := ⟨by
        obtain ⟨h1, h2, h3, h4, h5⟩ := HS.out
        have h := NewSt.step h1 h2 h3 h4 h5 BD.out BD.out.size R3.out B3.out R4.out B4.out G4.out
        rw [HRB.out] at h
        exact h⟩
      clear y0 y1 y4 f4 z0 ix
      go_wp2
      have hp := HRB.out
      subst hp
      go_roundw
      case rel => exact ⟨k + 1, by omega, by go_num, E⟩
      case measure => simp [intOf]; omega
    · have hkl : k = n := by omega
      subst hkl
      go_wp2
      go_ret2
      exact ⟨by rw [hrb]; rfl, by rw [HN.out]; exact SK.out⟩
/-- The runner of these calls, new. -/
def xOf (calls : List (List (List S26))) : X := X.new calls.length (fun t => (calls.getD t []).length) (fun t c => (calls.getD t [])[c]?)
/-- Are there too many? -/
def tooMuch (calls : List (List (List S26))) : Bool := decide (16 < calls.length) || calls.any fun cl => decide (256 < cl.length)
theorem xOf_ok {calls : List (List (List S26))} (h : tooMuch calls = false) (hs : Sizes calls) : (xOf calls).Ok := by
  unfold tooMuch at h
  rw [Bool.or_eq_false_iff, decide_eq_false_iff_not, List.any_eq_false] at h
  have hg : ∀ t, t < calls.length → calls.getD t [] ∈ calls := fun t ht => by
    rw [List.getD_eq_getElem?_getD, List.getElem?_eq_getElem ht]
    exact List.getElem_mem ht
  refine ⟨by show calls.length ≤ 16; omega, fun t ht => ?_, fun t ht => Nat.zero_le _, fun t ht ha => stepsOf_pos _, fun t ht ha => rfl, fun t c turns ht hp => ?_, ?_⟩
  · have := h.2 _ (hg t ht)
    simp at this
    show (calls.getD t []).length ≤ 256
    rwa [List.getD_eq_getElem?_getD]
  · have hp' : (calls.getD t [])[c]? = some turns := hp
    exact (hs.2 _ (hg t ht)).2 turns (List.mem_of_getElem? hp')
  · show 0 = sumTo _ _
    have : ∀ n, sumTo (xOf calls).weight n = 0 := fun n => by
      induction n with
      | zero => rfl
      | succ n ih => unfold sumTo; rw [ih]; rfl
    rw [this]
theorem somes_get {L : List (List Nat)} {t : Nat} {l : List Nat} (h : L[t]? = some l) : (somes L).getD t [] = l.map some := by
  unfold somes
  rw [List.getD_eq_getElem?_getD, List.getElem?_map, h]
  rfl
theorem runX_new {w0 w w' : World} {f : Owner} {L : List (List Nat)} {calls : List (List (List S26))} (hp : PlaysIn w0.heap.size f w L calls) (hb : Below w0.heap.size w0 w) (hn : NewSt w w' (somes L) L.length) (hm : tooMuch calls = false) :
    ∃ tv tb cv C, RunX w0.heap.size (owns f w.heap.size w.heap.size) w' w.heap.size (fun id => w0.heap.size ≤ id ∧ id < w'.heap.size) (xOf calls) tv tb cv C := by
  obtain ⟨tv, tb, cv, h1, h2, h3, h4, h5⟩ := hn
  unfold tooMuch at hm
  rw [Bool.or_eq_false_iff, decide_eq_false_iff_not] at hm
  have hlen := hp.len
  have hw0 := hb.size
  have hlt := blk_lt h1
  have get : ∀ t, t < calls.length → ∃ l, L[t]? = some l ∧ (somes L).getD t [] = l.map some ∧ l.length = (calls.getD t []).length ∧ calls[t]? = some (calls.getD t []) := fun t ht => by
    have e1 : L[t]? = some L[t] := List.getElem?_eq_getElem (by omega)
    have e2 : calls[t]? = some (calls.getD t []) := by rw [List.getD_eq_getElem?_getD, List.getElem?_eq_getElem ht]; rfl
    exact ⟨_, e1, somes_get e1, (hp.row t _ _ e1 e2).1, e2⟩
  refine ⟨tv, tb, cv, fun t => (somes L).getD t [], .slice none 0 0, fun _ _ => [], ?_, fun t ht => ⟨fun _ => rfl, fun _ _ => rfl⟩⟩
  rw [hlen] at h2 h3 h4
  exact
    { rblk := h1
      rown := owns_new _ _ _ _ (Nat.le_refl _)
      rbase := hw0
      rP := ⟨hw0, hlt⟩
      n16 := by show calls.length ≤ 16; omega
      trow := Kd.R_mono (Kd.R_lower h2 hw0) (fun k hk => owns_new _ _ _ _ hk)
      tinj := fun t u ht hu => h4 t u ht hu
      tblk := fun t ht => (h3 t ht).1
      town := fun t ht => owns_new _ _ _ _ (h3 t ht).2.1
      tbase := fun t ht => Nat.le_trans hw0 (h3 t ht).2.1
      crow := fun t ht => Kd.R_mono (Kd.R_lower (h3 t ht).2.2 hw0) (fun k hk => owns_new _ _ _ _ hk)
      clen := fun t ht => by
        obtain ⟨l, _, e, hl, _⟩ := get t ht
        show ((somes L).getD t []).length = (calls.getD t []).length
        rw [e, List.length_map, hl]
      erow := Kd.R_nil _ _ _ _ _
      play := fun t c pb ht hc => by
        obtain ⟨l, e0, e, hl, e2⟩ := get t ht
        have hc' : ((somes L).getD t [])[c]? = some (some pb) := hc
        rw [e, List.getElem?_map] at hc'
        have hc2 : l[c]? = some pb := by
          cases h : l[c]? with
          | none => rw [h] at hc'; cases hc'
          | some q => rw [h] at hc'; injection hc' with hc'
        obtain ⟨turns, g1, g2⟩ := (hp.row t l _ e0 e2).2 c pb hc2
        have hpl := g2.lt
        refine ⟨⟨g2.base, by omega⟩, by omega, turns, g1, g2.mv (o := fun _ => False) (Mv.of_below (B := w.heap.size) h5 (Nat.le_refl _) (fun k hk => owns_old _ _ _ k hk)) id⟩
      noplay := fun t c ht hc => by
        obtain ⟨l, e0, e, hl, e2⟩ := get t ht
        have hc' : ((somes L).getD t [])[c]? = some none := hc
        rw [e, List.getElem?_map] at hc'
        cases h : l[c]? with
        | none => rw [h] at hc'; cases hc'
        | some q => rw [h] at hc'; injection hc' with hc'; cases hc'
      pinj := fun t c t' c' pb ht ht' hc hc' => by
        obtain ⟨l, e0, e, _, _⟩ := get t ht
        obtain ⟨l', e0', e', _, _⟩ := get t' ht'
        have a : ((somes L).getD t [])[c]? = some (some pb) := hc
        have b : ((somes L).getD t' [])[c']? = some (some pb) := hc'
        rw [e, List.getElem?_map] at a
        rw [e', List.getElem?_map] at b
        have a2 : l[c]? = some pb := by
          cases h : l[c]? with
          | none => rw [h] at a; cases a
          | some q => rw [h] at a; injection a with a
        have b2 : l'[c']? = some pb := by
          cases h : l'[c']? with
          | none => rw [h] at b; cases b
          | some q => rw [h] at b; injection b with b
        exact hp.inj t c t' c' pb l l' e0 a2 e0' b2 }
/-- New at the plays of these calls: a runner, .. -/
def Runner (w0 : World) (calls : List (List (List S26))) (en : Ending) (w' : World) : Prop :=
  ∃ rb f tv tb cv C, en = .returned (.tuple #[.pointer (some ⟨rb, 0, none⟩), .int .i64 0]) ∧ RunX w0.heap.size f w' rb (fun id => w0.heap.size ≤ id ∧ id < w'.heap.size) (xOf calls) tv tb cv C ∧ Below w0.heap.size w0 w'
theorem out_slice {w0 w : World} {v : Value} {calls : List (List (List S26))} (h : OutSt w0 w v calls) : ∃ A c f L, v = .slice A (somes L).length c ∧ kProcs.C w A (somes L).length (somes L) ∧ PlaysIn w0.heap.size f w L calls ∧ Below w0.heap.size w0 w := by
  obtain ⟨f, L, h1, h2, h3⟩ := h
  obtain ⟨A, c, e, _, hC⟩ := Kd.R_reads h1
  exact ⟨A, c, f, L, e, hC, h2, h3⟩
theorem somes_long {w : World} {B : Nat} {f : Owner} {L : List (List Nat)} {calls : List (List (List S26))} (h : PlaysIn B f w L calls) : (somes L).length = calls.length ∧ longs (somes L) = calls.any (fun cl => decide (256 < cl.length)) := by
  have hlen := h.len
  refine ⟨by unfold somes; rw [List.length_map, hlen], ?_⟩
  unfold longs somes
  rw [List.any_map, Bool.eq_iff_iff, List.any_eq_true, List.any_eq_true]
  constructor
  · rintro ⟨l, hl, hd⟩
    obtain ⟨i, hi⟩ := List.getElem?_of_mem hl
    have hil : i < calls.length := by have := (List.getElem?_eq_some_iff.1 hi).1; omega
    have e2 : calls[i]? = some calls[i] := List.getElem?_eq_getElem hil
    refine ⟨_, List.getElem_mem hil, ?_⟩
    have := (h.row i l _ hi e2).1
    simp only [Function.comp, List.length_map] at hd
    rw [← this]; exact hd
  · rintro ⟨cl, hl, hd⟩
    obtain ⟨i, hi⟩ := List.getElem?_of_mem hl
    have hil : i < L.length := by have := (List.getElem?_eq_some_iff.1 hi).1; omega
    have e2 : L[i]? = some L[i] := List.getElem?_eq_getElem hil
    refine ⟨_, List.getElem_mem hil, ?_⟩
    have := (h.row i _ cl e2 hi).1
    simp only [Function.comp, List.length_map]
    rw [this]; exact hd
theorem new_no {w0 w : World} {v : Value} {calls : List (List (List S26))} (h : OutSt w0 w v calls) (hm : tooMuch calls = true) : Calls Try.prog 16 #[v] w (Refused w) := by
  obtain ⟨A, c, f, L, rfl, hC, hp, hb⟩ := out_slice h
  obtain ⟨e1, e2⟩ := somes_long hp
  by_cases h16 : 16 < calls.length
  · exact new_many (by rw [e1]; exact h16)
  · unfold tooMuch at hm
    rw [decide_eq_false h16, Bool.false_or, ← e2] at hm
    exact new_long hC (by rw [e1]; omega) hm
theorem new_yes {w0 w : World} {v : Value} {calls : List (List (List S26))} (h : OutSt w0 w v calls) (hm : tooMuch calls = false) : Calls Try.prog 16 #[v] w (Runner w0 calls) := by
  obtain ⟨A, c, f, L, rfl, hC, hp, hb⟩ := out_slice h
  obtain ⟨e1, e2⟩ := somes_long hp
  have hm2 := hm
  unfold tooMuch at hm2
  rw [Bool.or_eq_false_iff, decide_eq_false_iff_not, ← e2] at hm2
  refine (new_walk hC (by rw [e1]; omega) hm2.2).mono ?_
  rintro e w' ⟨he, hn⟩
  rw [show (somes L).length = L.length by unfold somes; rw [List.length_map]] at hn
  obtain ⟨tv, tb, cv, C, hx⟩ := runX_new hp hb hn hm
  exact ⟨_, _, tv, tb, cv, C, he, hx, hb.trans (hn.choose_spec.choose_spec.choose_spec.2.2.2.2.mono hb.size)⟩
end Go.Proofs.Ytkigbgabnbjomaa.Sched
