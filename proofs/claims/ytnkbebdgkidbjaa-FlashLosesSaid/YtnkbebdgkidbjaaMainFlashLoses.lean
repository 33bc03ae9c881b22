/- The law FlashLoses, walked by hand; and the call.
   No condition. -/
import Derived.Test.YtnkbebdgkidbjaaFlL
import Derived.ArgAppend
import Derived.BigRegion
import Derived.Deep.QuietTactic
import Derived.BigQuiet
import Derived.Deep.RegionHeld3
import Derived.ChangeAlike
import Derived.RegionTactic
import Derived.Deep.DeepCutAuto
import Derived.Deep.CutBlock
import Derived.Deep.RegionLaw
import Derived.StillTailTactics
import Derived.WalkSpells
import Derived.Lib.SliceRun
import Derived.Laws.CopyRow
import Derived.Lib.SlBuf
import Derived.Lib.MakeNoZero
import Derived.Laws.BitsLemmas
import Derived.Lib.Bytes
import Derived.Lib.SlBytesConst
namespace Go.Proofs.Ytnkbebdgkidbjaa.Flash
open Go.Proofs.Ytnkbebdgkidbjaa.QFlashPlays
open Go.RowKit Go.Proofs.YtnkbebdgkidbjaaW.PrintWords Go.Proofs.YtnkbebdgkidbjaaW.PrintLast Go.Proofs.YtnkbebdgkidbjaaW.PrintMore
attribute [local go_sem] max2_int min2_int max_two min_two   -- for this text's walks alone
set_option linter.unusedVariables false
set_option linter.unusedSimpArgs false
/-! ### A page changes once between two erases -/
theorem op_b (d : Dv) (k : Nat) (act : Dv → Dv) : ((d.op k act).1.b = d.b ∨ (d.op k act).1.b = (act (d.count k)).b) := by
  unfold Dv.op
  split
  · exact .inr rfl
  · split
    · exact .inl rfl
    · exact .inr rfl
def Dv.geo (d d' : Dv) : Prop := d'.p = d.p ∧ d'.s = d.s ∧ d'.r = d.r ∧ d'.a = d.a
theorem Dv.geo_refl (d : Dv) : d.geo d := ⟨rfl, rfl, rfl, rfl⟩
theorem op_geo (d : Dv) (k : Nat) (act : Dv → Dv) (h : d.geo (act (d.count k))) : d.geo (d.op k act).1 := by
  unfold Dv.op
  split
  · exact h
  · split
    · exact d.geo_refl
    · exact h
theorem does_geo (d : Dv) (o : Op) : d.geo (d.does o).1 := by
  unfold Dv.does
  split
  · unfold Dv.program
    split
    · exact d.geo_refl
    · split
      · exact d.geo_refl
      · exact op_geo _ _ _ ⟨rfl, rfl, rfl, rfl⟩
  · split
    · unfold Dv.erase
      split
      · exact d.geo_refl
      · exact op_geo _ _ _ ⟨rfl, rfl, rfl, rfl⟩
    · split
      · exact op_geo _ _ _ ⟨rfl, rfl, rfl, rfl⟩
      · split
        · unfold Dv.fail
          split <;> exact ⟨rfl, rfl, rfl, rfl⟩
        · exact d.geo_refl
theorem page_of {d d' : Dv} (hg : d.geo d') (hb : d'.b = d.b) (j : Nat) : d'.page j = d.page j := by
  unfold Dv.page
  rw [hb, hg.1]
theorem clean_of {d d' : Dv} {j : Nat} (h : d'.page j = d.page j) : d'.clean j = d.clean j := by
  unfold Dv.clean
  rw [h]
theorem pages_of {d d' : Dv} (hg : d.geo d') : d'.pages = d.pages := by
  unfold Dv.pages
  rw [hg.2.1, hg.2.2.1]
theorem page_far {d : Dv} (ok : d.Ok) {i m : Nat} {x : List Int} (hx : i + x.length ≤ d.b.length) {j : Nat} (hj : j < d.pages) (hf : j * d.p + d.p ≤ i ∨ i + x.length ≤ j * d.p) (d' : Dv) (hg : d.geo d') (hb : d'.b = putAt d.b i x) : d'.page j = d.page j := by
  have q := page_nums ok j hj
  unfold Dv.page
  rw [hb, hg.1]
  exact cut_put_far d.b x i (j * d.p) d.p hx (by rw [q.1]; exact q.2.1) hf
theorem mul_far {j n p : Nat} (h : j ≠ n) : j * p + p ≤ n * p ∨ n * p + p ≤ j * p := by
  rcases Nat.lt_or_ge j n with h1 | h1
  · left
    rw [← Nat.succ_mul]
    exact Nat.mul_le_mul_right _ h1
  · right
    rw [← Nat.succ_mul]
    exact Nat.mul_le_mul_right _ (by omega)
/-- A page that may be programmed is clean. -/
theorem next_clean {d : Dv} (ok : d.Ok) {n : Nat} (hn : n < d.pages) (h : ¬ (d.next ((n / d.s : Nat) : Int) < 0 ∨ (n : Int) < d.next ((n / d.s : Nat) : Int))) : d.clean n = true := by
  have hs : 0 < d.s := ok.s1
  have hg : n / d.s < d.r := Nat.div_lt_of_lt_mul hn
  have h2 := Nat.div_add_mod n d.s
  rw [Nat.mul_comm] at h2
  have h3 := Nat.mod_lt n hs
  obtain ⟨g, hgg⟩ : ∃ g, n / d.s = g := ⟨_, rfl⟩
  obtain ⟨m, hm⟩ : ∃ m, n % d.s = m := ⟨_, rfl⟩
  rw [hgg] at h h2 hg
  rw [hm] at h2 h3
  clear hgg hm
  have e : d.next (g : Int) = if d.nxt g = d.s then -1 else ((g * d.s + d.nxt g : Nat) : Int) := by
    unfold Dv.next
    rw [if_neg (by omega), Int.toNat_natCast]
  rw [e] at h
  by_cases h1 : d.nxt g = d.s
  · rw [if_pos h1] at h
    exact absurd (.inl (by decide)) h
  · rw [if_neg h1] at h
    obtain ⟨gs, hgs⟩ : ∃ gs, g * d.s = gs := ⟨_, rfl⟩
    rw [hgs] at h h2
    have h4 : d.nxt g ≤ m := by omega
    have h5 := lastD_clean (fun i => d.clean (g * d.s + i)) d.s m h4 h3
    have e2 : g * d.s + m = n := by rw [hgs]; exact h2
    rw [← e2]
    exact h5
/-! ### Two devices that answer the same -/
structure Twin (d c : Dv) : Prop where
  p : c.p = d.p
  s : c.s = d.s
  r : c.r = d.r
  b : c.b = d.b
  un : c.un = d.un
  fd : d.fl = []
  fc : c.fl = []
theorem op_nil {d : Dv} (h : d.fl = []) (k : Nat) (act : Dv → Dv) : d.op k act = (act (d.count k), 0) := by
  have e : d.fault k = 0 := by
    unfold Dv.fault
    rw [h]
    rfl
  unfold Dv.op
  rw [if_pos e]
theorem Twin.page {d c : Dv} (t : Twin d c) (j : Nat) : c.page j = d.page j := by
  unfold Dv.page
  rw [t.b, t.p]
theorem Twin.clean {d c : Dv} (t : Twin d c) (j : Nat) : c.clean j = d.clean j := by
  unfold Dv.clean
  rw [t.page]
theorem Twin.nxt {d c : Dv} (t : Twin d c) (g : Nat) : c.nxt g = d.nxt g := by
  unfold Dv.nxt
  rw [t.s]
  exact lastD_congr _ _ _ (fun i _ => t.clean _)
theorem Twin.next {d c : Dv} (t : Twin d c) (g : Int) : c.next g = d.next g := by
  unfold Dv.next
  rw [t.r, t.s, t.nxt]
theorem Twin.pages {d c : Dv} (t : Twin d c) : c.pages = d.pages := by
  unfold Dv.pages
  rw [t.s, t.r]
theorem Twin.op {d c : Dv} (t : Twin d c) (k : Nat) (act : Dv → Dv) (h : Twin (act (d.count k)) (act (c.count k))) : (d.op k act).2 = (c.op k act).2 ∧ Twin (d.op k act).1 (c.op k act).1 := by
  rw [op_nil t.fd, op_nil t.fc]
  exact ⟨rfl, h⟩
theorem Twin.count {d c : Dv} (t : Twin d c) (k : Nat) : Twin (d.count k) (c.count k) := ⟨t.p, t.s, t.r, t.b, t.un, t.fd, t.fc⟩
theorem Twin.does {d c : Dv} (t : Twin d c) {o : Op} (h6 : o.k ≠ 6) : (d.does o).2 = (c.does o).2 ∧ Twin (d.does o).1 (c.does o).1 := by
  unfold Dv.does
  by_cases h1 : o.k = 1
  · rw [if_pos h1, if_pos h1]
    unfold Dv.program
    rw [t.pages, t.p, t.s, t.next]
    by_cases c1 : o.n < 0 ∨ (d.pages : Int) ≤ o.n ∨ o.x.length ≠ d.p
    · rw [if_pos c1, if_pos c1]; exact ⟨rfl, t⟩
    · rw [if_neg c1, if_neg c1]
      by_cases c2 : d.next (o.n.toNat / d.s : Nat) < 0 ∨ o.n < d.next (o.n.toNat / d.s : Nat)
      · rw [if_pos c2, if_pos c2]; exact ⟨rfl, t⟩
      · rw [if_neg c2, if_neg c2]
        refine t.op 2 _ ⟨t.p, t.s, t.r, ?_, ?_, t.fd, t.fc⟩
        · show putAt c.b (o.n.toNat * c.p) o.x = putAt d.b (o.n.toNat * d.p) o.x
          rw [t.b, t.p]
        · show (if isFF o.x then c.un else c.un ++ [((o.n.toNat : Nat) : Int)]) = (if isFF o.x then d.un else d.un ++ [((o.n.toNat : Nat) : Int)])
          rw [t.un]
  · rw [if_neg h1, if_neg h1]
    by_cases h3 : o.k = 3
    · rw [if_pos h3, if_pos h3]
      unfold Dv.erase
      rw [t.r]
      by_cases c1 : o.n < 0 ∨ (d.r : Int) ≤ o.n
      · rw [if_pos c1, if_pos c1]; exact ⟨rfl, t⟩
      · rw [if_neg c1, if_neg c1]
        refine t.op 3 _ ⟨t.p, t.s, t.r, ?_, ?_, t.fd, t.fc⟩
        · show putAt c.b (o.n.toNat * c.s * c.p) (List.replicate (c.s * c.p) 255) = putAt d.b (o.n.toNat * d.s * d.p) (List.replicate (d.s * d.p) 255)
          rw [t.b, t.p, t.s]
        · show (c.un.filter fun q => q < ((o.n.toNat * c.s : Nat) : Int) || ((o.n.toNat * c.s + c.s : Nat) : Int) ≤ q) = d.un.filter fun q => q < ((o.n.toNat * d.s : Nat) : Int) || ((o.n.toNat * d.s + d.s : Nat) : Int) ≤ q
          rw [t.un, t.s]
    · rw [if_neg h3, if_neg h3]
      by_cases h4 : o.k = 4
      · rw [if_pos h4, if_pos h4]
        exact t.op 4 _ ⟨t.p, t.s, t.r, t.b, rfl, t.fd, t.fc⟩
      · rw [if_neg h4, if_neg h4, if_neg h6, if_neg h6]
        exact ⟨rfl, t⟩
theorem Twin.read {d c : Dv} (t : Twin d c) (n : Int) : (d.read n).2 = (c.read n).2 ∧ Twin (d.read n).1 (c.read n).1 ∧ (d.read n).1.un = d.un := by
  unfold Dv.read
  rw [t.pages]
  by_cases c1 : n < 0 ∨ (d.pages : Int) ≤ n
  · rw [if_pos c1, if_pos c1]; exact ⟨rfl, t, rfl⟩
  · rw [if_neg c1, if_neg c1, op_nil t.fd, op_nil t.fc]
    refine ⟨?_, t.count 1, rfl⟩
    show ((if (0 : Int) = 0 then d.page n.toNat else []), (0 : Int)) = ((if (0 : Int) = 0 then c.page n.toNat else []), (0 : Int))
    rw [t.page]
theorem does_fl {d : Dv} (h : d.fl = []) {o : Op} (h6 : o.k ≠ 6) : (d.does o).1.fl = [] := by
  have t : Twin d d := ⟨rfl, rfl, rfl, rfl, rfl, h, h⟩
  exact (t.does h6).2.fd
/-! ### What a crash loses -/
def LoseInv (d : Dv) (I : List Int) : Prop := I.length = d.b.length ∧ ∀ j : Nat, j < d.pages → cutOf I (j * d.p) d.p = if (j : Int) ∈ d.un then List.replicate d.p 255 else d.page j
theorem page_len {d : Dv} (ok : d.Ok) {j : Nat} (hj : j < d.pages) : (d.page j).length = d.p := by
  have q := page_nums ok j hj
  exact cutOf_length d.b (j * d.p) d.p (by rw [q.1]; exact q.2.1)
theorem clean_page {d : Dv} (ok : d.Ok) {j : Nat} (hj : j < d.pages) (h : d.clean j = true) : d.page j = List.replicate d.p 255 := by
  have e := (isFF_iff _).1 h
  rw [page_len ok hj] at e
  exact e
/-- Bytes of so many pages are told by their pages. -/
theorem pages_ext {I J : List Int} {n p : Nat} (hp : 1 ≤ p) (hI : I.length = n * p) (hJ : J.length = n * p) (h : ∀ j, j < n → cutOf I (j * p) p = cutOf J (j * p) p) : I = J := by
  apply List.ext_getElem?
  intro t
  by_cases ht : t < n * p
  · have hj : t / p < n := (Nat.div_lt_iff_lt_mul (by omega)).2 ht
    have hm := Nat.mod_lt t (show p > 0 by omega)
    have hd := Nat.div_add_mod t p
    rw [Nat.mul_comm] at hd
    have e : (cutOf I (t / p * p) p)[t % p]? = (cutOf J (t / p * p) p)[t % p]? := by rw [h _ hj]
    rw [cutOf_get _ _ _ _ hm, cutOf_get _ _ _ _ hm, hd] at e
    exact e
  · rw [List.getElem?_eq_none (by omega), List.getElem?_eq_none (by omega)]
theorem len_pages {d : Dv} (ok : d.Ok) : d.b.length = d.pages * d.p := by
  rw [ok.len]
  unfold Dv.pages
  rw [Nat.mul_assoc, Nat.mul_comm]
theorem lose_same {d d' : Dv} {I : List Int} (h : LoseInv d I) (hg : d.geo d') (hb : d'.b = d.b) (hu : d'.un = d.un) : LoseInv d' I :=
  ⟨by rw [hb]; exact h.1, fun j hj => by
    rw [pages_of hg] at hj
    rw [hg.1, hu, page_of hg hb j]
    exact h.2 j hj⟩
theorem lose_all {d : Dv} (hu : d.un = []) : LoseInv d d.b := ⟨rfl, fun j _ => by rw [hu]; exact (if_neg (by simp)).symm⟩
theorem lose_program {d : Dv} (ok : d.Ok) (hfl : d.fl = []) {I : List Int} (h : LoseInv d I) (m : Int) {x : List Int} : LoseInv (d.program m x).1 I := by
  have hg : d.geo (d.program m x).1 := does_geo d ⟨1, m, x, [], 0, 0, []⟩
  unfold Dv.program at hg ⊢
  by_cases h2 : m < 0 ∨ (d.pages : Int) ≤ m ∨ x.length ≠ d.p
  · rw [if_pos h2]; exact h
  · rw [if_neg h2] at hg ⊢
    by_cases h3 : d.next (m.toNat / d.s : Nat) < 0 ∨ m < d.next (m.toNat / d.s : Nat)
    · rw [if_pos h3]; exact h
    · rw [if_neg h3] at hg ⊢
      rw [op_nil hfl] at hg ⊢
      obtain ⟨n, hn⟩ : ∃ n : Nat, m = (n : Int) := ⟨m.toNat, by omega⟩
      have hnp : n < d.pages := by omega
      have hxl : x.length = d.p := by have := h2; omega
      rw [hn, Int.toNat_natCast] at h3 hg ⊢
      have hcl := clean_page ok hnp (next_clean ok hnp h3)
      have q := page_nums ok n hnp
      have hfit : n * d.p + x.length ≤ d.b.length := by rw [hxl, q.1]; exact q.2.1
      refine ⟨h.1.trans (putAt_length d.b (n * d.p) x hfit).symm, fun j hj => ?_⟩
      have hj' : j < d.pages := hj
      show cutOf I (j * d.p) d.p = if (j : Int) ∈ (if isFF x then d.un else d.un ++ [(n : Int)]) then List.replicate d.p 255 else cutOf (putAt d.b (n * d.p) x) (j * d.p) d.p
      rw [h.2 j hj']
      by_cases hjn : j = n
      · subst hjn
        have hpx : cutOf (putAt d.b (j * d.p) x) (j * d.p) d.p = x := by
          have := cut_put_same d.b x (j * d.p) hfit
          rw [hxl] at this
          exact this
        rw [hpx, hcl]
        cases hf : isFF x with
        | true =>
          have hx := (isFF_iff _).1 hf
          rw [hxl] at hx
          rw [if_pos rfl, ← hx]
        | false =>
          rw [if_neg (show ¬ false = true by decide), if_pos (show (j : Int) ∈ d.un ++ [(j : Int)] by simp)]
          split <;> rfl
      · have hp : cutOf (putAt d.b (n * d.p) x) (j * d.p) d.p = d.page j := page_far ok (m := 0) hfit hj' (by rw [hxl]; exact mul_far hjn) _ hg rfl
        rw [hp]
        have hm : ((j : Int) ∈ (if isFF x then d.un else d.un ++ [(n : Int)])) ↔ (j : Int) ∈ d.un := by
          split
          · exact Iff.rfl
          · rw [List.mem_append, List.mem_singleton]
            exact ⟨fun h => h.elim id (fun e => absurd (by omega) hjn), .inl⟩
        simp only [hm]
theorem lose_erase {d : Dv} (ok : d.Ok) {I : List Int} (h : LoseInv d I) {g : Nat} (hgr : g < d.r) : LoseInv (Dv.wipe g (d.count 3)) (putAt I (g * d.s * d.p) (List.replicate (d.s * d.p) 255)) := by
  have hf := region_fits ok hgr
  have hl : (List.replicate (d.s * d.p) (255 : Int)).length = d.s * d.p := List.length_replicate ..
  have hfi : g * d.s * d.p + (List.replicate (d.s * d.p) (255 : Int)).length ≤ I.length := by rw [hl, h.1]; exact hf
  have hfb : g * d.s * d.p + (List.replicate (d.s * d.p) (255 : Int)).length ≤ d.b.length := by rw [hl]; exact hf
  refine ⟨by rw [putAt_length I _ _ hfi, h.1]; exact (putAt_length d.b _ _ hfb).symm, fun j hj => ?_⟩
  have hj' : j < d.pages := hj
  have q := page_nums ok j hj'
  show cutOf (putAt I (g * d.s * d.p) (List.replicate (d.s * d.p) 255)) (j * d.p) d.p = if (j : Int) ∈ (Dv.wipe g (d.count 3)).un then List.replicate d.p 255 else cutOf (putAt d.b (g * d.s * d.p) (List.replicate (d.s * d.p) 255)) (j * d.p) d.p
  have hmem : ((j : Int) ∈ (Dv.wipe g (d.count 3)).un) ↔ (j : Int) ∈ d.un ∧ ¬ (g * d.s ≤ j ∧ j < g * d.s + d.s) := by
    show (j : Int) ∈ d.un.filter _ ↔ _
    rw [List.mem_filter]
    refine and_congr Iff.rfl ?_
    rw [Bool.or_eq_true, decide_eq_true_eq, decide_eq_true_eq]
    have e : (d.count 3).s = d.s := rfl
    rw [e]
    omega
  by_cases hin : g * d.s ≤ j ∧ j < g * d.s + d.s
  · have inside : ∀ b : List Int, b.length = d.b.length → cutOf (putAt b (g * d.s * d.p) (List.replicate (d.s * d.p) 255)) (j * d.p) d.p = List.replicate d.p 255 := fun b hb => by
      have hfb' : g * d.s * d.p + (List.replicate (d.s * d.p) (255 : Int)).length ≤ b.length := by rw [hb]; exact hfb
      have k1 : g * d.s * d.p ≤ j * d.p := Nat.mul_le_mul_right _ hin.1
      have k2 : j * d.p + d.p ≤ g * d.s * d.p + d.s * d.p := by
        rw [← Nat.add_mul, ← Nat.succ_mul]
        exact Nat.mul_le_mul_right _ hin.2
      apply List.ext_getElem?
      intro t
      by_cases ht : t < d.p
      · rw [cutOf_get _ _ _ _ ht, putAt_get b _ _ hfb', hl, if_pos (by omega), List.getElem?_replicate, List.getElem?_replicate, if_pos (by omega), if_pos ht]
      · rw [List.getElem?_eq_none (by unfold cutOf; rw [List.length_take]; omega), List.getElem?_eq_none (by rw [List.length_replicate]; omega)]
    rw [inside I h.1, if_neg (fun hh => (hmem.1 hh).2 hin), inside d.b rfl]
  · have far : j * d.p + d.p ≤ g * d.s * d.p ∨ g * d.s * d.p + (List.replicate (d.s * d.p) (255 : Int)).length ≤ j * d.p := by
      rw [hl]
      rcases Nat.lt_or_ge j (g * d.s) with h1 | h1
      · left
        rw [← Nat.succ_mul]
        exact Nat.mul_le_mul_right _ h1
      · right
        rw [← Nat.add_mul]
        exact Nat.mul_le_mul_right _ (by omega)
    rw [cut_put_far I _ _ _ _ hfi (by rw [h.1, q.1]; exact q.2.1) far, cut_put_far d.b _ _ _ _ hfb (by rw [q.1]; exact q.2.1) far, h.2 j hj']
    have hm2 : ((j : Int) ∈ (Dv.wipe g (d.count 3)).un) ↔ (j : Int) ∈ d.un := hmem.trans (and_iff_left hin)
    simp only [hm2]
    rfl
theorem part_lost {d : Dv} (ok : d.Ok) {n : Nat} (hn : n < d.pages) {j : Nat} (hj : j < d.pages) : (d.part 2 [] (n : Int)).page j = if j = n then List.replicate d.p 255 else d.page j := by
  have q := page_nums ok n hn
  have e : d.part 2 [] (n : Int) = { d with b := putAt d.b (n * d.p) (List.replicate d.p 255) } := by
    have h := part_is (d := d) (re := 2) (fts := []) (n := n) (m := 0) (r2 := 2) (r3 := 0) rfl rfl
    rw [Nat.add_zero, Nat.sub_zero] at h
    exact h
  rw [e]
  have hl : (List.replicate d.p (255 : Int)).length = d.p := List.length_replicate ..
  have hfit : n * d.p + (List.replicate d.p (255 : Int)).length ≤ d.b.length := by rw [hl, q.1]; exact q.2.1
  by_cases hjn : j = n
  · subst hjn
    rw [if_pos rfl]
    have := cut_put_same d.b (List.replicate d.p 255) (j * d.p) hfit
    rw [hl] at this
    exact this
  · rw [if_neg hjn]
    exact page_far ok (m := 0) hfit hj (by rw [hl]; exact mul_far hjn) _ ⟨rfl, rfl, rfl, rfl⟩ rfl
theorem lost_fit (d : Dv) (re : Int) (hr : re = 1 ∨ re = 2) (q : Int) : fateFit d.p (fateOf re [] q) := by
  rw [fate_none]
  exact ⟨by rcases hr with h | h <;> rw [h] <;> decide, by show (0 : Int) ≤ 0; decide, by show (0 : Int) ≤ _; omega⟩
theorem parts_lost (l : List Int) : ∀ (d : Dv), d.Ok → (∀ q ∈ l, 0 ≤ q ∧ q < (d.pages : Int)) → ∀ j : Nat, j < d.pages → (d.parts 2 [] l).page j = if (j : Int) ∈ l then List.replicate d.p 255 else d.page j := by
  induction l with
  | nil => exact fun d _ _ j _ => (if_neg (by simp)).symm
  | cons q l ih =>
    intro d ok hq j hj
    obtain ⟨h1, h2⟩ := hq q List.mem_cons_self
    obtain ⟨n, rfl⟩ : ∃ n : Nat, q = (n : Int) := ⟨q.toNat, by omega⟩
    have e := ih (d.part 2 [] (n : Int)) (part_ok ok 2 [] ⟨h1, h2⟩ (lost_fit d 2 (.inr rfl) _)) (fun x hx => hq x (List.mem_cons_of_mem _ hx)) j hj
    show ((d.part 2 [] (n : Int)).parts 2 [] l).page j = _
    rw [e, part_lost ok (by omega) hj]
    have hp : (d.part 2 [] (n : Int)).p = d.p := rfl
    rw [hp]
    by_cases hjl : (j : Int) ∈ l
    · rw [if_pos hjl, if_pos (List.mem_cons_of_mem _ hjl)]
    · rw [if_neg hjl]
      by_cases hjn : j = n
      · rw [if_pos hjn, if_pos (by rw [hjn]; exact List.mem_cons_self)]
      · rw [if_neg hjn, if_neg (fun h => (List.mem_cons.1 h).elim (fun e => hjn (by omega)) hjl)]
/-- What is left of it is the image that was kept beside it. -/
theorem lose_crash {d : Dv} (ok : d.Ok) {I : List Int} (h : LoseInv d I) : (d.crash 2 []).b = I := by
  have okc := crash_ok ok 2 [] (fun q _ => lost_fit d 2 (.inr rfl) q)
  obtain ⟨b, hb⟩ := parts_same 2 [] d.un d
  have hpg : (d.crash 2 []).pages = d.pages := by unfold Dv.crash; rw [hb]; rfl
  have hpp : (d.crash 2 []).p = d.p := by unfold Dv.crash; rw [hb]
  refine pages_ext (n := d.pages) (p := d.p) (by have := ok.p1; omega) (by rw [len_pages okc, hpg, hpp]) (by rw [h.1, len_pages ok]) (fun j hj => ?_)
  rw [h.2 j hj, ← parts_lost d.un d ok ok.unr j hj]
  unfold Dv.crash
  rw [hb]
  rfl
/-! ### FlashLoses -/
set_option maxHeartbeats 4000000 in
set_option maxRecDepth 100000 in
theorem loses_no (W : World) (p s r a : Int) (hk : chk p s r a = 20) {A : Option Addr} {n c : Nat} : Calls Try.prog 6 #[.agg #[.int .i64 p, .int .i64 s, .int .i64 r, .int .i64 a], .slice A n c] W (Near W (.bool true)) := by
  have q3 := nil26'
  have KN := Aside0.mk (fun (w : World) => new_no (w := w) hk)
  have BX : Aside0 (Below W.heap.size W (W.alloc (.cells #[.int .i64 p, .int .i64 s, .int .i64 r, .int .i64 a] 23))) := ⟨below_alloc (Below.refl _ _) _⟩
  have bb := blk_new W (.cells #[.int .i64 p, .int .i64 s, .int .i64 r, .int .i64 a] 23)
  clear hk
  go_enter Try.func6, Try.ntmps6
  go_upto_region 1 with (fail)
  generalize hw1 : W.alloc (.cells #[.int .i64 p, .int .i64 s, .int .i64 r, .int .i64 a] 23) = w1 at bb BX ⊢
  clear hw1
  obtain ⟨bx, hbx⟩ : ∃ bx, W.heap.size = bx := ⟨_, rfl⟩
  have HBX := Aside0.mk hbx
  rw [hbx] at bb
  rw [hbx]
  have GC := Aside0.mk (fun (w' : World) (hb : Below w1.heap.size w1 w') => (show w'.cell? ⟨bx, 0, none⟩ = some (.int .i64 p) ∧ w'.cell? ⟨bx, 1, none⟩ = some (.int .i64 s) ∧ w'.cell? ⟨bx, 2, none⟩ = some (.int .i64 r) ∧ w'.cell? ⟨bx, 3, none⟩ = some (.int .i64 a) from ⟨blk_cell (blk_below bb hb) 0, blk_cell (blk_below bb hb) 1, blk_cell (blk_below bb hb) 2, blk_cell (blk_below bb hb) 3⟩))
  clear bb hbx
  go_wp2_with (first
    | (go_at_call 11; refine (lives_walk _).mono ?_; rintro e w2 ⟨rfl, hb2⟩; have B2 := Aside0.mk hb2; obtain ⟨c0, c1, c2, c3⟩ := GC.out _ hb2; clear hb2)
    | (go_at_call 12; refine (KN.out _).mono ?_; rintro e w3 ⟨rfl, hb3⟩; have B3 := Aside0.mk (B2.out.trans (hb3.mono B2.out.size)); clear hb3))
  go_ret
  exact ⟨rfl, BX.out.trans (B3.out.mono BX.out.size)⟩
theorem Only.mvL {B g : Nat} {f : Owner} {w w1 : World} (h : Only B (some g) w w1) : Mv B (· = f g) f w f w1 :=
  ⟨h.below, fun k hk hn => h.keep k hk (fun e => hn (by injection e with e; rw [e])), fun _ _ => rfl⟩
theorem Only.blkL {B g k t : Nat} {w w1 : World} {cs : Array Value} (h : Only B (some g) w w1) (hb : w.heap[k]? = some (.cells cs t (0, 0))) (hn : k ≠ g) : w1.heap[k]? = some (.cells cs t (0, 0)) := (h.keep k (blk_lt hb) (fun e => hn (by injection e))).trans hb
theorem open_rowL {w : World} {B L : Nat} {ok : Nat → Prop} {v : Value} {l : List Int} (h : (Kd.int .u8).R 5 w B ok v l) (hl : l.length = L) (h1 : 1 ≤ L) : ∃ g c, v = .slice (some ⟨g, 0, none⟩) L c := by
  obtain ⟨_, hn | ⟨g, cap', cur, e, _⟩⟩ := Kd.own_of_R h
  · rw [hl] at hn; exact absurd hn.2 (by omega)
  · rw [hl] at e; exact ⟨g, _, e⟩
/-- Other owners, the same ones for the device's own blocks. -/
theorem DevX.reownL {B : Nat} {f g : Owner} {w : World} {db : Nat} {d : Dv} (h : DevX B f w db d) (hg : ∀ k, f k = db → g k = db) : DevX B g w db d := by
  obtain ⟨im, imc, vu, vf, vw, h⟩ := h
  exact ⟨im, imc, vu, vf, vw, { blk := h.blk, own := hg _ h.own, base := h.base, img := h.img, imo := hg _ h.imo, imb := h.imb, un := Kd.R_mono h.un (fun k hk => hg k hk), fl := Kd.R_mono h.fl (fun k hk => hg k hk), wr := Kd.R_mono h.wr (fun k hk => hg k hk), ne := h.ne }⟩
theorem put_set (I : List Int) (lo m : Nat) (h : lo + m + 1 ≤ I.length) : (putAt I lo (List.replicate m 255)).set (lo + m) 255 = putAt I lo (List.replicate (m + 1) 255) := by
  have hl : ∀ k, (List.replicate k (255 : Int)).length = k := fun k => List.length_replicate ..
  apply List.ext_getElem?
  intro j
  rw [List.getElem?_set, putAt_get I lo _ (by rw [hl]; omega), putAt_get I lo _ (by rw [hl]; omega), putAt_length I lo _ (by rw [hl]; omega), hl, hl]
  by_cases e : lo + m = j
  · rw [if_pos e, if_pos (by omega), if_pos (by omega), List.getElem?_replicate, if_pos (by omega)]
  · rw [if_neg e]
    by_cases e2 : lo ≤ j ∧ j < lo + m
    · rw [if_pos e2, if_pos (by omega), List.getElem?_replicate, List.getElem?_replicate, if_pos (by omega), if_pos (by omega)]
    · rw [if_neg e2, if_neg (by omega)]
theorem lose_nums {g s p L : Nat} (hf : g * s * p + s * p ≤ L) (hL : L ≤ 1048576) (hg : g ≤ 65536) : ∃ sz lo hi g1 : Nat, s * p = sz ∧ g * s * p = lo ∧ lo + sz = hi ∧ hi ≤ L ∧ wrap64 ((p : Int) * (s : Int)) = (sz : Int) ∧ wrap64 ((g : Int) * (sz : Int)) = (lo : Int) ∧ wrap64 ((g : Int) + 1) = (g1 : Int) ∧ wrap64 ((g1 : Int) * (sz : Int)) = (hi : Int) := by
  have h1 : g * (s * p) = g * s * p := (Nat.mul_assoc g s p).symm
  have h2 : (g + 1) * (s * p) = g * s * p + s * p := by rw [Nat.succ_mul, h1]
  refine ⟨s * p, g * s * p, g * s * p + s * p, g + 1, rfl, rfl, rfl, hf, ?_, ?_, ?_, ?_⟩
  · rw [← Int.natCast_mul, Nat.mul_comm p s]; exact wN (Nat.le_trans (Nat.le_trans (Nat.le_add_left _ _) hf) (Nat.le_trans hL (by decide)))
  · rw [← Int.natCast_mul, h1]; exact wN (Nat.le_trans (Nat.le_trans (Nat.le_add_right _ _) hf) (Nat.le_trans hL (by decide)))
  · exact wN (n := g + 1) (Nat.le_trans (Nat.succ_le_succ hg) (by decide))
  · rw [← Int.natCast_mul, h2]; exact wN (Nat.le_trans hf (Nat.le_trans hL (by decide)))
/-- What holds between two calls. -/
structure LoseSt (W : World) (p s r i : Nat) (bx db : Nat) (a : Int) (L gi ci : Nat) (wr : World) (f : Owner) (d : Dv) (I : List Int) : Prop where
  dev : DevX W.heap.size f wr db d
  ok : d.Ok
  un : d.un.length ≤ i
  fl : d.fl = []
  geo : d.p = p ∧ d.s = s ∧ d.r = r
  box : wr.heap[bx]? = some (.cells #[.int .i64 p, .int .i64 s, .int .i64 r, .int .i64 a] 23 (0, 0))
  bow : f bx ≠ db
  bel : Below W.heap.size W wr
  row : (Kd.int .u8).R 5 wr W.heap.size (fun k => f k ≠ db) (.slice (some ⟨gi, 0, none⟩) L ci) I
  inv : LoseInv d I
theorem LoseSt.below {W : World} {p s r i bx db : Nat} {a : Int} {L gi ci : Nat} {wr w1 : World} {f : Owner} {d : Dv} {I : List Int} (h : LoseSt W p s r i bx db a L gi ci wr f d I) (hb : Below wr.heap.size wr w1) : LoseSt W p s r (i + 1) bx db a L gi ci w1 f d I :=
  ⟨h.dev.below hb, h.ok, Nat.le_succ_of_le h.un, h.fl, h.geo, blk_below h.box hb, h.bow, h.bel.trans (hb.mono h.bel.size), Kd.R_below h.row hb, h.inv⟩
set_option maxHeartbeats 16000000 in
set_option maxRecDepth 100000 in
theorem loses_yes (W : World) (p s r : Nat) (a : Int) (hk : Geo.Ok p s r a) {A : Option Addr} {c : Nat} {l : List OpT} (hC : kOp.C W A l.length l) (hfit : ∀ o ∈ l, (opOf o).Fit) (hl : l.length * 104 ≤ 140737488351232) :
    Calls Try.prog 6 #[.agg #[.int .i64 p, .int .i64 s, .int .i64 r, .int .i64 a], .slice A l.length c] W (Near W (.bool true)) := by
  have OKD := Aside0.mk (fresh_ok hk)
  have KN := Aside0.mk (fun (w : World) => new_yes (w := w) hk)
  have BX : Aside0 (Below W.heap.size W (W.alloc (.cells #[.int .i64 p, .int .i64 s, .int .i64 r, .int .i64 a] 23))) := ⟨below_alloc (Below.refl _ _) _⟩
  have bb := blk_new W (.cells #[.int .i64 p, .int .i64 s, .int .i64 r, .int .i64 a] 23)
  have HC := Aside0.mk hC
  have HF := Aside0.mk (And.intro hfit hl)
  obtain ⟨n, hn⟩ : ∃ n, l.length = n := ⟨_, rfl⟩
  have HN := Aside0.mk hn
  rw [hn] at HC
  rw [hn]
  have HD0 : Aside0 ((Dv.fresh p s r a).un = [] ∧ (Dv.fresh p s r a).fl = [] ∧ (Dv.fresh p s r a).p = p ∧ (Dv.fresh p s r a).s = s ∧ (Dv.fresh p s r a).r = r) := ⟨rfl, rfl, rfl, rfl, rfl⟩
  obtain ⟨d0, hd0⟩ : ∃ d0, Dv.fresh p s r a = d0 := ⟨_, rfl⟩
  rw [hd0] at OKD KN HD0
  have hn44 : n ≤ 17592186044416 := by rw [← HN.out]; have := HF.out.2; omega
  have KI0 := Aside0.mk (fun (f : Owner) (w' : World) (db : Nat) (h : DevX W.heap.size f w' db d0) => image_walk h OKD.out)
  obtain ⟨L, hL⟩ : ∃ L, p * s * r = L := ⟨_, rfl⟩
  have HLL : Aside0 (d0.b.length = L ∧ 1 ≤ L ∧ L ≤ 1048576 ∧ p * s * r = L) := ⟨by
    have e : d0.b.length = L := by rw [OKD.out.len, HD0.out.2.2.1, HD0.out.2.2.2.1, HD0.out.2.2.2.2]; exact hL
    exact ⟨e, by rw [← e]; exact DevG.pos OKD.out, by rw [← e, OKD.out.len]; exact OKD.out.sz, hL⟩⟩
  clear hC hfit hl hn hd0 hk hL
  go_enter Try.func6, Try.ntmps6
  go_upto_region 1 with (fail)
  generalize hw1 : W.alloc (.cells #[.int .i64 p, .int .i64 s, .int .i64 r, .int .i64 a] 23) = w1 at bb BX ⊢
  clear hw1
  obtain ⟨bx, hbx⟩ : ∃ bx, W.heap.size = bx := ⟨_, rfl⟩
  have HBX := Aside0.mk hbx
  rw [hbx] at bb
  rw [hbx]
  have BB := Aside0.mk bb
  have GC := Aside0.mk (fun (w' : World) (hb : Below w1.heap.size w1 w') => (show w'.cell? ⟨bx, 0, none⟩ = some (.int .i64 p) ∧ w'.cell? ⟨bx, 1, none⟩ = some (.int .i64 s) ∧ w'.cell? ⟨bx, 2, none⟩ = some (.int .i64 r) ∧ w'.cell? ⟨bx, 3, none⟩ = some (.int .i64 a) from ⟨blk_cell (blk_below bb hb) 0, blk_cell (blk_below bb hb) 1, blk_cell (blk_below bb hb) 2, blk_cell (blk_below bb hb) 3⟩))
  clear bb hbx
  go_upto_region 6 with (first
    | (go_at_call 11; refine (lives_walk _).mono ?_; rintro e w2 ⟨rfl, hb2⟩; have B2 := Aside0.mk hb2; obtain ⟨c0, c1, c2, c3⟩ := GC.out _ hb2; clear hb2)
    | (go_at_call 12; refine (KN.out _).mono ?_; rintro e w3 ⟨hb3, db, rfl, hdb, hall⟩; have B3 := Aside0.mk hb3; have HD3 := Aside0.mk hall; have LD3 := Aside0.mk hdb; clear hb3 hall hdb c0 c1 c2 c3; obtain ⟨c0, c1, c2, c3⟩ := GC.out _ (B2.out.trans (B3.out.mono B2.out.size))))
  have hx3 : DevX W.heap.size (owns (fun k => k) w2.heap.size db) w3 db d0 := HD3.out _ _ (Nat.le_trans BX.out.size B2.out.size)
  have KI3 := Aside0.mk (KI0.out _ w3 db hx3)
  clear hx3 KI0
  go_upto_region 7 with (go_at_call 15; refine KI3.out.mono ?_; rintro e w4 ⟨v4, rfl, hR4, hb4⟩; obtain ⟨gi, ci, e4⟩ := open_rowL hR4 HLL.out.1 HLL.out.2.1; subst e4; have R4 := Aside0.mk hR4; have B4 := Aside0.mk hb4; clear hR4 hb4)
  have HDB : Aside0 (1 ≤ db) := ⟨by have h1 := Nat.lt_of_lt_of_le (blk_lt BB.out) B2.out.size; have := LD3.out; omega⟩
  have S0 : Aside0 (∃ f d I, LoseSt W p s r 0 bx db a L gi ci w4 f d I) := ⟨by
    have h12 := Nat.le_trans BX.out.size B2.out.size
    have h13 := Nat.le_trans h12 B3.out.size
    have hx3 : DevX W.heap.size (owns (fun k => k) w2.heap.size db) w3 db d0 := HD3.out _ _ h12
    have hbx2 : bx < w2.heap.size := Nat.lt_of_lt_of_le (blk_lt BB.out) B2.out.size
    have ldb := LD3.out
    obtain ⟨hx4, hn4, _⟩ := hx3.boxed B4.out
    exact ⟨_, d0, d0.b,
      { dev := hx4
        ok := OKD.out
        un := by rw [HD0.out.1]; exact Nat.le_refl _
        fl := HD0.out.2.1
        geo := HD0.out.2.2
        box := blk_below (blk_below (blk_below BB.out B2.out) B3.out) B4.out
        bow := by
          have h3 := B3.out.size
          rw [owns_old _ _ _ bx (by omega), owns_old _ _ _ bx hbx2]; omega
        bel := ((BX.out.trans (B2.out.mono BX.out.size)).trans (B3.out.mono h12)).trans (B4.out.mono h13)
        row := Kd.R_mono (Kd.R_lower R4.out h13) (fun k hk => hn4 k hk)
        inv := lose_all HD0.out.1 }⟩⟩
  clear HD3 LD3 B3 B2 c0 c1 c2 c3 GC BB KN OKD HD0 R4 B4 KI3
  go_wp2
  go_loopw [7, 8] (fun vi v wr => ∃ i gi ci : Nat, i ≤ n ∧ vi = .slice (some ⟨gi, 0, none⟩) L ci ∧ v = .int .i64 (i : Int) ∧ Aside0 (∃ f d I, LoseSt W p s r i bx db a L gi ci wr f d I)) (fun _ v _ => n - (intOf v).toNat)
  case atStart => exact ⟨0, gi, ci, Nat.zero_le _, rfl, rfl, S0⟩
  case round =>
    clear S0
    obtain ⟨i, gi, ci, hi, rfl, rfl, S⟩ := hrel
    by_cases hlt : i < n
    · have m0 : (0 : Int) ≤ (i : Int) := by omega
      have m1 : (i : Int) < (n : Int) := by omega
      have g2 : decide ((i : Int) < (n : Int)) = true := decide_eq_true m1
      obtain ⟨f, d, I, h⟩ := S.out
      obtain ⟨ad, o, cs, eA, ho, hV, hcell⟩ := at_op HC.out i hlt
      subst eA
      have HV := Aside0.mk hV
      obtain ⟨Ax, cx, Af, cf, Ac, cc, ecs, _⟩ := hV.is
      have hcw := fun (j : Nat) (u : Value) (hj : cs[j]? = some u) => (pw_cell_below h.bel (hcell j u hj))
      subst ecs
      have x0 : wr.cell? (ad.add (i * 7)) = some (.int .i64 (opOf o).k) := hcw 0 _ rfl
      have x1 : wr.cell? ⟨(ad.add (i * 7)).block, (ad.add (i * 7)).off + 1, none⟩ = some (.int .i64 (opOf o).n) := by rw [← add_field _ _ 1 (by omega)]; exact hcw 1 _ rfl
      have x2 : wr.cell? ⟨(ad.add (i * 7)).block, (ad.add (i * 7)).off + 2, none⟩ = some (.slice Ax (opOf o).x.length cx) := by rw [← add_field _ _ 2 (by omega)]; exact hcw 2 _ rfl
      have x3 : wr.cell? ⟨(ad.add (i * 7)).block, (ad.add (i * 7)).off + 3, none⟩ = some (.slice Af (opOf o).fl.length cf) := by rw [← add_field _ _ 3 (by omega)]; exact hcw 3 _ rfl
      have x4 : wr.cell? ⟨(ad.add (i * 7)).block, (ad.add (i * 7)).off + 4, none⟩ = some (.int .i64 (opOf o).st) := by rw [← add_field _ _ 4 (by omega)]; exact hcw 4 _ rfl
      have x5 : wr.cell? ⟨(ad.add (i * 7)).block, (ad.add (i * 7)).off + 5, none⟩ = some (.int .i64 (opOf o).re) := by rw [← add_field _ _ 5 (by omega)]; exact hcw 5 _ rfl
      have x6 : wr.cell? ⟨(ad.add (i * 7)).block, (ad.add (i * 7)).off + 6, none⟩ = some (.slice Ac (opOf o).ft.length cc) := by rw [← add_field _ _ 6 (by omega)]; exact hcw 6 _ rfl
      have HH := Aside0.mk h
      have HO := Aside0.mk (HF.out.1 o (List.mem_of_getElem? ho))
      obtain ⟨q, hq⟩ : ∃ q, opOf o = q := ⟨_, rfl⟩
      rw [hq] at HV HO x0 x1 x2 x3 x4 x5 x6
      have HL := Aside0.mk hlt
      clear h hV hcell hcw ho hq S
      obtain ⟨k, no, xo, flo, sto, reo, fto⟩ := q
      obtain ⟨lx, hlx⟩ : ∃ lx, xo.length = lx := ⟨_, rfl⟩
      obtain ⟨lf, hlf⟩ : ∃ lf, flo.length = lf := ⟨_, rfl⟩
      obtain ⟨lc, hlc⟩ : ∃ lc, fto.length = lc := ⟨_, rfl⟩
      simp only [hlx, hlf, hlc] at HV x2 x3 x6
      obtain ⟨w5, hw5⟩ : ∃ w5, wr.alloc (.cells #[.int .i64 k, .int .i64 no, .slice Ax lx cx, .slice Af lf cf, .int .i64 sto, .int .i64 reo, .slice Ac lc cc] 53) = w5 := ⟨_, rfl⟩
      have b5 : Below wr.heap.size wr w5 := by rw [← hw5]; exact below_alloc (Below.refl _ _) _
      have K5 : w5.heap[wr.heap.size]? = some (.cells #[.int .i64 k, .int .i64 no, .slice Ax lx cx, .slice Af lf cf, .int .i64 sto, .int .i64 reo, .slice Ac lc cc] 53 (0, 0)) := by rw [← hw5]; exact blk_new wr _
      have KK5 := Aside0.mk K5
      have B5 := Aside0.mk b5
      clear hlx hlf hlc
      by_cases h6 : k = 6
      · have g6 : (k == 6) = true := beq_iff_eq.2 h6
        have NEW := Aside0.mk (HH.out.below b5)
        have y0 := blk_cell K5 0
        clear h6 b5 K5
        go_wp2
        go_roundw
        case rel => exact ⟨i + 1, gi, ci, HL.out, rfl, by congr 1 <;> simp, ⟨_, _, _, NEW.out⟩⟩
        case measure =>
          have := HL.out
          simp [intOf]
          omega
      · have g6 : (k == 6) = false := beq_eq_false_iff_ne.2 h6
        have H6 := Aside0.mk h6
        obtain ⟨hx5, n5, m5⟩ := HH.out.dev.boxed b5
        have N5 := Aside0.mk (n5 wr.heap.size (Nat.le_refl _))
        have X5 := Aside0.mk hx5
        have W5 := Aside0.mk (HH.out.bel.trans (b5.mono HH.out.bel.size))
        have R5 : Aside0 ((Kd.int .u8).R 5 w5 W.heap.size (fun k => owns f wr.heap.size wr.heap.size k ≠ db) (.slice (some ⟨gi, 0, none⟩) L ci) I) := ⟨Kd.R_below (Kd.R_mono (Kd.R_bound HH.out.row) (fun k hk => by rw [owns_old _ _ _ k hk.2.2.1]; exact hk.1)) b5⟩
        have BX5 : Aside0 (w5.heap[bx]? = some (.cells #[.int .i64 p, .int .i64 s, .int .i64 r, .int .i64 a] 23 (0, 0)) ∧ owns f wr.heap.size wr.heap.size bx ≠ db) := ⟨blk_below HH.out.box b5, by rw [owns_old _ _ _ bx (blk_lt HH.out.box)]; exact HH.out.bow⟩
        have hun : (d.un.length + 1) * 8 ≤ 140737488355328 := by
          have h1 := HH.out.un
          have h2 := HL.out
          have h3 := HF.out.2
          have h4 := HN.out
          omega
        have KD := Aside0.mk (does_walk hx5 W5.out HH.out.ok hun HV.out HO.out)
        obtain ⟨f5, hf5⟩ : ∃ f5, owns f wr.heap.size wr.heap.size = f5 := ⟨_, rfl⟩
        rw [hf5] at KD X5 N5 R5 BX5
        have y0 := blk_cell K5 0
        have y1 := blk_cell K5 1
        have y2 := blk_cell K5 2
        have y3 := blk_cell K5 3
        have y4 := blk_cell K5 4
        have y5 := blk_cell K5 5
        have y6 := blk_cell K5 6
        have HOK := Aside0.mk (does_ok HH.out.ok HO.out)
        have HGE := Aside0.mk (does_geo d ⟨k, no, xo, flo, sto, reo, fto⟩)
        have HUN : Aside0 ((d.does ⟨k, no, xo, flo, sto, reo, fto⟩).1.un.length ≤ i + 1) := ⟨Nat.le_trans (does_un d _) (Nat.succ_le_succ HH.out.un)⟩
        have HFL := Aside0.mk (does_fl HH.out.fl (o := ⟨k, no, xo, flo, sto, reo, fto⟩) h6)
        have D1 : Aside0 (k = 1 → d.does ⟨k, no, xo, flo, sto, reo, fto⟩ = d.program no xo) := ⟨fun e => by unfold Dv.does; exact if_pos e⟩
        have D4 : Aside0 (k = 4 → (d.does ⟨k, no, xo, flo, sto, reo, fto⟩).2 = 0 ∧ (d.does ⟨k, no, xo, flo, sto, reo, fto⟩).1.un = []) := ⟨fun e => by
          have e2 : d.does ⟨k, no, xo, flo, sto, reo, fto⟩ = d.sync := by unfold Dv.does; rw [if_neg (show ¬ k = 1 by omega), if_neg (show ¬ k = 3 by omega)]; exact if_pos e
          rw [e2]
          unfold Dv.sync
          rw [op_nil HH.out.fl]
          exact ⟨rfl, rfl⟩⟩
        have D3 : Aside0 (k = 3 → ∀ g : Nat, no = (g : Int) → g < d.r → d.does ⟨k, no, xo, flo, sto, reo, fto⟩ = (Dv.wipe g (d.count 3), 0)) := ⟨fun e g hg hr => by
          have e2 : d.does ⟨k, no, xo, flo, sto, reo, fto⟩ = d.erase no := by unfold Dv.does; rw [if_neg (show ¬ k = 1 by omega)]; exact if_pos e
          rw [e2]
          unfold Dv.erase
          rw [if_neg (by omega), op_nil HH.out.fl, hg, Int.toNat_natCast]⟩
        have D3n : Aside0 (k = 3 → (no < 0 ∨ (d.r : Int) ≤ no) → d.does ⟨k, no, xo, flo, sto, reo, fto⟩ = (d, 30)) := ⟨fun e hr => by
          have e2 : d.does ⟨k, no, xo, flo, sto, reo, fto⟩ = d.erase no := by unfold Dv.does; rw [if_neg (show ¬ k = 1 by omega)]; exact if_pos e
          rw [e2]
          unfold Dv.erase
          rw [if_pos hr]⟩
        have D0 : Aside0 (k ≠ 1 → k ≠ 3 → k ≠ 4 → d.does ⟨k, no, xo, flo, sto, reo, fto⟩ = (d, 1)) := ⟨fun e1 e3 e4 => by unfold Dv.does; rw [if_neg e1, if_neg e3, if_neg e4]; exact if_neg h6⟩
        clear hun h6 b5 K5 hx5 n5 m5 hf5
        obtain ⟨q1, hq1⟩ : ∃ q1, d.does ⟨k, no, xo, flo, sto, reo, fto⟩ = q1 := ⟨_, rfl⟩
        rw [hq1] at KD HOK HGE HUN HFL D1 D4 D3 D3n D0
        obtain ⟨d1, er⟩ := q1
        clear hq1
        go_upto_region 13 with (go_at_call 22; refine KD.out.mono ?_; rintro e w7 ⟨rfl, h7⟩; have S7 := Aside0.mk h7; clear h7)
        clear y2 y3 y4 y5 y6 KD
        obtain ⟨f7, hx7, m7⟩ := S7.out
        have X7 : Aside0 (DevX W.heap.size f7 w7 db d1) := ⟨hx7⟩
        obtain ⟨bo, hbo⟩ : ∃ bo, wr.heap.size = bo := ⟨_, rfl⟩
        have K7 := Aside0.mk (m7.blk KK5.out N5.out)
        rw [hbo] at K7
        rw [hbo]
        clear hbo
        have BX7 : Aside0 (w7.heap[bx]? = some (.cells #[.int .i64 p, .int .i64 s, .int .i64 r, .int .i64 a] 23 (0, 0)) ∧ f7 bx ≠ db) := ⟨m7.blk BX5.out.1 BX5.out.2, by rw [m7.own_at BX5.out.1]; exact BX5.out.2⟩
        have R7 : Aside0 ((Kd.int .u8).R 5 w7 W.heap.size (fun k => f7 k ≠ db) (.slice (some ⟨gi, 0, none⟩) L ci) I) := ⟨m7.row R5.out (fun k hk _ e => hk e) (fun k hk hl => by rw [m7.old k hl]; exact hk)⟩
        have W7 := Aside0.mk (W5.out.trans m7.below)
        have GEO1 : Aside0 (d1.p = p ∧ d1.s = s ∧ d1.r = r) := ⟨HGE.out.1.trans HH.out.geo.1, HGE.out.2.1.trans HH.out.geo.2.1, HGE.out.2.2.1.trans HH.out.geo.2.2⟩
        have KEEP : Aside0 (LoseInv d1 I → LoseSt W p s r (i + 1) bx db a L gi ci w7 f7 d1 I) := ⟨fun hi => ⟨X7.out, HOK.out, HUN.out, HFL.out, GEO1.out, BX7.out.1, BX7.out.2, W7.out, R7.out, hi⟩⟩
        clear y0 y1
        have y0 := blk_cell K7.out 0
        have y1 := blk_cell K7.out 1
        clear hx7 m7 S7 X5 N5 R5 BX5 W5 KK5 B5
        by_cases h4 : k = 4
        · obtain ⟨e4, hu4⟩ := D4.out h4
          have e4' : er = 0 := e4
          subst e4'
          have g4 : (k == 4) = true := beq_iff_eq.2 h4
          have g3 : (k == 3) = false := beq_eq_false_iff_ne.2 (by omega)
          have KI := Aside0.mk (image_walk X7.out HOK.out)
          have HU4 : Aside0 (d1.un = []) := ⟨hu4⟩
          have HLB : Aside0 (d1.b.length = L) := ⟨by rw [HOK.out.len, GEO1.out.1, GEO1.out.2.1, GEO1.out.2.2]; exact HLL.out.2.2.2⟩
          clear h4 e4 hu4
          go_upto_region 15 with (go_at_call 15; refine KI.out.mono ?_; rintro e w8 ⟨v8, rfl, hR8, hb8⟩; obtain ⟨g8, c8, e8⟩ := open_rowL hR8 HLB.out HLL.out.2.1; subst e8; have R8 := Aside0.mk hR8; have B8 := Aside0.mk hb8; clear hR8 hb8)
          have z0 := pw_cell_below B8.out y0
          have NEW : Aside0 (∃ f d I, LoseSt W p s r (i + 1) bx db a L g8 c8 w8 f d I) := ⟨by
            obtain ⟨hx8, n8, _⟩ := X7.out.boxed B8.out
            exact ⟨_, d1, d1.b, hx8, HOK.out, HUN.out, HFL.out, GEO1.out, blk_below BX7.out.1 B8.out, by rw [owns_old _ _ _ bx (blk_lt BX7.out.1)]; exact BX7.out.2, W7.out.trans (B8.out.mono W7.out.size), Kd.R_mono (Kd.R_lower R8.out W7.out.size) (fun k hk => n8 k hk), lose_all HU4.out⟩⟩
          clear y0 y1
          go_wp2
          go_roundw
          case rel => exact ⟨i + 1, g8, c8, HL.out, rfl, by congr 1 <;> simp, NEW⟩
          case measure =>
            have := HL.out
            simp [intOf]
            omega
        · have g4 : (k == 4) = false := beq_eq_false_iff_ne.2 h4
          by_cases h3 : k = 3
          · have g3 : (k == 3) = true := beq_iff_eq.2 h3
            by_cases hr : no < 0 ∨ (d.r : Int) ≤ no
            · have e := D3n.out h3 hr
              have e1 : d1 = d := congrArg Prod.fst e
              have e2 : er = 30 := congrArg Prod.snd e
              subst e2
              have NEW := Aside0.mk (KEEP.out (by rw [e1]; exact HH.out.inv))
              clear h3 h4 hr e e1
              go_wp2
              go_roundw
              case rel => exact ⟨i + 1, gi, ci, HL.out, rfl, by congr 1 <;> simp, ⟨_, _, _, NEW.out⟩⟩
              case measure =>
                have := HL.out
                simp [intOf]
                omega
            · obtain ⟨g, hg⟩ : ∃ g : Nat, no = (g : Int) := ⟨no.toNat, by omega⟩
              have hgr : g < d.r := by omega
              have GR := Aside0.mk hgr
              have e := D3.out h3 g hg hgr
              have e1 : d1 = Dv.wipe g (d.count 3) := congrArg Prod.fst e
              have e2 : er = 0 := congrArg Prod.snd e
              subst e2 hg
              have INV := Aside0.mk (lose_erase HH.out.ok HH.out.inv hgr)
              rw [← e1, HH.out.geo.1, HH.out.geo.2.1] at INV
              have hfit := region_fits HH.out.ok hgr
              rw [HH.out.geo.1, HH.out.geo.2.1, show d.b.length = L from by rw [HH.out.ok.len, HH.out.geo.1, HH.out.geo.2.1, HH.out.geo.2.2]; exact HLL.out.2.2.2] at hfit
              clear h3 h4 hr e e1 hgr
              obtain ⟨sz, lo, hi2, g1, n1, n2, n3, n4, e1, e2, e3, e4⟩ := lose_nums hfit HLL.out.2.2.1 (Nat.le_trans (Nat.le_of_lt GR.out) (by have h := HH.out.ok.r2; omega))
              rw [n1, n2] at INV
              have TG := Aside0.mk ((Kd.R_bound R7.out).1 gi rfl)
              have NG : Aside0 (bo ≠ gi ∧ bx ≠ gi) := ⟨⟨fun e => Kd.R_ne R7.out K7.out (by decide) (by rw [e]; rfl), fun e => Kd.R_ne R7.out BX7.out.1 (by decide) (by rw [e]; rfl)⟩⟩
              have c0 := blk_cell BX7.out.1 0
              have c1 := blk_cell BX7.out.1 1
              have E34 := Aside0.mk (And.intro e3 e4)
              have HI := Aside0.mk (And.intro n3 n4)
              have hi2b : hi2 ≤ 1048576 := Nat.le_trans n4 HLL.out.2.2.1
              have IL : Aside0 (I.length = L) := ⟨(R_C R7.out).2.1⟩
              clear hfit n1 n2 e3 e4 n3 n4
              go_wp2
              clear c0 c1 e1 e2 y0 y1
              go_loopw [12] (fun v wr => ∃ t : Nat, lo ≤ t ∧ t ≤ hi2 ∧ v = .int .i64 (t : Int) ∧ Aside0 ((Kd.int .u8).R 5 wr W.heap.size (fun k => f7 k ≠ db) (.slice (some ⟨gi, 0, none⟩) L ci) (putAt I lo (List.replicate (t - lo) 255)) ∧ Only W.heap.size (some gi) w7 wr)) (fun v _ => hi2 - (intOf v).toNat)
              case atStart => exact ⟨lo, Nat.le_refl _, by rw [← HI.out.1]; exact Nat.le_add_right _ _, rfl, ⟨by rw [Nat.sub_self, show List.replicate 0 (255 : Int) = [] from rfl, put_nil]; exact R7.out, Only.refl _ _ _⟩⟩
              case round =>
                obtain ⟨t, ht1, ht2, rfl, S9⟩ := hrel
                have y1' := blk_cell (S9.out.2.blkL K7.out NG.out.1) 1
                by_cases htt : t < hi2
                · have g7 : decide ((t : Int) < (hi2 : Int)) = true := decide_eq_true (Int.ofNat_lt.2 htt)
                  have m2 : (0 : Int) ≤ (t : Int) := Int.natCast_nonneg t
                  have htl : t < L := Nat.lt_of_lt_of_le htt HI.out.2
                  have m3 : (t : Int) < (L : Int) := Int.ofNat_lt.2 htl
                  obtain ⟨k0, k1⟩ := Kd.R_celln (0 : Int) S9.out.1 (t : Int) m2 m3
                  rw [Int.toNat_natCast] at k0 k1
                  obtain ⟨y, hy⟩ : ∃ y, rdOf (0 : Int) (putAt I lo (List.replicate (t - lo) 255)) (t : Int) = y := ⟨_, rfl⟩
                  rw [hy] at k0
                  have LT := Aside0.mk (And.intro htt (And.intro ht1 htl))
                  have SS := Aside0.mk S9.out
                  obtain ⟨t1, ht3⟩ : ∃ t1, t + 1 = t1 := ⟨_, rfl⟩
                  have E9 : Aside0 (wrap64 ((t : Int) + 1) = (t1 : Int)) := ⟨by rw [← ht3]; exact wN (n := t + 1) (Nat.le_trans htt (Nat.le_trans hi2b (by decide)))⟩
                  have T1 := Aside0.mk ht3
                  have e3 := E34.out.1
                  have e4 := E34.out.2
                  clear hy S9 htl ht3
                  go_upto_region 20 with (fail)
                  clear e3 e4 y1'
                  go_upto_region 19 with (fail)
                  clear k0 k1
                  have e9 := E9.out
                  go_wp2
                  go_roundw
                  case rel =>
                    clear e9
                    refine ⟨t1, by rw [← T1.out]; exact Nat.le_succ_of_le ht1, by rw [← T1.out]; exact LT.out.1, by rw [← T1.out]; congr 1 <;> simp, ⟨?_, SS.out.2.trans (Only.set _ TG.out.2.1 t _)⟩⟩
                    have h := Kd.R_putn SS.out.1 (t : Int) 255
                    rw [Int.toNat_natCast] at h
                    have e := put_set I lo (t - lo) (by rw [IL.out]; have := LT.out.2.2; have := LT.out.2.1; omega)
                    rw [show lo + (t - lo) = t by have := LT.out.2.1; omega] at e
                    rw [e] at h
                    rw [← T1.out, show t + 1 - lo = t - lo + 1 by have := LT.out.2.1; omega]
                    exact h
                  case measure =>
                    clear e9
                    have h1 := LT.out.1
                    have h2 := T1.out
                    simp [intOf]
                    omega
                · have hte : t = hi2 := Nat.le_antisymm ht2 (Nat.le_of_not_lt htt)
                  have g7 : decide ((t : Int) < (hi2 : Int)) = false := decide_eq_false (fun h => htt (Int.ofNat_lt.1 h))
                  have NEW : Aside0 (LoseSt W p s r (i + 1) bx db a L gi ci wr f7 d1 (putAt I lo (List.replicate sz 255))) := ⟨by
                    have hm := S9.out.2.mvL (f := f7)
                    have hR := S9.out.1
                    rw [hte, show hi2 - lo = sz by have := HI.out.1; omega] at hR
                    exact
                      { dev := X7.out.mv hm (fun e => TG.out.1 e.symm)
                        ok := HOK.out
                        un := HUN.out
                        fl := HFL.out
                        geo := GEO1.out
                        box := S9.out.2.blkL BX7.out.1 NG.out.2
                        bow := BX7.out.2
                        bel := W7.out.trans S9.out.2.below
                        row := hR
                        inv := INV.out }⟩
                  have e3 := E34.out.1
                  have e4 := E34.out.2
                  clear S9 hte
                  go_wp2
                  clear e3 e4
                  go_roundw
                  case rel => exact ⟨i + 1, gi, ci, HL.out, rfl, by congr 1 <;> simp, ⟨_, _, _, NEW.out⟩⟩
                  case measure =>
                    have := HL.out
                    simp [intOf]
                    omega
          · have g3 : (k == 3) = false := beq_eq_false_iff_ne.2 h3
            have NEW : Aside0 (LoseSt W p s r (i + 1) bx db a L gi ci w7 f7 d1 I) := ⟨KEEP.out (by
              by_cases h1 : k = 1
              · have e : d1 = (d.program no xo).1 := congrArg Prod.fst (D1.out h1)
                rw [e]
                exact lose_program HH.out.ok HH.out.fl HH.out.inv no
              · have e : d1 = d := congrArg Prod.fst (D0.out h1 h3 h4)
                rw [e]
                exact HH.out.inv)⟩
            clear h3 h4
            go_wp2
            go_roundw
            case rel => exact ⟨i + 1, gi, ci, HL.out, rfl, by congr 1 <;> simp, ⟨_, _, _, NEW.out⟩⟩
            case measure =>
              have := HL.out
              simp [intOf]
              omega
    · have g2 : decide ((i : Int) < (n : Int)) = false := decide_eq_false (by omega)
      obtain ⟨f, d, I, h⟩ := S.out
      have HH := Aside0.mk h
      have hul : d.un.length ≤ 17592186044400 := by have := h.un; have := HF.out.2; have := HN.out; omega
      have HUL := Aside0.mk hul
      -- other owners: its own, and nobody
      have hdb1 := HDB.out
      have FO : Aside0 (∃ g : Owner, DevX W.heap.size g wr db d ∧ (Kd.int .u8).R 5 wr W.heap.size (fun k => g k = 0) (.slice (some ⟨gi, 0, none⟩) L ci) I) := ⟨fun k => if f k = db then db else 0, h.dev.reownL (fun k hk => if_pos hk), Kd.R_mono h.row (fun k hk => if_neg hk)⟩
      obtain ⟨g, hx, hrow⟩ := FO.out
      have hsz := hx.size.2.1
      have X0 := Aside0.mk hx
      have R0 := Aside0.mk hrow
      have HDN := Aside0.mk hdb1
      have HLB : Aside0 (d.b.length = L) := ⟨by rw [h.ok.len, h.geo.1, h.geo.2.1, h.geo.2.2]; exact HLL.out.2.2.2⟩
      have KF := Aside0.mk (fun (w' : World) (hb : Below wr.heap.size wr w') => fork_walk (hx.below hb) h.ok (Nat.le_trans hul (by decide)))
      clear h S hul hdb1 hx hrow hsz FO
      go_upto_region 22 with (first
        | (go_at_call 27; refine (KF.out _ (Below.refl _ _)).mono ?_; rintro e w8 ⟨ba, rfl, hb8, hba, hall8⟩; have F8 := Aside0.mk (And.intro hb8 (And.intro hba hall8)); clear hb8 hba hall8)
        | (go_at_call 27; refine (KF.out _ F8.out.1).mono ?_; rintro e w9 ⟨bb, rfl, hb9, hbb, hall9⟩; have F9 := Aside0.mk (And.intro hb9 (And.intro hbb hall9)); clear hb9 hbb hall9))
      have P9 : Aside0 (∃ g2 : Owner, DevX W.heap.size g2 w9 db d ∧ DevX W.heap.size g2 w9 ba d ∧ DevX W.heap.size g2 w9 bb d ∧ (Kd.int .u8).R 5 w9 W.heap.size (fun k => g2 k = 0) (.slice (some ⟨gi, 0, none⟩) L ci) I ∧ db ≠ ba ∧ db ≠ bb ∧ ba ≠ bb ∧ 0 ≠ ba ∧ 0 ≠ bb ∧ Below W.heap.size W w9) := ⟨by
        have s0 := HH.out.bel.size
        have s8 := Nat.le_trans s0 F8.out.1.size
        have hA8 : DevX W.heap.size (owns g wr.heap.size ba) w8 ba d := F8.out.2.2 _ _ s0
        have hD8 : DevX W.heap.size (owns g wr.heap.size ba) w8 db d := X0.out.mv (Mv.of_below (B := W.heap.size) (o := fun _ => False) F8.out.1 s0 (fun k hk => owns_old _ _ _ k hk)) id
        have m9 := Mv.of_below (B := W.heap.size) (o := fun _ => False) (f := owns g wr.heap.size ba) (f1 := owns (owns g wr.heap.size ba) w8.heap.size bb) F9.out.1 s8 (fun k hk => owns_old _ _ _ k hk)
        have hB9 : DevX W.heap.size (owns (owns g wr.heap.size ba) w8.heap.size bb) w9 bb d := F9.out.2.2 _ _ s8
        have l0 := X0.out.size.2.1
        have l1 := hA8.size.2.1
        have l2 := F8.out.2.1
        have l3 := F9.out.2.1
        have l4 := HDN.out
        refine ⟨_, hD8.mv m9 id, hA8.mv m9 id, hB9, ?_, by omega, by omega, by omega, by omega, by omega, (HH.out.bel.trans (F8.out.1.mono s0)).trans (F9.out.1.mono s8)⟩
        refine Kd.R_below (Kd.R_below (Kd.R_mono (Kd.R_bound R0.out) (fun k hk => ?_)) F8.out.1) F9.out.1
        have h8 := F8.out.1.size
        rw [owns_old _ _ _ k (Nat.lt_of_lt_of_le hk.2.2.1 h8), owns_old _ _ _ k hk.2.2.1]
        exact hk.1⟩
      obtain ⟨g2', D9, A9, B9, R9, n1, n2, n3, n4, n5, b9⟩ := P9.out
      have hul : d.un.length < 17592186044416 := by have := HUL.out; omega
      have cr := fun (f : Owner) (w' : World) (b : Nat) (re : Int) (hr : re = 1 ∨ re = 2) (hx : DevX W.heap.size f w' b d) => crash_walk hx HH.out.ok hul (st := 0) (re := re) (A := none) (cc := 0) (fts := []) (fun w' _ => ⟨rfl, by decide, fun h => absurd h (by decide)⟩) (by decide) (by decide) (fun q _ => lost_fit d re hr q) (fun w' _ => right_nil w' _ _ _ _ re hr)
      have KA : Aside0 (Calls Try.prog 25 #[.pointer (some ⟨ba, 0, none⟩), .agg #[.int .i64 0, .int .i64 1, .slice none 0 0]] w9 (fun e w' => e = .returned (.int .i64 0) ∧ DevA W.heap.size g2' w9 ba { d with un := [] } w')) := ⟨by
        have h := cr g2' w9 ba 1 (.inl rfl) A9
        rw [crash_kept HH.out.ok] at h
        exact h⟩
      have KB : Aside0 (∀ (f : Owner) (w' : World), DevX W.heap.size f w' bb d → Calls Try.prog 25 #[.pointer (some ⟨bb, 0, none⟩), .agg #[.int .i64 0, .int .i64 2, .slice none 0 0]] w' (fun e w'' => e = .returned (.int .i64 0) ∧ DevA W.heap.size f w' bb (d.crash 2 []) w'')) := ⟨fun f w' hx => cr f w' bb 2 (.inr rfl) hx⟩
      have P9' := Aside0.mk (And.intro D9 (And.intro B9 (And.intro R9 (And.intro n1 (And.intro n2 (And.intro n3 (And.intro n4 (And.intro n5 b9))))))))
      have OKC := Aside0.mk (crash_ok HH.out.ok 2 [] (fun q _ => lost_fit d 2 (.inr rfl) q))
      have LC := Aside0.mk (lose_crash HH.out.ok HH.out.inv)
      have UC : Aside0 ((d.crash 2 []).un = []) := ⟨rfl⟩
      have OKA : Aside0 (({ d with un := [] } : Dv).Ok ∧ ({ d with un := [] } : Dv).b = d.b ∧ ({ d with un := [] } : Dv).un = []) := ⟨⟨HH.out.ok.p1, HH.out.ok.p2, HH.out.ok.s1, HH.out.ok.s2, HH.out.ok.r1, HH.out.ok.r2, HH.out.ok.sz, HH.out.ok.len, HH.out.ok.byte, HH.out.ok.wl, fun q hq => by simp at hq, HH.out.ok.flk, HH.out.ok.fll⟩, rfl, rfl⟩
      obtain ⟨da, hda⟩ : ∃ da : Dv, { d with un := [] } = da := ⟨_, rfl⟩
      obtain ⟨dc, hdc⟩ : ∃ dc : Dv, d.crash 2 [] = dc := ⟨_, rfl⟩
      rw [hda] at KA OKA
      rw [hdc] at KB OKC LC UC
      clear D9 A9 B9 R9 n1 n2 n3 n4 n5 b9 hul cr hda hdc P9 KF F8 F9 X0 R0
      have q26 := some26
      go_wp2_with (fail)
      go_at_call 25
      refine KA.out.mono ?_
      rintro e w10 ⟨rfl, h10⟩
      obtain ⟨g3, A10, m10⟩ := h10
      have B10 := P9'.out.2.1.mv m10 (fun e => P9'.out.2.2.2.2.2.1 e.symm)
      have D10 := P9'.out.1.mv m10 (fun e => P9'.out.2.2.2.1 e)
      have R10 : (Kd.int .u8).R 5 w10 W.heap.size (fun k => g3 k = 0) (.slice (some ⟨gi, 0, none⟩) L ci) I := m10.row P9'.out.2.2.1 (fun k hk _ e => P9'.out.2.2.2.2.2.2.1 (by rw [← hk]; exact e)) (fun k hk hl => (m10.old k hl).trans hk)
      have S10 := Aside0.mk (And.intro A10 (And.intro D10 (And.intro R10 (P9'.out.2.2.2.2.2.2.2.2.trans m10.below))))
      have KB2 := Aside0.mk (KB.out g3 w10 B10)
      clear A10 m10 B10 D10 R10
      go_wp2_with (fail)
      go_at_call 25
      refine KB2.out.mono ?_
      rintro e w11 ⟨rfl, h11⟩
      obtain ⟨g4, B11, m11⟩ := h11
      have A11 := S10.out.1.mv m11 (fun e => P9'.out.2.2.2.2.2.1 e)
      have D11 := S10.out.2.1.mv m11 (fun e => P9'.out.2.2.2.2.1 e)
      have R11 : Aside0 ((Kd.int .u8).R 5 w11 W.heap.size (fun k => g4 k = 0) (.slice (some ⟨gi, 0, none⟩) L ci) I) := ⟨m11.row S10.out.2.2.1 (fun k hk _ e => P9'.out.2.2.2.2.2.2.2.1 (by rw [← hk]; exact e)) (fun k hk hl => (m11.old k hl).trans hk)⟩
      have W11 := Aside0.mk (S10.out.2.2.2.trans m11.below)
      have KIa := Aside0.mk (fun (w' : World) (hb : Below w11.heap.size w11 w') => image_walk (A11.below hb) OKA.out.1)
      have KId := Aside0.mk (fun (w' : World) (hb : Below w11.heap.size w11 w') => image_walk (D11.below hb) HH.out.ok)
      have KIb := Aside0.mk (fun (w' : World) (hb : Below w11.heap.size w11 w') => image_walk (B11.below hb) OKC.out)
      have KUa := Aside0.mk (fun (w' : World) (hb : Below w11.heap.size w11 w') => unsynced_walk (A11.below hb) OKA.out.1 (by rw [OKA.out.2.2]; decide))
      have KUb := Aside0.mk (fun (w' : World) (hb : Below w11.heap.size w11 w') => unsynced_walk (B11.below hb) OKC.out (by rw [UC.out]; decide))
      have IL : Aside0 (I.length = L ∧ L ≤ 140737488355328) := ⟨(R_C R11.out).2.1, Nat.le_trans HLL.out.2.2.1 (by decide)⟩
      clear B11 m11 A11 D11 KB KB2 KA S10 P9' q26
      go_upto_region 24 with (fail)
      go_wp2_with (fail)
      go_at_call 15
      refine (KIa.out _ (Below.refl _ _)).mono ?_
      rintro e w12 ⟨v12, rfl, hR12, hb12⟩
      obtain ⟨A12, c12, e12⟩ := Kd.R_slice hR12
      rw [OKA.out.2.1, HLB.out] at e12
      rw [OKA.out.2.1] at hR12
      subst e12
      have R12 := Aside0.mk hR12
      have B12 := Aside0.mk hb12
      clear hR12 hb12 KIa
      go_wp2_with (fail)
      go_at_call 15
      refine (KId.out _ B12.out).mono ?_
      rintro e w13 ⟨v13, rfl, hR13, hb13⟩
      obtain ⟨A13, c13, e13⟩ := Kd.R_slice hR13
      rw [HLB.out] at e13
      subst e13
      have KS1 := Aside0.mk (same_arg R12.out hb13 (R_C hR13).1 (R_C hR13).2.2 (Below.refl _ _) HLB.out IL.out.2)
      have B13 := Aside0.mk (B12.out.trans (hb13.mono B12.out.size))
      clear hR13 hb13 KId
      go_wp2_with (fail)
      go_at_call 14
      refine KS1.out.mono ?_
      rintro e w14 ⟨rfl, hd14⟩
      have B14 := Aside0.mk (B13.out.trans (hd14.below.mono B13.out.size))
      clear hd14 KS1
      go_wp2_with (fail)
      go_at_call 15
      refine (KIb.out _ B14.out).mono ?_
      rintro e w15 ⟨v15, rfl, hR15, hb15⟩
      obtain ⟨A15, c15, e15⟩ := Kd.R_slice hR15
      rw [LC.out, IL.out.1] at e15
      rw [LC.out] at hR15
      subst e15
      have KS2 := Aside0.mk (same_arg hR15 (Below.refl _ _) (R_C R11.out).1 (R_C R11.out).2.2 (B14.out.trans (hb15.mono B14.out.size)) IL.out.1 IL.out.2)
      have B15 := Aside0.mk (B14.out.trans (hb15.mono B14.out.size))
      clear hR15 hb15 KIb
      go_wp2_with (fail)
      go_at_call 14
      refine KS2.out.mono ?_
      rintro e w16 ⟨rfl, hd16⟩
      have B16 := Aside0.mk (B15.out.trans (hd16.below.mono B15.out.size))
      clear hd16 KS2
      go_wp2_with (fail)
      go_at_call 16
      refine (KUa.out _ B16.out).mono ?_
      rintro e w17 ⟨v17, rfl, hR17, hb17⟩
      obtain ⟨A17, c17, e17⟩ := Kd.R_slice hR17
      rw [OKA.out.2.2] at e17
      subst e17
      have B17 := Aside0.mk (B16.out.trans (hb17.mono B16.out.size))
      clear hR17 hb17 KUa
      have e0 : (([] : List Int).length : Int) = 0 := rfl
      go_wp2_with (fail)
      go_at_call 16
      refine (KUb.out _ B17.out).mono ?_
      rintro e w18 ⟨v18, rfl, hR18, hb18⟩
      obtain ⟨A18, c18, e18⟩ := Kd.R_slice hR18
      rw [UC.out] at e18
      subst e18
      have B18 := Aside0.mk (B17.out.trans (hb18.mono B17.out.size))
      clear hR18 hb18 KUb
      go_wp2
      go_ret
      exact ⟨rfl, W11.out.trans (B18.out.mono W11.out.size)⟩
end Go.Proofs.Ytnkbebdgkidbjaa.Flash
namespace Go.Proofs.Ytnkbebdgkidbjaa.Main
open Go.Proofs.Ytnkbebdgkidbjaa.Flash Go.Proofs.Ytnkbebdgkidbjaa.QFlashPlays
open Go.RowKit Go.Proofs.YtnkbebdgkidbjaaW.PrintWords Go.Proofs.YtnkbebdgkidbjaaW.PrintLast Go.Proofs.YtnkbebdgkidbjaaW.PrintMore
set_option linter.unusedVariables false
set_option linter.unusedSimpArgs false
theorem FlashLoses (W : World) (a0_0 : Int) (a0_1 : Int) (a0_2 : Int) (a0_3 : Int) (A1 : Option Addr) (c1 : Nat) (l1 : List (Int × (Int × ((List Int) × ((List (Int × (Int × Int))) × (Int × (Int × (List (Int × (Int × Int)))))))))) (w0_0 : (Lit.int .i64 a0_0).wf = true) (w0_1 : (Lit.int .i64 a0_1).wf = true) (w0_2 : (Lit.int .i64 a0_2).wf = true) (w0_3 : (Lit.int .i64 a0_3).wf = true) (hC1 : Kd.C (Kd.pair (Kd.int .i64) (Kd.pair (Kd.int .i64) (Kd.pair (Kd.slice 5 (Kd.int .u8)) (Kd.pair (Kd.slice 85 (Kd.pair (Kd.int .i64) (Kd.pair (Kd.int .i64) (Kd.int .i64)))) (Kd.pair (Kd.int .i64) (Kd.pair (Kd.int .i64) (Kd.slice 88 (Kd.pair (Kd.int .i64) (Kd.pair (Kd.int .i64) (Kd.int .i64)))))))))) W A1 l1.length l1) (hc1 : l1.length ≤ c1) (hG1 : (fun l => l.length * 104 ≤ 140737488351232 ∧ l.length ≤ 9223372036854775807 ∧ ∀ x ∈ l, (fun x => (fun x => (Lit.int .i64 x).wf = true) x.1 ∧ (fun x => (fun x => (Lit.int .i64 x).wf = true) x.1 ∧ (fun x => (fun l => l.length * 1 ≤ 140737488351232 ∧ l.length ≤ 9223372036854775807 ∧ ∀ x ∈ l, (fun x => (Lit.int .u8 x).wf = true) x) x.1 ∧ (fun x => (fun l => l.length * 24 ≤ 140737488351232 ∧ l.length ≤ 9223372036854775807 ∧ ∀ x ∈ l, (fun x => (fun x => (Lit.int .i64 x).wf = true) x.1 ∧ (fun x => (fun x => (Lit.int .i64 x).wf = true) x.1 ∧ (fun x => (Lit.int .i64 x).wf = true) x.2) x.2) x) x.1 ∧ (fun x => (fun x => (Lit.int .i64 x).wf = true) x.1 ∧ (fun x => (fun x => (Lit.int .i64 x).wf = true) x.1 ∧ (fun l => l.length * 24 ≤ 140737488351232 ∧ l.length ≤ 9223372036854775807 ∧ ∀ x ∈ l, (fun x => (fun x => (Lit.int .i64 x).wf = true) x.1 ∧ (fun x => (fun x => (Lit.int .i64 x).wf = true) x.1 ∧ (fun x => (Lit.int .i64 x).wf = true) x.2) x.2) x) x.2) x.2) x.2) x.2) x.2) x.2) x) l1) :
    Calls Try.prog 6 #[.agg #[.int .i64 a0_0, .int .i64 a0_1, .int .i64 a0_2, .int .i64 a0_3], .slice A1 l1.length c1] W fun e w' => e = .returned (.bool true) ∧ Below W.heap.size W w' := by
  have hfit : ∀ o ∈ l1, (opOf o).Fit := fun o ho => by
    have h := hG1.2.2 o ho
    exact fit_of h.2.2.1.1 h.2.2.1.2.2 h.2.2.2.1.1 h.2.2.2.2.2.2.1
  rcases geo_cases a0_0 a0_1 a0_2 a0_3 with ⟨p, s, r, rfl, rfl, rfl, ok⟩ | hk
  · exact loses_yes W p s r a0_3 ok hC1 hfit hG1.1
  · exact loses_no W a0_0 a0_1 a0_2 a0_3 hk
end Go.Proofs.Ytnkbebdgkidbjaa.Main
