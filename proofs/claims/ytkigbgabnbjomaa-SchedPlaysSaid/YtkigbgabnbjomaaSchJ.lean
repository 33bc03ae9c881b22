/- The document's runner in memory: New, what it is asked.
   No condition. -/
import Derived.Test.YtkigbgabnbjomaaSchH
import Derived.ArgAppend
import Derived.BigRegion
import Derived.Deep.QuietTactic
import Derived.BigQuiet
import Derived.Deep.RegionHeld3
import Derived.ChangeAlike
import Derived.RegionTactic
import Derived.Deep.DeepCutAuto
import Derived.Deep.CutBlock
import Derived.Deep.RegionLaw
import Derived.StillTailTactics
import Derived.WalkSpells
import Derived.Lib.SliceRun
namespace Go.Proofs.Ytkigbgabnbjomaa.Sched
open Go.Proofs.Ytkigbgabnbjomaa.PSchedPlays
open Go.RowKit Go.Proofs.YtkigbgabnbjomaaW.PrintWords Go.Proofs.YtkigbgabnbjomaaW.PrintLast Go.Proofs.YtkigbgabnbjomaaW.PrintMore
attribute [local go_sem] max2_int min2_int max_two min_two   -- for this text's walks alone
set_option linter.unusedVariables false
set_option linter.unusedSimpArgs false
theorem set_map {α : Type} (g : Nat → α) (n t : Nat) (v : α) : ((List.range n).map g).set t v = (List.range n).map (fun u => if u = t then v else g u) := by
  apply List.ext_getElem?
  intro j
  rw [List.getElem?_set]
  by_cases hj : j < n
  · simp only [List.length_map, List.length_range]
    by_cases e : t = j
    · subst e; simp [hj]
    · have e2 : ¬ j = t := fun h => e h.symm
      simp [e, e2, hj]
  · by_cases e : t = j
    · subst e; simp [hj]
    · simp [e, hj]
/-! ### The document's runner in memory -/
structure DocG (B : Nat) (f : Owner) (w : World) (xb : Nat) (x : X) (cv ev : Value) (ga gt gw ca ct cw : Nat) : Prop where
  blk : w.heap[xb]? = some (.cells #[cv, .slice (some ⟨ga, 0, none⟩) x.n ca, .slice (some ⟨gt, 0, none⟩) x.n ct, .slice (some ⟨gw, 0, none⟩) x.n cw, .int .i64 x.steps, ev] 86 (0, 0))
  own : f xb = xb
  base : B ≤ xb
  arow : (Kd.int .i64).R 3 w B (fun k => f k = xb ∧ k = ga) (.slice (some ⟨ga, 0, none⟩) x.n ca) ((List.range x.n).map fun t => (x.at_ t : Int))
  trow : (Kd.int .i64).R 3 w B (fun k => f k = xb ∧ k = gt) (.slice (some ⟨gt, 0, none⟩) x.n ct) ((List.range x.n).map fun t => (x.taken t : Int))
  wrow : Kd.bool.R 4 w B (fun k => f k = xb ∧ k = gw) (.slice (some ⟨gw, 0, none⟩) x.n cw) ((List.range x.n).map x.waits)
  ne : ga ≠ gt
  erow : k51.R 51 w B (fun k => f k = xb) ev x.events
section
variable {B : Nat} {f : Owner} {w : World} {xb : Nat} {x : X} {cv ev : Value} {ga gt gw ca ct cw : Nat}
theorem DocG.mv {B' : Nat} {o : Nat → Prop} {f1 : Owner} {w1 : World} (h : DocG B f w xb x cv ev ga gt gw ca ct cw) (m : Mv B' o f w f1 w1) (hn : ¬ o xb) : DocG B f1 w1 xb x cv ev ga gt gw ca ct cw :=
  { blk := m.blk h.blk (by rw [h.own]; exact hn)
    own := (m.own_at h.blk).trans h.own
    base := h.base
    arow := m.row h.arow (fun k hk _ => by rw [hk.1]; exact hn) (fun k hk hl => ⟨(m.old k hl).trans hk.1, hk.2⟩)
    trow := m.row h.trow (fun k hk _ => by rw [hk.1]; exact hn) (fun k hk hl => ⟨(m.old k hl).trans hk.1, hk.2⟩)
    wrow := m.row h.wrow (fun k hk _ => by rw [hk.1]; exact hn) (fun k hk hl => ⟨(m.old k hl).trans hk.1, hk.2⟩)
    ne := h.ne
    erow := m.row h.erow (fun k hk _ => by rw [hk]; exact hn) (fun k hk hl => (m.old k hl).trans hk) }
theorem DocG.below {w1 : World} (h : DocG B f w xb x cv ev ga gt gw ca ct cw) (hb : Below w.heap.size w w1) : DocG B f w1 xb x cv ev ga gt gw ca ct cw :=
  h.mv (o := fun _ => False) (Mv.of_below (B := w.heap.size) hb (Nat.le_refl _) (fun _ _ => rfl)) (fun e => e)
theorem DocG.ga_ (h : DocG B f w xb x cv ev ga gt gw ca ct cw) : f ga = xb ∧ B ≤ ga ∧ ga ≠ xb ∧ ga ≠ gw := by
  have h1 := (Kd.R_bound h.arow).1 ga rfl
  refine ⟨h1.1.1, h1.2.1, ?_, ?_⟩
  · rintro rfl
    exact absurd rfl (Kd.R_ne h.arow h.blk (by decide))
  · have h2 := (R_apart h.arow h.wrow (by decide)).1 ga rfl
    intro e
    exact h2.2 (by rw [e]; rfl)
theorem DocG.gt_ (h : DocG B f w xb x cv ev ga gt gw ca ct cw) : f gt = xb ∧ B ≤ gt ∧ gt ≠ xb ∧ gt ≠ gw := by
  have h1 := (Kd.R_bound h.trow).1 gt rfl
  refine ⟨h1.1.1, h1.2.1, ?_, ?_⟩
  · rintro rfl
    exact absurd rfl (Kd.R_ne h.trow h.blk (by decide))
  · have h2 := (R_apart h.trow h.wrow (by decide)).1 gt rfl
    intro e
    exact h2.2 (by rw [e]; rfl)
theorem DocG.gw_ (h : DocG B f w xb x cv ev ga gt gw ca ct cw) : f gw = xb ∧ B ≤ gw ∧ gw ≠ xb := by
  have h1 := (Kd.R_bound h.wrow).1 gw rfl
  refine ⟨h1.1.1, h1.2.1, ?_⟩
  rintro rfl
  exact absurd rfl (Kd.R_ne h.wrow h.blk (by decide))
theorem DocG.efar (h : DocG B f w xb x cv ev ga gt gw ca ct cw) {g : Nat} {α : Type} {d : Kd α} {e : Nat} {ok : Nat → Prop} {n c : Nat} {xs : List α} (hr : d.R e w B ok (.slice (some ⟨g, 0, none⟩) n c) xs) (he : ∀ q, q ∈ 51 :: k51.E → q ≠ e) (i : Nat) (u : Value) : k51.R 51 (w.setCell ⟨g, i, none⟩ u) B (fun k => f k = xb) ev x.events :=
  Kd.R_mono (Kd.R_far (p := ⟨g, i, none⟩) (R_apart h.erow hr he) (fun k hk e2 => hk.2 (by rw [e2]; rfl)) _) (fun k hk => hk.1)
/-- A cell of At is written. -/
theorem DocG.setAt (h : DocG B f w xb x cv ev ga gt gw ca ct cw) (t a : Nat) :
    DocG B f (w.setCell ⟨ga, t, none⟩ (.int .i64 (a : Int))) xb { x with at_ := upd x.at_ t a } cv ev ga gt gw ca ct cw ∧ Mv B (· = xb) f w f (w.setCell ⟨ga, t, none⟩ (.int .i64 (a : Int))) := by
  obtain ⟨h1, h2, h3, h4⟩ := h.ga_
  refine ⟨?_, Mv.set (Mv.refl _ _ _ _) ⟨ga, t, none⟩ _ h2 (fun _ => h1)⟩
  exact
    { blk := blk_far h.blk (p := ⟨ga, t, none⟩) (Ne.symm h3) _
      own := h.own
      base := h.base
      arow := by
        have h5 := Kd.R_putn (enc := Value.int .i64) h.arow (t : Int) (a : Int)
        rw [Int.toNat_natCast, set_map] at h5
        have e : (fun u => if u = t then (a : Int) else (x.at_ u : Int)) = fun u => ((upd x.at_ t a u : Nat) : Int) := by
          funext u
          unfold upd
          split <;> rfl
        rw [e] at h5
        exact h5
      trow := Kd.R_far (p := ⟨ga, t, none⟩) h.trow (fun k hk => by rw [hk.2]; exact Ne.symm h.ne) _
      wrow := Kd.R_far (p := ⟨ga, t, none⟩) h.wrow (fun k hk => by rw [hk.2]; exact Ne.symm h4) _
      ne := h.ne
      erow := h.efar h.arow (by decide) _ _ }
theorem DocG.setTaken (h : DocG B f w xb x cv ev ga gt gw ca ct cw) (t a : Nat) :
    DocG B f (w.setCell ⟨gt, t, none⟩ (.int .i64 (a : Int))) xb { x with taken := upd x.taken t a } cv ev ga gt gw ca ct cw ∧ Mv B (· = xb) f w f (w.setCell ⟨gt, t, none⟩ (.int .i64 (a : Int))) := by
  obtain ⟨h1, h2, h3, h4⟩ := h.gt_
  refine ⟨?_, Mv.set (Mv.refl _ _ _ _) ⟨gt, t, none⟩ _ h2 (fun _ => h1)⟩
  exact
    { blk := blk_far h.blk (p := ⟨gt, t, none⟩) (Ne.symm h3) _
      own := h.own
      base := h.base
      trow := by
        have h5 := Kd.R_putn (enc := Value.int .i64) h.trow (t : Int) (a : Int)
        rw [Int.toNat_natCast, set_map] at h5
        have e : (fun u => if u = t then (a : Int) else (x.taken u : Int)) = fun u => ((upd x.taken t a u : Nat) : Int) := by
          funext u
          unfold upd
          split <;> rfl
        rw [e] at h5
        exact h5
      arow := Kd.R_far (p := ⟨gt, t, none⟩) h.arow (fun k hk => by rw [hk.2]; exact h.ne) _
      wrow := Kd.R_far (p := ⟨gt, t, none⟩) h.wrow (fun k hk => by rw [hk.2]; exact Ne.symm h4) _
      ne := h.ne
      erow := h.efar h.trow (by decide) _ _ }
theorem DocG.setWaits (h : DocG B f w xb x cv ev ga gt gw ca ct cw) (t : Nat) (b : Bool) :
    DocG B f (w.setCell ⟨gw, t, none⟩ (.bool b)) xb { x with waits := upd x.waits t b } cv ev ga gt gw ca ct cw ∧ Mv B (· = xb) f w f (w.setCell ⟨gw, t, none⟩ (.bool b)) := by
  obtain ⟨h1, h2, h3⟩ := h.gw_
  refine ⟨?_, Mv.set (Mv.refl _ _ _ _) ⟨gw, t, none⟩ _ h2 (fun _ => h1)⟩
  exact
    { blk := blk_far h.blk (p := ⟨gw, t, none⟩) (Ne.symm h3) _
      own := h.own
      base := h.base
      wrow := by
        have h5 := Kd.R_putn (enc := Value.bool) h.wrow (t : Int) b
        rw [Int.toNat_natCast, set_map] at h5
        exact h5
      arow := Kd.R_far (p := ⟨gw, t, none⟩) h.arow (fun k hk => by rw [hk.2]; exact h.ga_.2.2.2) _
      trow := Kd.R_far (p := ⟨gw, t, none⟩) h.trow (fun k hk => by rw [hk.2]; exact h.gt_.2.2.2) _
      ne := h.ne
      erow := h.efar h.wrow (by decide) _ _ }
theorem DocG.setSteps (h : DocG B f w xb x cv ev ga gt gw ca ct cw) (s : Int) :
    DocG B f (w.setCell ⟨xb, 4, none⟩ (.int .i64 s)) xb { x with steps := s } cv ev ga gt gw ca ct cw ∧ Mv B (· = xb) f w f (w.setCell ⟨xb, 4, none⟩ (.int .i64 s)) := by
  have hb := h.blk
  refine ⟨?_, Mv.set (Mv.refl _ _ _ _) ⟨xb, 4, none⟩ _ h.base (fun _ => h.own)⟩
  exact
    { blk := blk_put hb 4 _ rfl
      own := h.own
      base := h.base
      arow := Kd.R_set h.arow hb (by decide) 4 _
      trow := Kd.R_set h.trow hb (by decide) 4 _
      wrow := Kd.R_set h.wrow hb (by decide) 4 _
      ne := h.ne
      erow := Kd.R_set h.erow hb (by decide) 4 _ }
/-- An event is noted. -/
theorem DocG.noted (h : DocG B f w xb x cv ev ga gt gw ca ct cw) (q : Nat) {w1 : World} {v1 : Value} {es : List S51}
    (hR : k51.R 51 w1 B (fun k => owns f w.heap.size xb k = xb) v1 es) (hg : (w.drewN q).grownBy w1 ev.ownBlock) :
    DocG B (owns f w.heap.size xb) (w1.setCell ⟨xb, 5, none⟩ v1) xb { x with events := es } cv v1 ga gt gw ca ct cw ∧ Mv B (· = xb) f w (owns f w.heap.size xb) (w1.setCell ⟨xb, 5, none⟩ v1) := by
  have hlt := blk_lt h.blk
  have hxb := h.base
  have hBs : B ≤ w.heap.size := by omega
  have m0 : Mv B (· = xb) f w (owns f w.heap.size xb) (w.drewN q) := ((Mv.refl B (· = xb) f w).drewN q).own (fun k hk => owns_old f _ _ k hk)
  have hev := Kd.R_bound h.erow
  have m1 : Mv B (· = xb) f w (owns f w.heap.size xb) w1 := Mv.grown m0 hBs hg (fun k hk2 => ⟨(hev.1 k hk2).2.1, fun _ => (hev.1 k hk2).1⟩)
  have ho : owns f w.heap.size xb xb = xb := (owns_old f _ _ xb hlt).trans h.own
  refine ⟨?_, Mv.set m1 ⟨xb, 5, none⟩ v1 hxb (fun _ => h.own)⟩
  have hb1 := blk_grown (blk_drewN h.blk q) hg (Kd.R_ne h.erow h.blk (by decide))
  have row : ∀ {α : Type} {d : Kd α} {e g : Nat} {v : Value} {xs : List α}, d.R e w B (fun k => f k = xb ∧ k = g) v xs → (∀ q, q ∈ e :: d.E → q ≠ 51) → (∀ q, q ∈ e :: d.E → q ≠ 86) → d.R e (w1.setCell ⟨xb, 5, none⟩ v1) B (fun k => owns f w.heap.size xb k = xb ∧ k = g) v xs := by
    intro α d e g v xs hr h51 h86
    have h1 := R_apart hr h.erow h51
    have h2 : d.R e (w.drewN q) B (fun k => (owns f w.heap.size xb k = xb ∧ k = g) ∧ some k ≠ ev.ownBlock) v xs :=
      Kd.R_below (Kd.R_mono (Kd.R_bound h1) (fun k hk => ⟨⟨(owns_old f _ _ k hk.2.2.1).trans hk.1.1.1, hk.1.1.2⟩, hk.1.2⟩)) (pw_below_drewN (Below.refl _ _) q)
    exact Kd.R_set (Kd.R_mono (Kd.R_grown h2 hg (fun k hk => hk.2)) (fun k hk => hk.1)) hb1 h86 5 v1
  exact
    { blk := blk_put hb1 5 v1 rfl
      own := ho
      base := hxb
      arow := row h.arow (by decide) (by decide)
      trow := row h.trow (by decide) (by decide)
      wrow := row h.wrow (by decide) (by decide)
      ne := h.ne
      erow := Kd.R_set hR hb1 (by decide) 5 v1 }
/-- Its cells. -/
theorem DocG.at_c (h : DocG B f w xb x cv ev ga gt gw ca ct cw) (t : Nat) (ht : t < x.n) : w.cell? ⟨ga, t, none⟩ = some (.int .i64 (x.at_ t : Int)) ∧ w.frozen? ⟨ga, t, none⟩ = false := by
  have h1 := Kd.R_celln 0 h.arow (t : Int) (by omega) (by omega)
  simp only [Int.toNat_natCast, rdOf] at h1
  rw [List.getD_eq_getElem?_getD, List.getElem?_map, List.getElem?_range ht] at h1
  exact h1
theorem DocG.tk_c (h : DocG B f w xb x cv ev ga gt gw ca ct cw) (t : Nat) (ht : t < x.n) : w.cell? ⟨gt, t, none⟩ = some (.int .i64 (x.taken t : Int)) ∧ w.frozen? ⟨gt, t, none⟩ = false := by
  have h1 := Kd.R_celln 0 h.trow (t : Int) (by omega) (by omega)
  simp only [Int.toNat_natCast, rdOf] at h1
  rw [List.getD_eq_getElem?_getD, List.getElem?_map, List.getElem?_range ht] at h1
  exact h1
theorem DocG.w_c (h : DocG B f w xb x cv ev ga gt gw ca ct cw) (t : Nat) (ht : t < x.n) : w.cell? ⟨gw, t, none⟩ = some (.bool (x.waits t)) ∧ w.frozen? ⟨gw, t, none⟩ = false := by
  have h1 := Kd.R_celln false h.wrow (t : Int) (by omega) (by omega)
  simp only [Int.toNat_natCast, rdOf] at h1
  rw [List.getD_eq_getElem?_getD, List.getElem?_map, List.getElem?_range ht] at h1
  exact h1
theorem DocG.c0 (h : DocG B f w xb x cv ev ga gt gw ca ct cw) : w.cell? ⟨xb, 0, none⟩ = some cv := blk_cell h.blk 0
theorem DocG.c1 (h : DocG B f w xb x cv ev ga gt gw ca ct cw) : w.cell? ⟨xb, 1, none⟩ = some (.slice (some ⟨ga, 0, none⟩) x.n ca) := blk_cell h.blk 1
theorem DocG.c2 (h : DocG B f w xb x cv ev ga gt gw ca ct cw) : w.cell? ⟨xb, 2, none⟩ = some (.slice (some ⟨gt, 0, none⟩) x.n ct) := blk_cell h.blk 2
theorem DocG.c3 (h : DocG B f w xb x cv ev ga gt gw ca ct cw) : w.cell? ⟨xb, 3, none⟩ = some (.slice (some ⟨gw, 0, none⟩) x.n cw) := blk_cell h.blk 3
theorem DocG.c4 (h : DocG B f w xb x cv ev ga gt gw ca ct cw) : w.cell? ⟨xb, 4, none⟩ = some (.int .i64 x.steps) := blk_cell h.blk 4
theorem DocG.c5 (h : DocG B f w xb x cv ev ga gt gw ca ct cw) : w.cell? ⟨xb, 5, none⟩ = some ev := blk_cell h.blk 5
end
/-! ### What the document's runner is asked -/
/-- The runner plays these calls. -/
structure Is (calls : List (List (List S26))) (x : X) : Prop where
  n : x.n = calls.length
  len : ∀ t, x.len t = (calls.getD t []).length
  proc : ∀ t c, x.proc t c = (calls.getD t [])[c]?
theorem Is.new (calls : List (List (List S26))) : Is calls (xOf calls) := ⟨rfl, fun _ => rfl, fun _ _ => rfl⟩
theorem Is.pick {calls : List (List (List S26))} {x : X} (h : Is calls x) (p : Int) : Is calls (x.pick p).1 := by
  unfold X.pick
  by_cases hp : x.pickable p = true
  · rw [if_pos hp]; exact ⟨h.n, h.len, h.proc⟩
  · rw [if_neg hp]; exact h
theorem Is.run {calls : List (List (List S26))} {x : X} (h : Is calls x) (l : List Int) : Is calls (x.run l).1 := by
  induction l generalizing x with
  | nil => exact h
  | cons p l ih => exact ih (h.pick p)
theorem Is.fin {calls : List (List (List S26))} {x : X} (h : Is calls x) : ∀ n, Is calls (x.fin n)
  | 0 => h
  | n + 1 => (Is.fin h n).pick 0
abbrev kCalls : Kd (List (List (List S26))) := Kd.slice 65 (Kd.slice 22 (Kd.slice 26 k26))
theorem calls_at {W wi : World} {A : Option Addr} {calls : List (List (List S26))} {x : X} (hI : Is calls x) (hC : (Kd.slice 22 (Kd.slice 26 k26)).C W A calls.length calls) (hb : Below W.heap.size W wi) (t : Nat) (ht : t < x.n) :
    ∃ ad A0 c0, A = some ad ∧ wi.cell? (ad.add t) = some (.slice A0 (x.len t) c0) ∧ (Kd.slice 26 k26).C wi A0 (x.len t) (calls.getD t []) := by
  have hl := hI.n
  obtain ⟨ad, A0, c0, e, h1, h2, h3⟩ := at_L5 (Kd.C_below hC hb) (t : Int) (by omega) (by omega)
  rw [hI.len t]
  exact ⟨ad, A0, c0, e, h1, h3⟩
section
variable {B : Nat} {f : Owner} {w W : World} {xb : Nat} {x : X} {ev : Value} {ga gt gw ca ct cw c : Nat} {A : Option Addr} {calls : List (List (List S26))}
set_option maxHeartbeats 4000000 in
set_option maxRecDepth 100000 in
theorem ready44 (h : DocG B f w xb x (.slice A x.n c) ev ga gt gw ca ct cw) (hI : Is calls x) (hC : (Kd.slice 22 (Kd.slice 26 k26)).C W A calls.length calls) (hW : Below W.heap.size W w) (h16 : x.n ≤ 16) :
    Calls Try.prog 44 #[.pointer (some ⟨xb, 0, none⟩)] w (Made (Kd.int .i64) 3 w (ints x.ready)) := by
  have H := Aside0.mk h
  have RD := Aside0.mk (fun (wi : World) (hb : Below W.heap.size W wi) (t : Nat) (ht : t < x.n) => calls_at hI hC hb t ht)
  have HW := Aside0.mk hW
  obtain ⟨n, hn⟩ : ∃ n, x.n = n := ⟨_, rfl⟩
  have HN := Aside0.mk hn
  rw [hn] at h16
  clear h hI hC hW hn
  go_enter Try.func44, Try.ntmps44
  go_wp2
  go_loopw [3, 4] (fun v idx wr => ∃ k : Nat, k ≤ n ∧ idx = .int .i64 (k : Int) ∧ Aside0 (RowOf w wr v (ints ((List.range k).filter (X.can x))))) (fun _ idx _ => n - (intOf idx).toNat)
  case atStart => exact ⟨0, Nat.zero_le _, rfl, ⟨⟨Kd.R_nil _ _ _ _ _, Below.refl _ _⟩⟩⟩
  case round =>
    obtain ⟨k, hk, rfl, SK⟩ := hrel
    obtain ⟨Av, cvv, hv⟩ := Kd.R_slice SK.out.1
    subst hv
    have HK := H.out.below SK.out.2
    have r0 := HK.c0
    rw [HN.out] at r0
    by_cases hlt : k < n
    · have hl16 : (ints ((List.range k).filter (X.can x))).length ≤ k := by
        unfold ints
        rw [List.length_map]
        exact Nat.le_trans (List.length_filter_le _ _) (by simp)
      have HL16 := Aside0.mk hl16
      have HNK := Aside0.mk (show k < x.n by have := HN.out; omega)
      have r1 := HK.c1
      have r3 := HK.c3
      rw [HN.out] at r1 r3
      obtain ⟨z1, _⟩ := HK.at_c k HNK.out
      obtain ⟨z3, _⟩ := HK.w_c k HNK.out
      obtain ⟨ad, A0, c0, ea, z0, _⟩ := RD.out wr (HW.out.trans (SK.out.2.mono HW.out.size)) k HNK.out
      subst ea
      have HSZ := Aside0.mk (show w.heap.size ≤ wr.heap.size from SK.out.2.size)
      obtain ⟨m, hm⟩ : ∃ m, (ints ((List.range k).filter (X.can x))).length = m := ⟨_, rfl⟩
      have HM := Aside0.mk hm
      rw [hm]
      rw [hm] at SK hl16
      have ix : decide ((k : Int) < (n : Int)) = true := decide_eq_true (by omega)
      have hcan : X.can x k = (decide (x.at_ k < x.len k) && !x.waits k) := rfl
      obtain ⟨a, ha⟩ : ∃ a, x.at_ k = a := ⟨_, rfl⟩
      obtain ⟨b, hb⟩ : ∃ b, x.len k = b := ⟨_, rfl⟩
      rw [ha] at z1 hcan
      rw [hb] at z0 hcan
      by_cases hab : a < b
      · have iab : decide (a < b) = true := decide_eq_true hab
        cases hwt : x.waits k with
        | false =>
          rw [hwt] at z3 hcan
          rw [decide_eq_true hab] at hcan
          have E : Aside0 (ints ((List.range (k + 1)).filter (X.can x)) = ints ((List.range k).filter (X.can x)) ++ [(k : Int)]) := ⟨by
            unfold ints
            rw [List.range_succ, List.filter_append, List.map_append]
            congr 1
            simp [List.filter_cons, hcan]⟩
          clear hm HK ha hb hwt hcan hab
          go_upto_region 5 with (fail)
          go_quiet (fail)
          go_wp2_with (at_builtin; refine Kd.R_append (Kd.int .i64) (w0 := w) w.heap.size rfl (.tmp 40) (.tmp 42) 23 3 (.int .i64 0) 8 rfl Try.underlying23 info3 rfl (by decide) (by decide) (.slice Av m cvv) (ints ((List.range k).filter (X.can x))) (k : Int) [.int .i64 (k : Int)] (fun b => w.heap.size ≤ b) (fun _ => False) rfl rfl rfl (fun _ h => h.elim) (fun b h => Nat.le_trans HSZ.out h) (Kd.R_below SK.out.1 (pw_below_drewN (Below.refl _ _) _)) (pw_below_drewN SK.out.2 _) HSZ.out (by have := HM.out; have := HL16.out; omega) ?_; intro v1 w1 hR hbl hg hat; have SK1 := Aside0.mk (And.intro hR hbl); clear hR hbl hg hat)
          go_roundw
          case rel => exact ⟨k + 1, by omega, by go_num, ⟨by rw [E.out]; exact SK1.out⟩⟩
          case measure => simp [intOf]; omega
        | true =>
          rw [hwt] at z3 hcan
          rw [Bool.not_true, Bool.and_false] at hcan
          have E : Aside0 (ints ((List.range (k + 1)).filter (X.can x)) = ints ((List.range k).filter (X.can x))) := ⟨by
            unfold ints
            rw [List.range_succ, List.filter_append, List.map_append]
            simp [List.filter_cons, hcan]⟩
          clear hm HK ha hb hwt hcan hab
          go_upto_region 5 with (fail)
          go_quiet (fail)
          go_wp2
          go_roundw
          case rel => exact ⟨k + 1, by omega, by go_num, ⟨by rw [E.out]; exact ⟨Kd.R_below SK.out.1 (pw_below_drewN (Below.refl _ _) _), pw_below_drewN SK.out.2 _⟩⟩⟩
          case measure => simp [intOf]; omega
      · have iab : decide (a < b) = false := decide_eq_false hab
        rw [decide_eq_false hab, Bool.false_and] at hcan
        have E : Aside0 (ints ((List.range (k + 1)).filter (X.can x)) = ints ((List.range k).filter (X.can x))) := ⟨by
          unfold ints
          rw [List.range_succ, List.filter_append, List.map_append]
          simp [List.filter_cons, hcan]⟩
        clear hm HK ha hb hcan hab z3 r3
        go_upto_region 5 with (fail)
        go_quiet (fail)
        go_wp2
        go_roundw
        case rel => exact ⟨k + 1, by omega, by go_num, ⟨by rw [E.out]; exact ⟨Kd.R_below SK.out.1 (pw_below_drewN (Below.refl _ _) _), pw_below_drewN SK.out.2 _⟩⟩⟩
        case measure => simp [intOf]; omega
    · have hkl : k = n := by omega
      subst hkl
      clear HK
      go_wp2
      go_ret
      exact ⟨_, rfl, by rw [show X.ready x = (List.range k).filter (X.can x) by rw [← HN.out]; rfl]; exact SK.out⟩
set_option maxHeartbeats 4000000 in
set_option maxRecDepth 100000 in
theorem waiting47 (h : DocG B f w xb x (.slice A x.n c) ev ga gt gw ca ct cw) (h16 : x.n ≤ 16) :
    Calls Try.prog 47 #[.pointer (some ⟨xb, 0, none⟩)] w (Made (Kd.int .i64) 3 w (ints x.waiting)) := by
  have H := Aside0.mk h
  obtain ⟨n, hn⟩ : ∃ n, x.n = n := ⟨_, rfl⟩
  have HN := Aside0.mk hn
  rw [hn] at h16
  clear h hn
  go_enter Try.func47, Try.ntmps47
  go_wp2
  go_loopw [3, 4] (fun v idx wr => ∃ k : Nat, k ≤ n ∧ idx = .int .i64 (k : Int) ∧ Aside0 (RowOf w wr v (ints ((List.range k).filter x.waits)))) (fun _ idx _ => n - (intOf idx).toNat)
  case atStart => exact ⟨0, Nat.zero_le _, rfl, ⟨⟨Kd.R_nil _ _ _ _ _, Below.refl _ _⟩⟩⟩
  case round =>
    obtain ⟨k, hk, rfl, SK⟩ := hrel
    obtain ⟨Av, cvv, hv⟩ := Kd.R_slice SK.out.1
    subst hv
    have HK := H.out.below SK.out.2
    have r0 := HK.c0
    rw [HN.out] at r0
    by_cases hlt : k < n
    · have hl16 : (ints ((List.range k).filter x.waits)).length ≤ k := by
        unfold ints
        rw [List.length_map]
        exact Nat.le_trans (List.length_filter_le _ _) (by simp)
      have HL16 := Aside0.mk hl16
      have HNK := Aside0.mk (show k < x.n by have := HN.out; omega)
      have r3 := HK.c3
      rw [HN.out] at r3
      obtain ⟨z3, _⟩ := HK.w_c k HNK.out
      have HSZ := Aside0.mk (show w.heap.size ≤ wr.heap.size from SK.out.2.size)
      obtain ⟨m, hm⟩ : ∃ m, (ints ((List.range k).filter x.waits)).length = m := ⟨_, rfl⟩
      have HM := Aside0.mk hm
      rw [hm]
      rw [hm] at SK hl16
      have ix : decide ((k : Int) < (n : Int)) = true := decide_eq_true (by omega)
      cases hwt : x.waits k with
      | true =>
        rw [hwt] at z3
        have E : Aside0 (ints ((List.range (k + 1)).filter x.waits) = ints ((List.range k).filter x.waits) ++ [(k : Int)]) := ⟨by
          unfold ints
          rw [List.range_succ, List.filter_append, List.map_append]
          congr 1
          simp [List.filter_cons, hwt]⟩
        clear hm HK hwt
        go_wp2_with (at_builtin; refine Kd.R_append (Kd.int .i64) (w0 := w) w.heap.size rfl (.tmp 21) (.tmp 23) 23 3 (.int .i64 0) 8 rfl Try.underlying23 info3 rfl (by decide) (by decide) (.slice Av m cvv) (ints ((List.range k).filter x.waits)) (k : Int) [.int .i64 (k : Int)] (fun b => w.heap.size ≤ b) (fun _ => False) rfl rfl rfl (fun _ h => h.elim) (fun b h => Nat.le_trans HSZ.out h) SK.out.1 SK.out.2 HSZ.out (by have := HM.out; have := HL16.out; omega) ?_; intro v1 w1 hR hbl hg hat; have SK1 := Aside0.mk (And.intro hR hbl); clear hR hbl hg hat)
        go_roundw
        case rel => exact ⟨k + 1, by omega, by go_num, ⟨by rw [E.out]; exact SK1.out⟩⟩
        case measure => simp [intOf]; omega
      | false =>
        rw [hwt] at z3
        have E : Aside0 (ints ((List.range (k + 1)).filter x.waits) = ints ((List.range k).filter x.waits)) := ⟨by
          unfold ints
          rw [List.range_succ, List.filter_append, List.map_append]
          simp [List.filter_cons, hwt]⟩
        clear hm HK hwt
        go_wp2
        go_roundw
        case rel => exact ⟨k + 1, by omega, by go_num, ⟨by rw [E.out]; exact SK.out⟩⟩
        case measure => simp [intOf]; omega
    · have hkl : k = n := by omega
      subst hkl
      clear HK
      go_wp2
      go_ret
      exact ⟨_, rfl, by rw [show X.waiting x = (List.range k).filter x.waits by rw [← HN.out]; rfl]; exact SK.out⟩
end
section
variable {B : Nat} {f : Owner} {w W : World} {xb : Nat} {x : X} {ev : Value} {ga gt gw ca ct cw c : Nat} {A : Option Addr} {calls : List (List (List S26))}
set_option maxHeartbeats 4000000 in
set_option maxRecDepth 100000 in
theorem done45 (h : DocG B f w xb x (.slice A x.n c) ev ga gt gw ca ct cw) (hI : Is calls x) (hC : (Kd.slice 22 (Kd.slice 26 k26)).C W A calls.length calls) (hW : Below W.heap.size W w) (h16 : x.n ≤ 16) :
    Calls Try.prog 45 #[.pointer (some ⟨xb, 0, none⟩)] w (Told w x.done) := by
  have H := Aside0.mk h
  have RD := Aside0.mk (fun (wi : World) (hb : Below W.heap.size W wi) (t : Nat) (ht : t < x.n) => calls_at hI hC hb t ht)
  have HW := Aside0.mk hW
  obtain ⟨n, hn⟩ : ∃ n, x.n = n := ⟨_, rfl⟩
  have HN := Aside0.mk hn
  rw [hn] at h16
  clear h hI hC hW hn
  go_enter Try.func45, Try.ntmps45
  go_wp2
  go_loopw [3] (fun idx wr => ∃ k q : Nat, k ≤ n ∧ idx = .int .i64 (k : Int) ∧ wr = w.drewN q ∧ Aside0 (∀ u, u < k → x.more u = false)) (fun idx _ => n - (intOf idx).toNat)
  case atStart => exact ⟨0, 0, Nat.zero_le _, rfl, rfl, ⟨fun u hu => by omega⟩⟩
  case round =>
    obtain ⟨k, q, hk, rfl, rfl, SK⟩ := hrel
    obtain ⟨wq, hwq⟩ : ∃ wq, w.drewN q = wq := ⟨_, rfl⟩
    have BQ : Aside0 (Below w.heap.size w wq) := ⟨by rw [← hwq]; exact pw_below_drewN (Below.refl _ _) _⟩
    have HQ := Aside0.mk hwq
    rw [hwq]
    clear hwq
    have HK := H.out.below BQ.out
    have r0 := HK.c0
    rw [HN.out] at r0
    by_cases hlt : k < n
    · have HNK := Aside0.mk (show k < x.n by have := HN.out; omega)
      have r1 := HK.c1
      rw [HN.out] at r1
      obtain ⟨z1, _⟩ := HK.at_c k HNK.out
      obtain ⟨ad, A0, c0, ea, z0, _⟩ := RD.out wq (HW.out.trans (BQ.out.mono HW.out.size)) k HNK.out
      subst ea
      have ix : decide ((k : Int) < (n : Int)) = true := decide_eq_true (by omega)
      have hcan : X.more x k = decide (x.at_ k < x.len k) := rfl
      obtain ⟨a, ha⟩ : ∃ a, x.at_ k = a := ⟨_, rfl⟩
      obtain ⟨b, hb⟩ : ∃ b, x.len k = b := ⟨_, rfl⟩
      rw [ha] at z1 hcan
      rw [hb] at z0 hcan
      by_cases hab : a < b
      · have iab : decide (a < b) = true := decide_eq_true hab
        have E : Aside0 (x.done = false) := ⟨by
          unfold X.done X.left
          have h1 : k ∈ (List.range x.n).filter x.more := by
            rw [List.mem_filter, List.mem_range]
            exact ⟨HNK.out, by rw [hcan, iab]⟩
          have h2 := List.length_pos_of_mem h1
          rw [beq_eq_false_iff_ne]
          omega⟩
        rw [E.out]
        clear HK ha hb hcan hab
        go_upto_region 4 with (fail)
        go_quiet (fail)
        go_wp2
        go_ret
        have e := HQ.out
        subst e
        exact ⟨rfl, ⟨⟨_, by first | rfl | rw [World.drewN_drewN]⟩⟩⟩
      · have iab : decide (a < b) = false := decide_eq_false hab
        have E : Aside0 (∀ u, u < k + 1 → x.more u = false) := ⟨fun u hu => by
          by_cases e : u = k
          · subst e; rw [hcan, iab]
          · exact SK.out u (by omega)⟩
        clear HK ha hb hcan hab
        go_upto_region 4 with (fail)
        go_quiet (fail)
        go_wp2
        go_roundw
        case rel =>
          have e := HQ.out
          subst e
          exact ⟨k + 1, _, by omega, by go_num, by first | rfl | rw [World.drewN_drewN], E⟩
        case measure => simp [intOf]; omega
    · have hkl : k = n := by omega
      subst hkl
      have E : Aside0 (x.done = true) := ⟨by
        unfold X.done X.left
        rw [List.filter_eq_nil_iff.2 (fun u hu => by
          rw [List.mem_range, HN.out] at hu
          rw [SK.out u hu]; simp)]
        rfl⟩
      clear HK
      go_wp2
      go_ret
      have e := HQ.out
      subst e
      exact ⟨by rw [E.out]; rfl, ⟨⟨_, rfl⟩⟩⟩
set_option maxHeartbeats 4000000 in
set_option maxRecDepth 100000 in
theorem stuck48 (h : DocG B f w xb x (.slice A x.n c) ev ga gt gw ca ct cw) (hI : Is calls x) (hC : (Kd.slice 22 (Kd.slice 26 k26)).C W A calls.length calls) (hW : Below W.heap.size W w) (h16 : x.n ≤ 16) :
    Calls Try.prog 48 #[.pointer (some ⟨xb, 0, none⟩)] w (Says w x.stuck) := by
  have HR := Aside0.mk (ready44 h hI hC hW h16)
  have HD := Aside0.mk (fun (w1 : World) (hb : Below w.heap.size w w1) => done45 (h.below hb) hI hC (hW.trans (hb.mono hW.size)) h16)
  clear h hI hC hW h16
  unfold X.stuck
  obtain ⟨m, hm⟩ : ∃ m, x.ready.length = m := ⟨_, rfl⟩
  have HM := Aside0.mk ((len_ints _).trans hm)
  rw [hm]
  clear hm
  by_cases h0 : m = 0
  · subst h0
    cases hd : x.done with
    | true =>
      rw [hd] at HD
      clear hd
      go_enter Try.func48, Try.ntmps48
      go_wp2_with (first
        | (go_at_call 44; refine HR.out.mono ?_; rintro e w' ⟨v, rfl, hR, hb⟩; obtain ⟨A1, c1, hv⟩ := Kd.R_slice hR; rw [HM.out] at hv; subst hv; have HB := Aside0.mk hb; clear hR hb)
        | (go_at_call 45; refine (HD.out _ HB.out).mono ?_; rintro e w2 ⟨rfl, ⟨q, rfl⟩⟩))
      go_ret
      exact ⟨rfl, pw_below_drewN HB.out _⟩
    | false =>
      rw [hd] at HD
      clear hd
      go_enter Try.func48, Try.ntmps48
      go_wp2_with (first
        | (go_at_call 44; refine HR.out.mono ?_; rintro e w' ⟨v, rfl, hR, hb⟩; obtain ⟨A1, c1, hv⟩ := Kd.R_slice hR; rw [HM.out] at hv; subst hv; have HB := Aside0.mk hb; clear hR hb)
        | (go_at_call 45; refine (HD.out _ HB.out).mono ?_; rintro e w2 ⟨rfl, ⟨q, rfl⟩⟩))
      go_ret
      exact ⟨rfl, pw_below_drewN HB.out _⟩
  · have g : ((m : Int) == 0) = false := by rw [beq0]; simpa using h0
    have e : (!x.done && m == 0) = false := by
      have : (m == 0) = false := by simpa using h0
      rw [this, Bool.and_false]
    rw [e]
    clear e
    go_enter Try.func48, Try.ntmps48
    go_wp2_with (go_at_call 44; refine HR.out.mono ?_; rintro e w' ⟨v, rfl, hR, hb⟩; obtain ⟨A1, c1, hv⟩ := Kd.R_slice hR; rw [HM.out] at hv; subst hv; have HB := Aside0.mk hb; clear hR hb)
    go_ret
    exact ⟨rfl, HB.out⟩
end
/-! ### The document's turn, its woken where the turns lie -/
def TurnedW (W0 w : World) (x : S26) (en : Ending) (w' : World) : Prop := ∃ A c, en = .returned (.agg #[.bool x.f0, .bool x.f1, .slice A x.f2.length c]) ∧ (Kd.int .i64).C W0 A x.f2.length x.f2 ∧ Below w.heap.size w w'
set_option maxHeartbeats 4000000 in
set_option maxRecDepth 100000 in
theorem turn_walkW {W0 w : World} {A : Option Addr} {c : Nat} {turns : List S26} (hC : k26.C W0 A turns.length turns) (hW : Below W0.heap.size W0 w) (k : Nat) (hk : (k : Int) ≤ 9223372036854775807) :
    Calls Try.prog 13 #[.slice A turns.length c, .int .i64 (k : Int)] w (TurnedW W0 w (pTurn turns k)) := by
  have hmax := hC.2.1
  have HC := Aside0.mk hC
  have HWW := Aside0.mk hW
  clear hW
  obtain ⟨n, hn⟩ : ∃ n, turns.length = n := ⟨_, rfl⟩
  have HN := Aside0.mk hn
  rw [hn] at hmax HC
  rw [hn]
  rcases Nat.eq_zero_or_pos n with h0 | h0
  · have e : pTurn turns k = ⟨true, false, []⟩ := by unfold pTurn; rw [if_pos (by omega)]
    rw [e]
    subst h0
    clear hn hC e
    go_enter Try.func13, Try.ntmps13
    go_wp2
    refine bodyPost_ret (results_c rfl _ _ w.heap.size 26 #[.bool true, .bool false, .slice none 0 0] (0, 0) _ rfl (blk_new w _) Try.underlying26 rfl (by kernel_rfl)) rfl ?_
    exact ⟨none, 0, rfl, ⟨rfl, by decide, fun h => absurd h (by decide)⟩, below_alloc (Below.refl _ _) _⟩
  · by_cases hkn : k < n - 1
    · obtain ⟨ad, A2, c2, ead, x0, x1, x2, lx, Cx⟩ := at_T26 HC.out (k : Int) (by omega) (by omega)
      obtain ⟨x, hx⟩ : ∃ x, rd_T26 turns (k : Int) = x := ⟨_, rfl⟩
      rw [hx] at x0 x1 x2 lx Cx
      replace x0 := pw_cell_below HWW.out x0
      replace x1 := pw_cell_below HWW.out x1
      replace x2 := pw_cell_below HWW.out x2
      have e : pTurn turns k = x := by
        unfold pTurn
        rw [if_neg (by omega), hn, if_pos hkn]
        rw [← hx]
        simp only [rd_T26, Int.toNat_natCast]
        have : decide (k = n - 1) = false := decide_eq_false (by omega)
        rw [this, Bool.or_false]
      rw [e]
      subst ead
      simp only [Int.toNat_natCast] at x0 x1 x2
      have HCx := Aside0.mk Cx
      have g1 : decide ((n : Int) - 1 ≤ (k : Int)) = false := decide_eq_false (by omega)
      have g2 : ((n : Int) == 0) = false := by rw [beq0]; simp; omega
      have g3 : decide ((k : Int) < (n : Int)) = true := decide_eq_true (by omega)
      have hn0 : (0 : Int) ≤ (n : Int) - 1 := by omega
      clear hn hC e hx Cx lx
      go_enter Try.func13, Try.ntmps13
      go_upto_region 1 with (fail)
      obtain ⟨w1, hw1⟩ : ∃ w1, w.alloc (.cells #[.bool false, .bool false, .slice none 0 0] 26) = w1 := ⟨_, rfl⟩
      obtain ⟨g, hg⟩ : ∃ g, w.heap.size = g := ⟨_, rfl⟩
      rw [hw1, hg]
      have bg : w1.heap[g]? = some (.cells #[.bool false, .bool false, .slice none 0 0] 26 (0, 0)) := by rw [← hw1, ← hg]; exact blk_new _ _
      have B1 : Aside0 (Below w.heap.size w w1) := ⟨by rw [← hw1]; exact below_alloc (Below.refl _ _) _⟩
      have BG := Aside0.mk bg
      have j0 := blk_cell bg 0
      have j1 := blk_cell bg 1
      have j2 := blk_cell bg 2
      have l0 := blk_frozen bg 0
      have l1 := blk_frozen bg 1
      have l2 := blk_frozen bg 2
      have hgl := blk_lt bg
      have y0 := pw_cell_below B1.out x0
      have y1 := pw_cell_below B1.out x1
      have y2 := pw_cell_below B1.out x2
      have HG := Aside0.mk hg
      clear bg hw1 hg x0 x1 x2
      go_wp2
      refine bodyPost_ret (results_c rfl _ _ g 26 #[.bool x.f0, .bool x.f1, .slice A2 x.f2.length c2] (0, 0) _ rfl (put3 BG.out _ _ _) Try.underlying26 rfl (by kernel_rfl)) rfl ?_
      exact ⟨_, _, rfl, HCx.out, below3 B1.out (Nat.le_of_eq HG.out) _ _ _⟩
    · obtain ⟨ad, A2, c2, ead, x0, x1, x2, lx, Cx⟩ := at_T26 HC.out ((n - 1 : Nat) : Int) (by omega) (by omega)
      obtain ⟨x, hx⟩ : ∃ x, rd_T26 turns ((n - 1 : Nat) : Int) = x := ⟨_, rfl⟩
      rw [hx] at x0 x1 x2 lx Cx
      replace x0 := pw_cell_below HWW.out x0
      replace x1 := pw_cell_below HWW.out x1
      replace x2 := pw_cell_below HWW.out x2
      have e : pTurn turns k = ⟨true, x.f1, x.f2⟩ := by
        unfold pTurn
        rw [if_neg (by omega), hn, if_neg hkn]
        rw [← hx]
        simp only [rd_T26, Int.toNat_natCast]
        simp
      rw [e]
      subst ead
      simp only [Int.toNat_natCast] at x0 x1 x2
      obtain ⟨m, hm⟩ : ∃ m, n = m + 1 := ⟨n - 1, by omega⟩
      subst hm
      simp only [Nat.add_sub_cancel] at x0 x1 x2 hkn
      have HCx := Aside0.mk Cx
      have g1 : decide ((m : Int) ≤ (k : Int)) = true := decide_eq_true (by omega)
      have gm : ((m + 1 : Nat) : Int) - 1 = (m : Int) := by omega
      have g3 : decide ((m : Int) < ((m + 1 : Nat) : Int)) = true := decide_eq_true (by omega)
      clear hn hC e hx Cx lx
      go_enter Try.func13, Try.ntmps13
      go_upto_region 1 with (fail)
      obtain ⟨w1, hw1⟩ : ∃ w1, w.alloc (.cells #[.bool false, .bool false, .slice none 0 0] 26) = w1 := ⟨_, rfl⟩
      obtain ⟨g, hg⟩ : ∃ g, w.heap.size = g := ⟨_, rfl⟩
      rw [hw1, hg]
      have bg : w1.heap[g]? = some (.cells #[.bool false, .bool false, .slice none 0 0] 26 (0, 0)) := by rw [← hw1, ← hg]; exact blk_new _ _
      have B1 : Aside0 (Below w.heap.size w w1) := ⟨by rw [← hw1]; exact below_alloc (Below.refl _ _) _⟩
      have BG := Aside0.mk bg
      have j0 := blk_cell bg 0
      have j1 := blk_cell bg 1
      have j2 := blk_cell bg 2
      have l0 := blk_frozen bg 0
      have l1 := blk_frozen bg 1
      have l2 := blk_frozen bg 2
      have hgl := blk_lt bg
      have y0 := pw_cell_below B1.out x0
      have y1 := pw_cell_below B1.out x1
      have y2 := pw_cell_below B1.out x2
      have HG := Aside0.mk hg
      clear bg hw1 hg x0 x1 x2
      go_wp2
      refine bodyPost_ret (results_c rfl _ _ g 26 #[.bool true, .bool x.f1, .slice A2 x.f2.length c2] (0, 0) _ rfl (blk_alloc (put3 BG.out _ _ _) _) Try.underlying26 rfl (by kernel_rfl)) rfl ?_
      exact ⟨_, _, rfl, HCx.out, below_alloc (below3 B1.out (Nat.le_of_eq HG.out) _ _ _) _⟩
theorem info4 : (Try.prog.info? 4).map (fun i => (i.zero, i.size, i.bytes)) = some (some (.bool false), 1, 1) := by kernel_rfl
theorem row_form {α : Type} {d : Kd α} {e b : Nat} {ok : Nat → Prop} {w : World} {base : Nat} {v : Value} {xs : List α} (h : d.R e w base ok v xs) (hb : v.ownBlock = some b) : ∃ c, v = .slice (some ⟨b, 0, none⟩) xs.length c := by
  obtain ⟨_, inner, ho, _⟩ := h
  rcases ho.2 with ⟨rfl, _⟩ | ⟨g, cap, cur, rfl, _⟩
  · simp [Value.ownBlock] at hb
  · have : g = b := by simpa [Value.ownBlock] using hb
    subst this
    exact ⟨cap, rfl⟩
/-! ### The document's runner, new -/
/-- A row of one's own, made. -/
def MkRow {α : Type} (d : Kd α) (e : Nat) (w w' : World) (o : Option Value) (xs : List α) : Prop := ∀ v, o = some v → d.R e w' w.heap.size (fun k => v.ownBlock = some k) v xs ∧ ∃ b, v.ownBlock = some b
def Mk3 (w : World) (n : Nat) (a t v : Option Value) (w' : World) : Prop :=
  Below w.heap.size w w' ∧ MkRow (Kd.int .i64) 3 w w' a (List.replicate n 0) ∧ MkRow (Kd.int .i64) 3 w w' t (List.replicate n 0) ∧ MkRow Kd.bool 4 w w' v (List.replicate n false) ∧ (∀ x y, a = some x → t = some y → x.ownBlock ≠ y.ownBlock)
theorem MkRow.below {α : Type} {d : Kd α} {e : Nat} {w w1 w2 : World} {o : Option Value} {xs : List α} (h : MkRow d e w w1 o xs) (hb : Below w1.heap.size w1 w2) : MkRow d e w w2 o xs := fun v hv => ⟨Kd.R_below (h v hv).1 hb, (h v hv).2⟩
theorem MkRow.made {α : Type} {d : Kd α} {e : Nat} {w w1 w2 : World} {v1 : Value} {xs : List α} (hB : Below w.heap.size w w1) (hR : d.R e w2 w1.heap.size (fun k => v1.ownBlock = some k) v1 xs) (hat : ∃ b, v1.ownBlock = some b ∧ w1.heap.size ≤ b) : MkRow d e w w2 (some v1) xs := fun v hv => by
  injection hv with hv
  subst hv
  exact ⟨Kd.R_lower hR hB.size, hat.elim fun b hb => ⟨b, hb.1⟩⟩
theorem MkRow.old {α : Type} {d : Kd α} {e : Nat} {w w1 : World} {o : Option Value} {v1 x : Value} {xs : List α} (h : MkRow d e w w1 o xs) (hat : ∃ b, v1.ownBlock = some b ∧ w1.heap.size ≤ b) (hx : o = some x) : x.ownBlock ≠ v1.ownBlock := fun e1 => by
  obtain ⟨b, hb, hl⟩ := hat
  obtain ⟨inner, ho⟩ := Kd.R_own (h x hx).1
  have := own_lt ho b (e1.trans hb)
  omega
section
variable {w w1 w2 : World} {n : Nat} {a t v : Option Value} {v1 : Value}
theorem Mk3.start (w : World) (n : Nat) {w1 : World} (hb : Below w.heap.size w w1) : Mk3 w n none none none w1 := ⟨hb, fun _ h => (by cases h), fun _ h => (by cases h), fun _ h => (by cases h), fun _ _ h => (by cases h)⟩
theorem Mk3.addA (h : Mk3 w n none t v w1) (hR : (Kd.int .i64).R 3 w2 w1.heap.size (fun k => w1.heap.size ≤ k) v1 (List.replicate n 0)) (hb : Below w1.heap.size w1 w2) (hat : ∃ b, v1.ownBlock = some b ∧ w1.heap.size ≤ b) : Mk3 w n (some v1) t v w2 :=
  ⟨h.1.trans (hb.mono h.1.size), MkRow.made h.1 ⟨fun k hk => hk, hR.2⟩ hat, h.2.2.1.below hb, h.2.2.2.1.below hb, fun x y hx hy => by injection hx with hx; subst hx; exact Ne.symm (h.2.2.1.old hat hy)⟩
theorem Mk3.addT (h : Mk3 w n a none v w1) (hR : (Kd.int .i64).R 3 w2 w1.heap.size (fun k => w1.heap.size ≤ k) v1 (List.replicate n 0)) (hb : Below w1.heap.size w1 w2) (hat : ∃ b, v1.ownBlock = some b ∧ w1.heap.size ≤ b) : Mk3 w n a (some v1) v w2 :=
  ⟨h.1.trans (hb.mono h.1.size), h.2.1.below hb, MkRow.made h.1 ⟨fun k hk => hk, hR.2⟩ hat, h.2.2.2.1.below hb, fun x y hx hy => by injection hy with hy; subst hy; exact h.2.1.old hat hx⟩
theorem Mk3.addW (h : Mk3 w n a t none w1) (hR : Kd.bool.R 4 w2 w1.heap.size (fun k => w1.heap.size ≤ k) v1 (List.replicate n false)) (hb : Below w1.heap.size w1 w2) (hat : ∃ b, v1.ownBlock = some b ∧ w1.heap.size ≤ b) : Mk3 w n a t (some v1) w2 :=
  ⟨h.1.trans (hb.mono h.1.size), h.2.1.below hb, h.2.2.1.below hb, MkRow.made h.1 ⟨fun k hk => hk, hR.2⟩ hat, h.2.2.2.2⟩
end
theorem Mk3.forms {w w1 : World} {n : Nat} {va vt vw : Value} (h : Mk3 w n (some va) (some vt) (some vw) w1) : ∃ ga ca gt ct gw cw, va = .slice (some ⟨ga, 0, none⟩) n ca ∧ vt = .slice (some ⟨gt, 0, none⟩) n ct ∧ vw = .slice (some ⟨gw, 0, none⟩) n cw := by
  obtain ⟨h1, h2, h3, h4, h5⟩ := h
  obtain ⟨a1, ga, a2⟩ := h2 va rfl
  obtain ⟨t1, gt, t2⟩ := h3 vt rfl
  obtain ⟨b1, gw, b2⟩ := h4 vw rfl
  obtain ⟨ca, ea⟩ := row_form a1 a2
  obtain ⟨ct, et⟩ := row_form t1 t2
  obtain ⟨cw, ew⟩ := row_form b1 b2
  rw [List.length_replicate] at ea et ew
  exact ⟨ga, ca, gt, ct, gw, cw, ea, et, ew⟩
theorem map_const {α : Type} (n : Nat) (z : α) : (List.range n).map (fun _ => z) = List.replicate n z := by
  induction n with
  | zero => rfl
  | succ n ih => rw [List.range_succ, List.map_append, ih, List.replicate_succ']; rfl
/-- The runner, new: B, f whatever. -/
def DocNew (w : World) (calls : List (List (List S26))) (A : Option Addr) (c : Nat) (en : Ending) (w' : World) : Prop :=
  Below w.heap.size w w' ∧ ∃ xb, en = .returned (.tuple #[.pointer (some ⟨xb, 0, none⟩), .int .i64 0]) ∧ w.heap.size ≤ xb ∧ ∀ (B : Nat) (f : Owner), B ≤ w.heap.size → ∃ ga gt gw ca ct cw, DocG B (owns f w.heap.size xb) w' xb (xOf calls) (.slice A calls.length c) (.slice none 0 0) ga gt gw ca ct cw
theorem docnew_of {w w1 : World} {calls : List (List (List S26))} {A : Option Addr} {c : Nat} {va vt vw : Value} (h : Mk3 w calls.length (some va) (some vt) (some vw) w1) :
    DocNew w calls A c (.returned (.tuple #[.pointer (some ⟨w1.heap.size, 0, none⟩), .int .i64 0])) (w1.alloc (.cells #[.slice A calls.length c, va, vt, vw, .int .i64 0, .slice none 0 0] 86)) := by
  obtain ⟨h1, h2, h3, h4, h5⟩ := h
  obtain ⟨a1, ga, a2⟩ := h2 va rfl
  obtain ⟨t1, gt, t2⟩ := h3 vt rfl
  obtain ⟨b1, gw, b2⟩ := h4 vw rfl
  obtain ⟨ca, ea⟩ := row_form a1 a2
  obtain ⟨ct, et⟩ := row_form t1 t2
  obtain ⟨cw, ew⟩ := row_form b1 b2
  rw [List.length_replicate] at ea et ew
  subst ea
  subst et
  subst ew
  have bl : Below w1.heap.size w1 (w1.alloc (.cells #[.slice A calls.length c, .slice (some ⟨ga, 0, none⟩) calls.length ca, .slice (some ⟨gt, 0, none⟩) calls.length ct, .slice (some ⟨gw, 0, none⟩) calls.length cw, .int .i64 0, .slice none 0 0] 86)) := below_alloc (Below.refl _ _) _
  have n5 := h5 _ _ rfl rfl
  rw [a2, t2] at n5
  have a3 := (Kd.R_bound a1).1 ga a2
  have t3 := (Kd.R_bound t1).1 gt t2
  have b3 := (Kd.R_bound b1).1 gw b2
  refine ⟨h1.trans (bl.mono h1.size), w1.heap.size, rfl, h1.size, fun B f hB => ⟨ga, gt, gw, ca, ct, cw, ?_⟩⟩
  have row : ∀ {α : Type} {d : Kd α} {e g : Nat} {v : Value} {xs : List α}, d.R e w1 w.heap.size (fun k => v.ownBlock = some k) v xs → v.ownBlock = some g → w.heap.size ≤ g → d.R e (w1.alloc (.cells #[.slice A calls.length c, .slice (some ⟨ga, 0, none⟩) calls.length ca, .slice (some ⟨gt, 0, none⟩) calls.length ct, .slice (some ⟨gw, 0, none⟩) calls.length cw, .int .i64 0, .slice none 0 0] 86)) B (fun k => owns f w.heap.size w1.heap.size k = w1.heap.size ∧ k = g) v xs := by
    intro α d e g v xs hr hv hg
    refine Kd.R_lower (Kd.R_mono (Kd.R_below hr bl) (fun k hk => ?_)) hB
    have hk2 : k = g := by rw [hv] at hk; injection hk with hk; exact hk.symm
    exact ⟨owns_new _ _ _ _ (by omega), hk2⟩
  have ra := row a1 a2 a3.2.1
  have rt := row t1 t2 t3.2.1
  have rw_ := row b1 b2 b3.2.1
  rw [← map_const] at ra rt rw_
  exact
    { blk := blk_new _ _
      own := owns_new _ _ _ _ h1.size
      base := Nat.le_trans hB h1.size
      arow := ra
      trow := rt
      wrow := rw_
      ne := fun e => n5 (by rw [e])
      erow := Kd.R_nil _ _ _ _ _ }
set_option maxHeartbeats 1000000 in
theorem docnew_many {w : World} {A : Option Addr} {n c : Nat} (hn : 16 < n) : Calls Try.prog 29 #[.slice A n c] w (Refused w) := by
  have g : decide ((16 : Int) < (n : Int)) = true := decide_eq_true (by omega)
  go_enter Try.func29, Try.ntmps29
  go_wp2
  go_ret2
  exact ⟨rfl, rfl⟩
theorem len_at {W : World} {A : Option Addr} {calls : List (List (List S26))} (hC : (Kd.slice 22 (Kd.slice 26 k26)).C W A calls.length calls) (t : Nat) (ht : t < calls.length) :
    ∃ ad A0 c0, A = some ad ∧ W.cell? (ad.add t) = some (.slice A0 (calls.getD t []).length c0) := by
  obtain ⟨ad, A0, c0, e, h1, h2, h3⟩ := at_L5 hC (t : Int) (by omega) (by omega)
  exact ⟨ad, A0, c0, e, h1⟩
set_option maxHeartbeats 4000000 in
set_option maxRecDepth 100000 in
theorem docnew_long {w : World} {A : Option Addr} {c : Nat} {calls : List (List (List S26))} (hC : (Kd.slice 22 (Kd.slice 26 k26)).C w A calls.length calls) (h16 : calls.length ≤ 16) (hl : ∃ t, t < calls.length ∧ 256 < (calls.getD t []).length) :
    Calls Try.prog 29 #[.slice A calls.length c] w (Refused w) := by
  have HC := Aside0.mk hC
  have HL := Aside0.mk hl
  obtain ⟨n, hn⟩ : ∃ n, calls.length = n := ⟨_, rfl⟩
  have HN := Aside0.mk hn
  rw [hn] at h16
  rw [hn]
  have g : decide ((16 : Int) < (n : Int)) = false := decide_eq_false (by omega)
  clear hC hn hl
  go_enter Try.func29, Try.ntmps29
  go_wp2
  go_loop [4] (fun idx => ∃ k : Nat, k ≤ n ∧ idx = .int .i64 (k : Int) ∧ Aside0 (∀ t, t < k → ¬ 256 < (calls.getD t []).length)) (fun idx => n - (intOf idx).toNat)
  case atStart => exact ⟨0, Nat.zero_le _, rfl, ⟨fun t ht => by omega⟩⟩
  case round =>
    obtain ⟨k, hk, rfl, SK⟩ := hrel
    by_cases hlt : k < n
    · obtain ⟨ad, A0, c0, ea, z0⟩ := len_at HC.out k (by have := HN.out; omega)
      subst ea
      obtain ⟨m, hm⟩ : ∃ m, (calls.getD k []).length = m := ⟨_, rfl⟩
      have HM := Aside0.mk hm
      rw [hm] at z0
      clear hm
      have ix : decide ((k : Int) < (n : Int)) = true := decide_eq_true (by omega)
      by_cases hm2 : 256 < m
      · have g2 : decide ((256 : Int) < (m : Int)) = true := decide_eq_true (by omega)
        go_wp2
        go_ret2
        exact ⟨rfl, rfl⟩
      · have g2 : decide ((256 : Int) < (m : Int)) = false := decide_eq_false (by omega)
        have E : Aside0 (∀ t, t < k + 1 → ¬ 256 < (calls.getD t []).length) := ⟨fun t ht => by
          by_cases e : t = k
          · subst e; rw [HM.out]; exact hm2
          · exact SK.out t (by omega)⟩
        go_wp2
        go_round
        case rel => exact ⟨k + 1, by omega, by go_num, E⟩
        case measure => simp [intOf]; omega
    · exfalso
      obtain ⟨t, h1, h2⟩ := HL.out
      exact SK.out t (by have := HN.out; omega) h2
set_option maxHeartbeats 8000000 in
set_option maxRecDepth 100000 in
theorem docnew_yes {w : World} {A : Option Addr} {c : Nat} {calls : List (List (List S26))} (hC : (Kd.slice 22 (Kd.slice 26 k26)).C w A calls.length calls) (h16 : calls.length ≤ 16) (hl : ∀ t, t < calls.length → ¬ 256 < (calls.getD t []).length) :
    Calls Try.prog 29 #[.slice A calls.length c] w (DocNew w calls A c) := by
  have HC := Aside0.mk hC
  have HL := Aside0.mk hl
  have HF := Aside0.mk (@docnew_of w)
  obtain ⟨n, hn⟩ : ∃ n, calls.length = n := ⟨_, rfl⟩
  have HN := Aside0.mk hn
  rw [hn] at h16
  rw [hn]
  have g : decide ((16 : Int) < (n : Int)) = false := decide_eq_false (by omega)
  clear hC hn hl
  go_enter Try.func29, Try.ntmps29
  go_wp2
  go_loop [4] (fun idx => ∃ k : Nat, k ≤ n ∧ idx = .int .i64 (k : Int)) (fun idx => n - (intOf idx).toNat)
  case atStart => exact ⟨0, Nat.zero_le _, rfl⟩
  case round =>
    obtain ⟨k, hk, rfl⟩ := hrel
    by_cases hlt : k < n
    · obtain ⟨ad, A0, c0, ea, z0⟩ := len_at HC.out k (by have := HN.out; omega)
      subst ea
      obtain ⟨m, hm⟩ : ∃ m, (calls.getD k []).length = m := ⟨_, rfl⟩
      have hm2 : ¬ 256 < m := by rw [← hm]; exact HL.out k (by have := HN.out; omega)
      rw [hm] at z0
      clear hm
      have ix : decide ((k : Int) < (n : Int)) = true := decide_eq_true (by omega)
      have g2 : decide ((256 : Int) < (m : Int)) = false := decide_eq_false (by omega)
      go_wp2
      go_round
      case rel => exact ⟨k + 1, by omega, by go_num⟩
      case measure => simp [intOf]; omega
    · have hkl : k = n := by omega
      subst hkl
      go_upto_region 9 with (fail)
      refine start_ (n := 11) (S := fun w' => True) (ds := []) #[F,F,F,F,F,F,F,F,F,F,F] (by kernel_rfl) rfl rfl (trivial) (fun hHeld => ?_)
      generalize hwd : w.drew = wd at hHeld ⊢
      have MK0 : Aside0 (Mk3 w k none none none wd) := ⟨Mk3.start w k (by rw [← hwd]; exact below_drew (Below.refl _ _))⟩
      clear hwd
      refine pure_ (i := 0) (N := some 23) (v := ?_) (a' := ?_) #[T,F,F,F,F,F,F,F,F,F,F] rfl rfl (by kernel_rfl) (fun _ _ _ h => h) (Or.inl ⟨by rfl, ?_⟩) ?_ ?_
      rotate_left
      · intro w'
        go_simp
        with_reducible rfl
      rotate_left
      · simp only [Act.put, sA, s0_, sS, i64_w, i32_w]
        rfl
      refine pure_ (i := 1) (N := some 24) (v := ?_) (a' := ?_) #[T,T,F,F,F,F,F,F,F,F,F] rfl rfl (by kernel_rfl) (fun _ _ _ h => h) (Or.inl ⟨by rfl, ?_⟩) ?_ ?_
      rotate_left
      · intro w'
        go_simp
        with_reducible rfl
      rotate_left
      · simp only [Act.put, sA, s0_, sS, i64_w, i32_w]
        rfl
      refine pure_ (i := 3) (N := some 26) (v := ?_) (a' := ?_) #[T,T,F,T,F,F,F,F,F,F,F] rfl rfl (by kernel_rfl) (fun _ _ _ h => h) (Or.inl ⟨by rfl, ?_⟩) ?_ ?_
      rotate_left
      · intro w'
        go_simp
        with_reducible rfl
      rotate_left
      · simp only [Act.put, sA, s0_, sS, i64_w, i32_w]
        rfl
      refine pure_ (i := 5) (N := some 28) (v := ?_) (a' := ?_) #[T,T,F,T,F,T,F,F,F,F,F] rfl rfl (by kernel_rfl) (fun _ _ _ h => h) (Or.inl ⟨by rfl, ?_⟩) ?_ ?_
      rotate_left
      · intro w'
        go_simp
        with_reducible rfl
      rotate_left
      · simp only [Act.put, sA, s0_, sS, i64_w, i32_w]
        rfl
      refine join_ (σ := Value × Value × Value) 4 #[T,T,T,T,T,T,T,F,F,F,F] (fun s_ => [(25, s_.1), (27, s_.2.1), (29, s_.2.2)]) (fun s_ w' => Mk3 w k (some s_.1) (some s_.2.1) (some s_.2.2) w') ?_ ?_
      rotate_left
      · intro hCont
        refine three_ (i := 2) (j := 4) (k := 6) (Ni := some 25) (Nj := some 27) (Nk := some 29) #[T,T,T,T,F,T,F,F,F,F,F] #[T,T,F,T,T,T,F,F,F,F,F] #[T,T,F,T,F,T,T,F,F,F,F] rfl rfl rfl rfl rfl rfl (by kernel_rfl) (by decide) (by decide) (by decide) (fun K hK => ?_) (fun K hK => ?_) (fun K hK => ?_)
        · skip
          refine Kd.R_make_step (Kd.int .i64) (w0 := wd) wd.heap.size 3 (by rfl) (N := 25) rfl 23 (.tmp 24) (.tmp 24) rfl (k : Int) rfl rfl Try.underlying23 (.int .i64 0) 8 info3 rfl (by decide) (by decide) 0 (ok := fun q => wd.heap.size ≤ q) (okp := fun _ => False) rfl (fun _ h => h.elim) (Nat.le_refl _) (by omega) (by simp; omega) (Below.refl _ _) (Nat.le_refl _) ?_
          intro va w1 hR hb hg hat
          rw [Int.toNat_natCast] at hR
          have MK1 := Aside0.mk (MK0.out.addA hR hb hat)
          clear hR hb hg hat
          refine hK.out _ _ trivial (fun hHeld => ?_)
          clear hK K
          refine norm_ (a' := ?_) ?_ ?_
          rotate_left
          · show Act.put _ (some 25) _ = _
            simp only [Act.put, sA, s0_, sS, i64_w, i32_w]
            rfl
          refine two_ (i := 4) (j := 6) (Ni := some 27) (Nj := some 29) #[T,T,T,T,T,T,F,F,F,F,F] #[T,T,T,T,F,T,T,F,F,F,F] rfl rfl rfl rfl (by kernel_rfl) (by decide) (by decide) (fun K hK => ?_) (fun K hK => ?_)
          · skip
            refine Kd.R_make_step (Kd.int .i64) (w0 := w1) w1.heap.size 3 (by rfl) (N := 27) rfl 23 (.tmp 26) (.tmp 26) rfl (k : Int) rfl rfl Try.underlying23 (.int .i64 0) 8 info3 rfl (by decide) (by decide) 0 (ok := fun q => w1.heap.size ≤ q) (okp := fun _ => False) rfl (fun _ h => h.elim) (Nat.le_refl _) (by omega) (by simp; omega) (Below.refl _ _) (Nat.le_refl _) ?_
            intro vt w2 hR hb hg hat
            rw [Int.toNat_natCast] at hR
            have MK2 := Aside0.mk (MK1.out.addT hR hb hat)
            clear hR hb hg hat
            refine hK.out _ _ trivial (fun hHeld => ?_)
            clear hK K
            refine norm_ (a' := ?_) ?_ ?_
            rotate_left
            · show Act.put _ (some 27) _ = _
              simp only [Act.put, sA, s0_, sS, i64_w, i32_w]
              rfl
            refine one_ (i := 6) (N := some 29) #[T,T,T,T,T,T,T,F,F,F,F] rfl rfl (by kernel_rfl) (by decide) (fun K hK => ?_)
            refine Kd.R_make_step Kd.bool (w0 := w2) w2.heap.size 4 (by rfl) (N := 29) rfl 49 (.tmp 28) (.tmp 28) rfl (k : Int) rfl rfl Try.underlying49 (.bool false) 1 info4 rfl (by decide) (by decide) false (ok := fun q => w2.heap.size ≤ q) (okp := fun _ => False) rfl (fun _ h => h.elim) (Nat.le_refl _) (by omega) (by simp; omega) (Below.refl _ _) (Nat.le_refl _) ?_
            intro vw w3 hR hb hg hat
            rw [Int.toNat_natCast] at hR
            have MK3 := Aside0.mk (MK2.out.addW hR hb hat)
            clear hR hb hg hat
            refine hK.out _ _ trivial (fun hHeld => ?_)
            clear hK K
            refine norm_ (a' := ?_) ?_ ?_
            rotate_left
            · show Act.put _ (some 29) _ = _
              simp only [Act.put, sA, s0_, sS, i64_w, i32_w]
              rfl
            exact norm_ (by simp only [putAll, Act.put, sA, s0_, sS]) (hCont (va, vt, vw) _ MK3.out)
          · skip
            refine Kd.R_make_step Kd.bool (w0 := w1) w1.heap.size 4 (by rfl) (N := 29) rfl 49 (.tmp 28) (.tmp 28) rfl (k : Int) rfl rfl Try.underlying49 (.bool false) 1 info4 rfl (by decide) (by decide) false (ok := fun q => w1.heap.size ≤ q) (okp := fun _ => False) rfl (fun _ h => h.elim) (Nat.le_refl _) (by omega) (by simp; omega) (Below.refl _ _) (Nat.le_refl _) ?_
            intro vw w2 hR hb hg hat
            rw [Int.toNat_natCast] at hR
            have MK2 := Aside0.mk (MK1.out.addW hR hb hat)
            clear hR hb hg hat
            refine hK.out _ _ trivial (fun hHeld => ?_)
            clear hK K
            refine norm_ (a' := ?_) ?_ ?_
            rotate_left
            · show Act.put _ (some 29) _ = _
              simp only [Act.put, sA, s0_, sS, i64_w, i32_w]
              rfl
            refine one_ (i := 4) (N := some 27) #[T,T,T,T,T,T,T,F,F,F,F] rfl rfl (by kernel_rfl) (by decide) (fun K hK => ?_)
            refine Kd.R_make_step (Kd.int .i64) (w0 := w2) w2.heap.size 3 (by rfl) (N := 27) rfl 23 (.tmp 26) (.tmp 26) rfl (k : Int) rfl rfl Try.underlying23 (.int .i64 0) 8 info3 rfl (by decide) (by decide) 0 (ok := fun q => w2.heap.size ≤ q) (okp := fun _ => False) rfl (fun _ h => h.elim) (Nat.le_refl _) (by omega) (by simp; omega) (Below.refl _ _) (Nat.le_refl _) ?_
            intro vt w3 hR hb hg hat
            rw [Int.toNat_natCast] at hR
            have MK3 := Aside0.mk (MK2.out.addT hR hb hat)
            clear hR hb hg hat
            refine hK.out _ _ trivial (fun hHeld => ?_)
            clear hK K
            refine norm_ (a' := ?_) ?_ ?_
            rotate_left
            · show Act.put _ (some 27) _ = _
              simp only [Act.put, sA, s0_, sS, i64_w, i32_w]
              rfl
            exact norm_ (by simp only [putAll, Act.put, sA, s0_, sS]) (hCont (va, vt, vw) _ MK3.out)
        · skip
          refine Kd.R_make_step (Kd.int .i64) (w0 := wd) wd.heap.size 3 (by rfl) (N := 27) rfl 23 (.tmp 26) (.tmp 26) rfl (k : Int) rfl rfl Try.underlying23 (.int .i64 0) 8 info3 rfl (by decide) (by decide) 0 (ok := fun q => wd.heap.size ≤ q) (okp := fun _ => False) rfl (fun _ h => h.elim) (Nat.le_refl _) (by omega) (by simp; omega) (Below.refl _ _) (Nat.le_refl _) ?_
          intro vt w1 hR hb hg hat
          rw [Int.toNat_natCast] at hR
          have MK1 := Aside0.mk (MK0.out.addT hR hb hat)
          clear hR hb hg hat
          refine hK.out _ _ trivial (fun hHeld => ?_)
          clear hK K
          refine norm_ (a' := ?_) ?_ ?_
          rotate_left
          · show Act.put _ (some 27) _ = _
            simp only [Act.put, sA, s0_, sS, i64_w, i32_w]
            rfl
          refine two_ (i := 2) (j := 6) (Ni := some 25) (Nj := some 29) #[T,T,T,T,T,T,F,F,F,F,F] #[T,T,F,T,T,T,T,F,F,F,F] rfl rfl rfl rfl (by kernel_rfl) (by decide) (by decide) (fun K hK => ?_) (fun K hK => ?_)
          · skip
            refine Kd.R_make_step (Kd.int .i64) (w0 := w1) w1.heap.size 3 (by rfl) (N := 25) rfl 23 (.tmp 24) (.tmp 24) rfl (k : Int) rfl rfl Try.underlying23 (.int .i64 0) 8 info3 rfl (by decide) (by decide) 0 (ok := fun q => w1.heap.size ≤ q) (okp := fun _ => False) rfl (fun _ h => h.elim) (Nat.le_refl _) (by omega) (by simp; omega) (Below.refl _ _) (Nat.le_refl _) ?_
            intro va w2 hR hb hg hat
            rw [Int.toNat_natCast] at hR
            have MK2 := Aside0.mk (MK1.out.addA hR hb hat)
            clear hR hb hg hat
            refine hK.out _ _ trivial (fun hHeld => ?_)
            clear hK K
            refine norm_ (a' := ?_) ?_ ?_
            rotate_left
            · show Act.put _ (some 25) _ = _
              simp only [Act.put, sA, s0_, sS, i64_w, i32_w]
              rfl
            refine one_ (i := 6) (N := some 29) #[T,T,T,T,T,T,T,F,F,F,F] rfl rfl (by kernel_rfl) (by decide) (fun K hK => ?_)
            refine Kd.R_make_step Kd.bool (w0 := w2) w2.heap.size 4 (by rfl) (N := 29) rfl 49 (.tmp 28) (.tmp 28) rfl (k : Int) rfl rfl Try.underlying49 (.bool false) 1 info4 rfl (by decide) (by decide) false (ok := fun q => w2.heap.size ≤ q) (okp := fun _ => False) rfl (fun _ h => h.elim) (Nat.le_refl _) (by omega) (by simp; omega) (Below.refl _ _) (Nat.le_refl _) ?_
            intro vw w3 hR hb hg hat
            rw [Int.toNat_natCast] at hR
            have MK3 := Aside0.mk (MK2.out.addW hR hb hat)
            clear hR hb hg hat
            refine hK.out _ _ trivial (fun hHeld => ?_)
            clear hK K
            refine norm_ (a' := ?_) ?_ ?_
            rotate_left
            · show Act.put _ (some 29) _ = _
              simp only [Act.put, sA, s0_, sS, i64_w, i32_w]
              rfl
            exact norm_ (by simp only [putAll, Act.put, sA, s0_, sS]) (hCont (va, vt, vw) _ MK3.out)
          · skip
            refine Kd.R_make_step Kd.bool (w0 := w1) w1.heap.size 4 (by rfl) (N := 29) rfl 49 (.tmp 28) (.tmp 28) rfl (k : Int) rfl rfl Try.underlying49 (.bool false) 1 info4 rfl (by decide) (by decide) false (ok := fun q => w1.heap.size ≤ q) (okp := fun _ => False) rfl (fun _ h => h.elim) (Nat.le_refl _) (by omega) (by simp; omega) (Below.refl _ _) (Nat.le_refl _) ?_
            intro vw w2 hR hb hg hat
            rw [Int.toNat_natCast] at hR
            have MK2 := Aside0.mk (MK1.out.addW hR hb hat)
            clear hR hb hg hat
            refine hK.out _ _ trivial (fun hHeld => ?_)
            clear hK K
            refine norm_ (a' := ?_) ?_ ?_
            rotate_left
            · show Act.put _ (some 29) _ = _
              simp only [Act.put, sA, s0_, sS, i64_w, i32_w]
              rfl
            refine one_ (i := 2) (N := some 25) #[T,T,T,T,T,T,T,F,F,F,F] rfl rfl (by kernel_rfl) (by decide) (fun K hK => ?_)
            refine Kd.R_make_step (Kd.int .i64) (w0 := w2) w2.heap.size 3 (by rfl) (N := 25) rfl 23 (.tmp 24) (.tmp 24) rfl (k : Int) rfl rfl Try.underlying23 (.int .i64 0) 8 info3 rfl (by decide) (by decide) 0 (ok := fun q => w2.heap.size ≤ q) (okp := fun _ => False) rfl (fun _ h => h.elim) (Nat.le_refl _) (by omega) (by simp; omega) (Below.refl _ _) (Nat.le_refl _) ?_
            intro va w3 hR hb hg hat
            rw [Int.toNat_natCast] at hR
            have MK3 := Aside0.mk (MK2.out.addA hR hb hat)
            clear hR hb hg hat
            refine hK.out _ _ trivial (fun hHeld => ?_)
            clear hK K
            refine norm_ (a' := ?_) ?_ ?_
            rotate_left
            · show Act.put _ (some 25) _ = _
              simp only [Act.put, sA, s0_, sS, i64_w, i32_w]
              rfl
            exact norm_ (by simp only [putAll, Act.put, sA, s0_, sS]) (hCont (va, vt, vw) _ MK3.out)
        · skip
          refine Kd.R_make_step Kd.bool (w0 := wd) wd.heap.size 4 (by rfl) (N := 29) rfl 49 (.tmp 28) (.tmp 28) rfl (k : Int) rfl rfl Try.underlying49 (.bool false) 1 info4 rfl (by decide) (by decide) false (ok := fun q => wd.heap.size ≤ q) (okp := fun _ => False) rfl (fun _ h => h.elim) (Nat.le_refl _) (by omega) (by simp; omega) (Below.refl _ _) (Nat.le_refl _) ?_
          intro vw w1 hR hb hg hat
          rw [Int.toNat_natCast] at hR
          have MK1 := Aside0.mk (MK0.out.addW hR hb hat)
          clear hR hb hg hat
          refine hK.out _ _ trivial (fun hHeld => ?_)
          clear hK K
          refine norm_ (a' := ?_) ?_ ?_
          rotate_left
          · show Act.put _ (some 29) _ = _
            simp only [Act.put, sA, s0_, sS, i64_w, i32_w]
            rfl
          refine two_ (i := 2) (j := 4) (Ni := some 25) (Nj := some 27) #[T,T,T,T,F,T,T,F,F,F,F] #[T,T,F,T,T,T,T,F,F,F,F] rfl rfl rfl rfl (by kernel_rfl) (by decide) (by decide) (fun K hK => ?_) (fun K hK => ?_)
          · skip
            refine Kd.R_make_step (Kd.int .i64) (w0 := w1) w1.heap.size 3 (by rfl) (N := 25) rfl 23 (.tmp 24) (.tmp 24) rfl (k : Int) rfl rfl Try.underlying23 (.int .i64 0) 8 info3 rfl (by decide) (by decide) 0 (ok := fun q => w1.heap.size ≤ q) (okp := fun _ => False) rfl (fun _ h => h.elim) (Nat.le_refl _) (by omega) (by simp; omega) (Below.refl _ _) (Nat.le_refl _) ?_
            intro va w2 hR hb hg hat
            rw [Int.toNat_natCast] at hR
            have MK2 := Aside0.mk (MK1.out.addA hR hb hat)
            clear hR hb hg hat
            refine hK.out _ _ trivial (fun hHeld => ?_)
            clear hK K
            refine norm_ (a' := ?_) ?_ ?_
            rotate_left
            · show Act.put _ (some 25) _ = _
              simp only [Act.put, sA, s0_, sS, i64_w, i32_w]
              rfl
            refine one_ (i := 4) (N := some 27) #[T,T,T,T,T,T,T,F,F,F,F] rfl rfl (by kernel_rfl) (by decide) (fun K hK => ?_)
            refine Kd.R_make_step (Kd.int .i64) (w0 := w2) w2.heap.size 3 (by rfl) (N := 27) rfl 23 (.tmp 26) (.tmp 26) rfl (k : Int) rfl rfl Try.underlying23 (.int .i64 0) 8 info3 rfl (by decide) (by decide) 0 (ok := fun q => w2.heap.size ≤ q) (okp := fun _ => False) rfl (fun _ h => h.elim) (Nat.le_refl _) (by omega) (by simp; omega) (Below.refl _ _) (Nat.le_refl _) ?_
            intro vt w3 hR hb hg hat
            rw [Int.toNat_natCast] at hR
            have MK3 := Aside0.mk (MK2.out.addT hR hb hat)
            clear hR hb hg hat
            refine hK.out _ _ trivial (fun hHeld => ?_)
            clear hK K
            refine norm_ (a' := ?_) ?_ ?_
            rotate_left
            · show Act.put _ (some 27) _ = _
              simp only [Act.put, sA, s0_, sS, i64_w, i32_w]
              rfl
            exact norm_ (by simp only [putAll, Act.put, sA, s0_, sS]) (hCont (va, vt, vw) _ MK3.out)
          · skip
            refine Kd.R_make_step (Kd.int .i64) (w0 := w1) w1.heap.size 3 (by rfl) (N := 27) rfl 23 (.tmp 26) (.tmp 26) rfl (k : Int) rfl rfl Try.underlying23 (.int .i64 0) 8 info3 rfl (by decide) (by decide) 0 (ok := fun q => w1.heap.size ≤ q) (okp := fun _ => False) rfl (fun _ h => h.elim) (Nat.le_refl _) (by omega) (by simp; omega) (Below.refl _ _) (Nat.le_refl _) ?_
            intro vt w2 hR hb hg hat
            rw [Int.toNat_natCast] at hR
            have MK2 := Aside0.mk (MK1.out.addT hR hb hat)
            clear hR hb hg hat
            refine hK.out _ _ trivial (fun hHeld => ?_)
            clear hK K
            refine norm_ (a' := ?_) ?_ ?_
            rotate_left
            · show Act.put _ (some 27) _ = _
              simp only [Act.put, sA, s0_, sS, i64_w, i32_w]
              rfl
            refine one_ (i := 2) (N := some 25) #[T,T,T,T,T,T,T,F,F,F,F] rfl rfl (by kernel_rfl) (by decide) (fun K hK => ?_)
            refine Kd.R_make_step (Kd.int .i64) (w0 := w2) w2.heap.size 3 (by rfl) (N := 25) rfl 23 (.tmp 24) (.tmp 24) rfl (k : Int) rfl rfl Try.underlying23 (.int .i64 0) 8 info3 rfl (by decide) (by decide) 0 (ok := fun q => w2.heap.size ≤ q) (okp := fun _ => False) rfl (fun _ h => h.elim) (Nat.le_refl _) (by omega) (by simp; omega) (Below.refl _ _) (Nat.le_refl _) ?_
            intro va w3 hR hb hg hat
            rw [Int.toNat_natCast] at hR
            have MK3 := Aside0.mk (MK2.out.addA hR hb hat)
            clear hR hb hg hat
            refine hK.out _ _ trivial (fun hHeld => ?_)
            clear hK K
            refine norm_ (a' := ?_) ?_ ?_
            rotate_left
            · show Act.put _ (some 25) _ = _
              simp only [Act.put, sA, s0_, sS, i64_w, i32_w]
              rfl
            exact norm_ (by simp only [putAll, Act.put, sA, s0_, sS]) (hCont (va, vt, vw) _ MK3.out)
      intro s_ w3 MK3
      obtain ⟨va, vt, vw⟩ := s_
      obtain ⟨ga, ca, gt, ct, gw, cw, e1, e2, e3⟩ := Mk3.forms MK3
      simp only at e1 e2 e3
      subst e1
      subst e2
      subst e3
      have MK3 := Aside0.mk MK3
      refine norm_ (a' := ?_) ?_ ?_
      rotate_left
      · simp only [putAll, Act.put, sA, s0_, sS]
        rfl
      refine pure_ (i := 7) (N := some 30) (v := ?_) (a' := ?_) #[T,T,T,T,T,T,T,T,F,F,F] rfl rfl (by kernel_rfl) (fun _ _ _ h => h) (Or.inl ⟨by rfl, ?_⟩) ?_ ?_
      rotate_left
      · intro w'
        go_simp
        with_reducible rfl
      rotate_left
      · simp only [Act.put, sA, s0_, sS, i64_w, i32_w]
        rfl
      refine one_ (i := 8) (N := some 31) #[T,T,T,T,T,T,T,T,T,F,F] rfl rfl (by kernel_rfl) (by decide) (fun K hK => ?_)
      refine value_ (w1 := ?_) (v := ?_) (by rfl) rfl ?_ ?_
      rotate_left 2
      · go_simp
        constructor
        · rfl
        · rfl
      refine hK.out _ _ (trivial) (fun hHeld => ?_)
      clear hK K
      refine norm_ (a' := ?_) ?_ ?_
      rotate_left
      · show Act.put _ (some 31) _ = _
        simp only [Act.put, sA, s0_, sS, i64_w, i32_w]
        rfl
      refine pure_ (i := 9) (N := some 2) (v := ?_) (a' := ?_) #[T,T,T,T,T,T,T,T,T,T,F] rfl rfl (by kernel_rfl) (fun _ _ _ h => h) (Or.inl ⟨by rfl, ?_⟩) ?_ ?_
      rotate_left
      · intro w'
        go_simp
        with_reducible rfl
      rotate_left
      · simp only [Act.put, sA, s0_, sS, i64_w, i32_w]
        rfl
      refine pure_ (i := 10) (N := some 3) (v := ?_) (a' := ?_) #[T,T,T,T,T,T,T,T,T,T,T] rfl rfl (by kernel_rfl) (fun _ _ _ h => h) (Or.inl ⟨by rfl, ?_⟩) ?_ ?_
      rotate_left
      · intro w'
        go_simp
        with_reducible rfl
      rotate_left
      · simp only [Act.put, sA, s0_, sS, i64_w, i32_w]
        rfl
      refine done_ (by kernel_rfl) ?_
      try go_wp2
      go_ret2
      have hh := @docnew_of w w3 calls A c _ _ _ (by rw [HN.out]; exact MK3.out)
      rw [HN.out] at hh
      exact hh
/-! ### The document's Pick -/
def DocPicked (B : Nat) (f : Owner) (w : World) (xb : Nat) (y : X) (t : Nat) (A : Option Addr) (c ga gt gw ca ct cw : Nat) (en : Ending) (w' : World) : Prop :=
  en = .returned (.tuple #[.int .i64 (t : Int), .bool true]) ∧ ∃ f' ev', DocG B f' w' xb y (.slice A y.n c) ev' ga gt gw ca ct cw ∧ Mv B (· = xb) f w f' w'
/-- While the woken are gone over. -/
def DWak (B : Nat) (f : Owner) (w : World) (xb : Nat) (m : X) (cv : Value) (ga gt gw ca ct cw bx : Nat) (vx : Array Value) (wk : List Int) (k : Nat) (wr : World) : Prop :=
  ∃ f' ev', DocG B f' wr xb { m with waits := woke (wk.take k) m.waits } cv ev' ga gt gw ca ct cw ∧ Mv B (· = xb) f w f' wr ∧ wr.heap[bx]? = some (.cells vx 26 (0, 0)) ∧ f' bx ≠ xb
section
variable {B : Nat} {f : Owner} {w : World} {xb : Nat} {m : X} {cv : Value} {ga gt gw ca ct cw bx : Nat} {vx : Array Value} {wk : List Int} {k : Nat} {wr : World}
theorem DocG.congrW {x : X} {ev : Value} (h : DocG B f w xb x cv ev ga gt gw ca ct cw) (g : Nat → Bool) (hg : ∀ s, s < x.n → g s = x.waits s) : DocG B f w xb { x with waits := g } cv ev ga gt gw ca ct cw :=
  { blk := h.blk, own := h.own, base := h.base, arow := h.arow, trow := h.trow, ne := h.ne, erow := h.erow,
    wrow := by
      have e : (List.range x.n).map g = (List.range x.n).map x.waits := List.map_congr_left (fun s hs => hg s (List.mem_range.1 hs))
      have h1 := h.wrow
      rw [← e] at h1
      exact h1 }
theorem DWak.start {ev : Value} (h : DocG B f w xb m cv ev ga gt gw ca ct cw) {f0 : Owner} {w0 : World} (hm : Mv B (· = xb) f0 w0 f w) (hb : w.heap[bx]? = some (.cells vx 26 (0, 0))) (hn : f bx ≠ xb) : DWak B f0 w0 xb m cv ga gt gw ca ct cw bx vx wk 0 w :=
  ⟨f, ev, by rw [List.take_zero, woke_nil]; exact h, hm, hb, hn⟩
theorem DWak.out (h : DWak B f w xb m cv ga gt gw ca ct cw bx vx wk k wr) (hk : k < wk.length) (hz : ∀ s : Nat, s < m.n → wk.getD k 0 ≠ (s : Int)) : DWak B f w xb m cv ga gt gw ca ct cw bx vx wk (k + 1) wr := by
  obtain ⟨f', ev', h1, h2, h3⟩ := h
  refine ⟨f', ev', ?_, h2, h3⟩
  rw [List.take_succ_eq_append_getElem hk]
  refine h1.congrW _ (fun s hs => ?_)
  refine woke_out _ _ _ s ?_
  have := hz s hs
  rwa [List.getD_eq_getElem?_getD, List.getElem?_eq_getElem hk] at this
theorem DWak.in_ (h : DWak B f w xb m cv ga gt gw ca ct cw bx vx wk k wr) (hk : k < wk.length) (u : Nat) (hz : wk.getD k 0 = (u : Int)) : DWak B f w xb m cv ga gt gw ca ct cw bx vx wk (k + 1) (wr.setCell ⟨gw, u, none⟩ (.bool false)) := by
  obtain ⟨f', ev', h1, h2, h3, h4⟩ := h
  obtain ⟨g1, g2⟩ := h1.setWaits u false
  refine ⟨f', ev', ?_, h2.trans g2, g2.blk h3 h4, h4⟩
  rw [List.take_succ_eq_append_getElem hk]
  have e : wk[k] = (u : Int) := by
    rw [List.getD_eq_getElem?_getD, List.getElem?_eq_getElem hk] at hz
    exact hz
  rw [e, woke_in]
  exact g1
theorem DWak.end_ (h : DWak B f w xb m cv ga gt gw ca ct cw bx vx wk wk.length wr) (s : Int) :
    ∃ f' ev', DocG B f' (wr.setCell ⟨xb, 4, none⟩ (.int .i64 s)) xb { m with waits := woke wk m.waits, steps := s } cv ev' ga gt gw ca ct cw ∧ Mv B (· = xb) f w f' (wr.setCell ⟨xb, 4, none⟩ (.int .i64 s)) := by
  obtain ⟨f', ev', h1, h2, _⟩ := h
  obtain ⟨g1, g2⟩ := h1.setSteps s
  rw [List.take_length] at g1
  exact ⟨f', ev', g1, h2.trans g2⟩
end
theorem few_nat (a b : Nat) (h : (a + 2) * 32 ≤ 140737488355328) (hb : b ≤ 1) : (a + b + 1) * 32 ≤ 140737488355328 :=
  Nat.le_trans (Nat.mul_le_mul_right 32 (by omega : a + b + 1 ≤ a + 2)) h
theorem begins_le (x : X) (t : Nat) : (x.begins t).length ≤ 1 := by
  unfold X.begins
  by_cases h : x.taken t = 0
  · rw [if_pos h]; exact Nat.le_refl _
  · rw [if_neg h]; exact Nat.zero_le _
theorem few_of {x : X} {t : Nat} (h : (x.events.length + 2) * 32 ≤ 140737488355328) : ((x.events ++ x.begins t).length + 1) * 32 ≤ 140737488355328 := by
  have h3 := few_nat x.events.length (x.begins t).length h (begins_le x t)
  rw [List.length_append]
  exact h3
end Go.Proofs.Ytkigbgabnbjomaa.Sched
