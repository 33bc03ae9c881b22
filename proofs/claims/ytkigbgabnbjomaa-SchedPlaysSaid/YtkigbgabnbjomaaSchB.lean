/- The runner in memory: what it is asked, what a write does to it; note walked.
   No condition. -/
import Derived.Test.YtkigbgabnbjomaaSchA
import Derived.ArgAppend
import Derived.BigRegion
import Derived.Deep.QuietTactic
import Derived.BigQuiet
import Derived.Deep.RegionHeld3
import Derived.ChangeAlike
import Derived.RegionTactic
import Derived.Deep.DeepCutAuto
import Derived.Deep.CutBlock
import Derived.Deep.RegionLaw
import Derived.StillTailTactics
import Derived.WalkSpells
import Derived.Lib.SliceRun
namespace Go.Proofs.Ytkigbgabnbjomaa.Sched
open Go.Proofs.Ytkigbgabnbjomaa.PSchedPlays
open Go.RowKit Go.Proofs.YtkigbgabnbjomaaW.PrintWords Go.Proofs.YtkigbgabnbjomaaW.PrintLast Go.Proofs.YtkigbgabnbjomaaW.PrintMore
attribute [local go_sem] max2_int min2_int max_two min_two   -- for this text's walks alone
set_option linter.unusedVariables false
set_option linter.unusedSimpArgs false
/-! ### Tasks -/
def Told (w : World) (b : Bool) (en : Ending) (w' : World) : Prop := en = .returned (.bool b) ∧ Drawn0 w w'
set_option maxHeartbeats 1000000 in
theorem left_walk {b n c : Nat} {A : Option Addr} {a : Nat} {bg wt : Bool} {w : World} (h : w.heap[b]? = some (.cells #[.slice A n c, .int .i64 (a : Int), .bool bg, .bool wt] 80 (0, 0))) :
    Calls Try.prog 40 #[.pointer (some ⟨b, 0, none⟩)] w (Told w (decide (a < n))) := by
  have c0 := blk_cell h 0
  have c1 := blk_cell h 1
  simp only [List.getElem?_toArray, List.getElem?_cons_zero, List.getElem?_cons_succ] at c0 c1
  have HB := Aside0.mk h
  clear h
  go_enter Try.func40, Try.ntmps40
  go_wp2
  go_quiet (fail)
  go_wp2
  go_ret
  exact ⟨rfl, ⟨⟨_, rfl⟩⟩⟩
set_option maxHeartbeats 1000000 in
theorem waits_walk {b : Nat} {v0 : Value} {a : Int} {bg wt : Bool} {w : World} (h : w.heap[b]? = some (.cells #[v0, .int .i64 a, .bool bg, .bool wt] 80 (0, 0))) :
    Calls Try.prog 43 #[.pointer (some ⟨b, 0, none⟩)] w (Told w wt) := by
  have c3 := blk_cell h 3
  simp only [List.getElem?_toArray, List.getElem?_cons_zero, List.getElem?_cons_succ] at c3
  have HB := Aside0.mk h
  clear h
  go_enter Try.func43, Try.ntmps43
  go_wp2
  go_ret
  exact ⟨rfl, Drawn0.refl _⟩
set_option maxHeartbeats 1000000 in
theorem can_walk {b n c : Nat} {A : Option Addr} {a : Nat} {bg wt : Bool} {w : World} (h : w.heap[b]? = some (.cells #[.slice A n c, .int .i64 (a : Int), .bool bg, .bool wt] 80 (0, 0))) :
    Calls Try.prog 39 #[.pointer (some ⟨b, 0, none⟩)] w (Told w (decide (a < n) && !wt)) := by
  have c3 := blk_cell h 3
  simp only [List.getElem?_toArray, List.getElem?_cons_zero, List.getElem?_cons_succ] at c3
  have HL := Aside0.mk (left_walk h)
  clear h
  by_cases hlt : a < n
  · have e1 : decide (a < n) = true := decide_eq_true hlt
    rw [e1, Bool.true_and]
    rw [e1] at HL
    clear e1 hlt
    go_enter Try.func39, Try.ntmps39
    go_wp2_with (go_at_call 40; refine HL.out.mono ?_; rintro e w' ⟨rfl, ⟨q, rfl⟩⟩)
    go_ret
    exact ⟨rfl, ⟨⟨_, rfl⟩⟩⟩
  · have e1 : decide (a < n) = false := decide_eq_false hlt
    rw [e1, Bool.false_and]
    rw [e1] at HL
    clear e1 hlt
    go_enter Try.func39, Try.ntmps39
    go_wp2_with (go_at_call 40; refine HL.out.mono ?_; rintro e w' ⟨rfl, ⟨q, rfl⟩⟩)
    go_ret
    exact ⟨rfl, ⟨⟨_, rfl⟩⟩⟩
/-! ### The runner in memory -/
def ptrV (b : Nat) : Value := .pointer (some ⟨b, 0, none⟩)
abbrev kPtr : Kd Nat := Kd.scalar ptrV (fun _ => rfl)
def procV : Option Nat → Value
  | some b => .iface 27 (.pointer (some ⟨b, 0, none⟩))
  | none => .nilIface
theorem procV_one (o : Option Nat) : (procV o).oneCell' = true := by cases o <;> rfl
abbrev kProc : Kd (Option Nat) := Kd.scalar procV procV_one
/-- Runner rb: P lets in its own and its plays' names; tv, ev: its tasks, its events; tb: the tasks' blocks; cv, C: their calls. -/
structure RunG (B : Nat) (f : Owner) (w : World) (rb : Nat) (P : Nat → Prop) (x : M) (tv ev : Value) (tb : Nat → Nat) (cv : Nat → Value) (C : Nat → List (Option Nat)) : Prop where
  rblk : w.heap[rb]? = some (.cells #[tv, .int .i64 x.steps, ev] 74 (0, 0))
  rown : f rb = rb
  rbase : B ≤ rb
  rP : P rb
  n16 : x.n ≤ 16
  trow : kPtr.R 75 w B (fun k => f k = rb) tv ((List.range x.n).map tb)
  tinj : ∀ t u, t < x.n → u < x.n → tb t = tb u → t = u
  tblk : ∀ t, t < x.n → w.heap[tb t]? = some (.cells #[cv t, .int .i64 (x.at_ t : Int), .bool (x.bg t), .bool (x.waits t)] 80 (0, 0))
  town : ∀ t, t < x.n → f (tb t) = rb
  tbase : ∀ t, t < x.n → B ≤ tb t
  crow : ∀ t, t < x.n → kProc.R 78 w B (fun k => f k = rb) (cv t) (C t)
  clen : ∀ t, t < x.n → (C t).length = x.len t
  erow : k51.R 51 w B (fun k => f k = rb) ev x.events
  play : ∀ t c pb : Nat, t < x.n → (C t)[c]? = some (some pb) → P pb ∧ pb ≠ rb ∧ ∃ turns, x.proc t c = some turns ∧ PlayAt B f w pb turns (x.tk t c)
  noplay : ∀ t c : Nat, t < x.n → (C t)[c]? = some none → x.proc t c = none
  pinj : ∀ t c t' c' pb : Nat, t < x.n → t' < x.n → (C t)[c]? = some (some pb) → (C t')[c']? = some (some pb) → t = t' ∧ c = c'
/-- What is not its own has moved. -/
theorem RunG.mv {B B' : Nat} {o : Nat → Prop} {f f1 : Owner} {w w1 : World} {rb : Nat} {P : Nat → Prop} {x : M} {tv ev : Value} {tb : Nat → Nat} {cv : Nat → Value} {C : Nat → List (Option Nat)} (h : RunG B f w rb P x tv ev tb cv C) (m : Mv B' o f w f1 w1) (hn : ∀ i, P i → ¬ o i) : RunG B f1 w1 rb P x tv ev tb cv C :=
  { rblk := m.blk h.rblk (by rw [h.rown]; exact hn _ h.rP)
    rown := (m.own_at h.rblk).trans h.rown
    rbase := h.rbase
    rP := h.rP
    n16 := h.n16
    trow := m.row h.trow (fun k hk _ => by rw [hk]; exact hn _ h.rP) (fun k hk hl => (m.old k hl).trans hk)
    tinj := h.tinj
    tblk := fun t ht => m.blk (h.tblk t ht) (by rw [h.town t ht]; exact hn _ h.rP)
    town := fun t ht => (m.own_at (h.tblk t ht)).trans (h.town t ht)
    tbase := h.tbase
    crow := fun t ht => m.row (h.crow t ht) (fun k hk _ => by rw [hk]; exact hn _ h.rP) (fun k hk hl => (m.old k hl).trans hk)
    clen := h.clen
    erow := m.row h.erow (fun k hk _ => by rw [hk]; exact hn _ h.rP) (fun k hk hl => (m.old k hl).trans hk)
    play := fun t c pb ht hc => by
      obtain ⟨h1, h2, turns, h3, h4⟩ := h.play t c pb ht hc
      exact ⟨h1, h2, turns, h3, h4.mv m (hn _ h1)⟩
    noplay := h.noplay
    pinj := h.pinj }
theorem RunG.below {B : Nat} {f : Owner} {w w1 : World} {rb : Nat} {P : Nat → Prop} {x : M} {tv ev : Value} {tb : Nat → Nat} {cv : Nat → Value} {C : Nat → List (Option Nat)} (h : RunG B f w rb P x tv ev tb cv C) (hb : Below w.heap.size w w1) : RunG B f w1 rb P x tv ev tb cv C :=
  h.mv (o := fun _ => False) (Mv.of_below (B := w.heap.size) hb (Nat.le_refl _) (fun _ _ => rfl)) (fun _ _ e => e)
theorem RunG.cvs {B : Nat} {f : Owner} {w : World} {rb : Nat} {P : Nat → Prop} {x : M} {tv ev : Value} {tb : Nat → Nat} {cv : Nat → Value} {C : Nat → List (Option Nat)} (h : RunG B f w rb P x tv ev tb cv C) (t : Nat) (ht : t < x.n) : ∃ A c, cv t = .slice A (x.len t) c := by
  obtain ⟨A, c, e⟩ := Kd.R_slice (h.crow t ht)
  rw [h.clen t ht] at e
  exact ⟨A, c, e⟩
/-- The pointer to a task, where the row is read. -/
theorem RunG.tptr {B : Nat} {f : Owner} {w : World} {rb n c : Nat} {A : Option Addr} {P : Nat → Prop} {x : M} {ev : Value} {tb : Nat → Nat} {cv : Nat → Value} {C : Nat → List (Option Nat)} (h : RunG B f w rb P x (.slice A n c) ev tb cv C) (t : Nat) (ht : t < x.n) :
    ∃ ad, A = some ad ∧ w.cell? (ad.add t) = some (.pointer (some ⟨tb t, 0, none⟩)) := by
  have h1 := Kd.reads_of_C (d := 0) (R_C h.trow).1
  have hn := (R_C h.trow).2.1
  rw [List.length_map, List.length_range] at hn
  obtain ⟨ad, e, hc⟩ := h1.at_ (t : Int) (by omega) (by omega)
  refine ⟨ad, e, ?_⟩
  simp only [Int.toNat_natCast, rdOf] at hc
  rw [hc, List.getD_eq_getElem?_getD, List.getElem?_map, List.getElem?_range ht]
  rfl
theorem RunG.tn {B : Nat} {f : Owner} {w : World} {rb n c : Nat} {A : Option Addr} {P : Nat → Prop} {x : M} {ev : Value} {tb : Nat → Nat} {cv : Nat → Value} {C : Nat → List (Option Nat)} (h : RunG B f w rb P x (.slice A n c) ev tb cv C) : n = x.n := by
  have hn := (R_C h.trow).2.1
  rw [List.length_map, List.length_range] at hn
  exact hn.symm
def ints (l : List Nat) : List Int := l.map fun (i : Nat) => (i : Int)
theorem nil36 (w : World) : (binOp .eql 36 (.pointer none) (.pointer none)).run Try.prog w = .ok (.bool true) w := by kernel_rfl
theorem some36 (b : Nat) (w : World) : (binOp .eql 36 (.pointer (some ⟨b, 0, none⟩)) (.pointer none)).run Try.prog w = .ok (.bool false) w := by kernel_rfl
theorem nenil36 (w : World) : (binOp .neq 36 (.pointer none) (.pointer none)).run Try.prog w = .ok (.bool false) w := by kernel_rfl
theorem nesome36 (b : Nat) (w : World) : (binOp .neq 36 (.pointer (some ⟨b, 0, none⟩)) (.pointer none)).run Try.prog w = .ok (.bool true) w := by kernel_rfl
/-- v is a row of the call's own. -/
def RowOf (w0 w : World) (v : Value) (l : List Int) : Prop := (Kd.int .i64).R 3 w w0.heap.size (fun k => w0.heap.size ≤ k) v l ∧ Below w0.heap.size w0 w
set_option maxHeartbeats 4000000 in
set_option maxRecDepth 100000 in
theorem those39 {B : Nat} {f : Owner} {w : World} {rb : Nat} {P : Nat → Prop} {x : M} {tv ev : Value} {tb : Nat → Nat} {cv : Nat → Value} {C : Nat → List (Option Nat)} (h : RunG B f w rb P x tv ev tb cv C) :
    Calls Try.prog 38 #[.pointer (some ⟨rb, 0, none⟩), .func (.func 39) #[] #[]] w (Made (Kd.int .i64) 3 w (ints (M.ready x))) := by
  have q36 := some36
  obtain ⟨At, ct, htv⟩ := Kd.R_slice h.trow
  rw [List.length_map, List.length_range] at htv
  subst htv
  have r0 := blk_cell h.rblk 0
  simp only [List.getElem?_toArray, List.getElem?_cons_zero, List.getElem?_cons_succ] at r0
  have H := Aside0.mk h
  obtain ⟨n, hn⟩ : ∃ n, x.n = n := ⟨_, rfl⟩
  have HN := Aside0.mk hn
  have N16 := Aside0.mk h.n16
  have hn16 : n ≤ 16 := by have := h.n16; omega
  rw [hn] at r0
  clear h hn
  go_enter Try.func38, Try.ntmps38
  go_wp2
  go_loopw [5, 15] (fun v idx wr => ∃ k : Nat, k ≤ n ∧ idx = .int .i64 (k : Int) ∧ Aside0 (RowOf w wr v (ints ((List.range k).filter (M.can x))))) (fun _ idx _ => n - (intOf idx).toNat)
  case atStart => exact ⟨0, Nat.zero_le _, rfl, ⟨⟨Kd.R_nil _ _ _ _ _, Below.refl _ _⟩⟩⟩
  case round =>
    obtain ⟨k, hk, rfl, SK⟩ := hrel
    obtain ⟨Av, cvv, hv⟩ := Kd.R_slice SK.out.1
    subst hv
    by_cases hlt : k < n
    · have hl16 : (ints ((List.range k).filter (M.can x))).length ≤ k := by
        unfold ints
        rw [List.length_map]
        exact Nat.le_trans (List.length_filter_le _ _) (by simp)
      have HK := H.out.below SK.out.2
      have HL16 := Aside0.mk hl16
      have HNK := Aside0.mk (show k < x.n by have := HN.out; omega)
      obtain ⟨ad, ead, x0⟩ := HK.tptr k HNK.out
      subst ead
      obtain ⟨Ac, cc, hcv⟩ := H.out.cvs k HNK.out
      have hb := HK.tblk k HNK.out
      rw [hcv] at hb
      have HL := Aside0.mk (can_walk hb)
      have HSZ := Aside0.mk (show w.heap.size ≤ wr.heap.size from SK.out.2.size)
      obtain ⟨m, hm⟩ : ∃ m, (ints ((List.range k).filter (M.can x))).length = m := ⟨_, rfl⟩
      have HM := Aside0.mk hm
      rw [hm]
      rw [hm] at SK hl16
      clear hm HK hcv hb
      by_cases hp : M.can x k = true
      · have E : Aside0 (ints ((List.range (k + 1)).filter (M.can x)) = ints ((List.range k).filter (M.can x)) ++ [(k : Int)]) := ⟨by
          unfold ints
          rw [List.range_succ, List.filter_append, List.map_append]
          congr 1
          simp [List.filter_cons, hp]⟩
        have hq : (decide (x.at_ k < x.len k) && !x.waits k) = true := hp
        rw [hq] at HL
        clear hp hq
        go_wp2_with (first
          | (go_at_call 39; refine HL.out.mono ?_; rintro e w' ⟨rfl, ⟨q, rfl⟩⟩)
          | (at_builtin; refine Kd.R_append (Kd.int .i64) (w0 := w) w.heap.size rfl (.tmp 23) (.tmp 25) 23 3 (.int .i64 0) 8 rfl Try.underlying23 info3 rfl (by decide) (by decide) (.slice Av m cvv) (ints ((List.range k).filter (M.can x))) (k : Int) [.int .i64 (k : Int)] (fun b => w.heap.size ≤ b) (fun _ => False) rfl rfl rfl (fun _ h => h.elim) (fun b h => Nat.le_trans HSZ.out h) (Kd.R_below SK.out.1 (pw_below_drewN (Below.refl _ _) _)) (pw_below_drewN SK.out.2 _) HSZ.out (by have := HM.out; have := HL16.out; omega) ?_; intro v1 w1 hR hbl hg hat; have SK1 := Aside0.mk (And.intro hR hbl); clear hR hbl hg hat))
        go_roundw
        case rel => exact ⟨k + 1, by omega, by go_num, ⟨by rw [E.out]; exact SK1.out⟩⟩
        case measure => simp [intOf]; omega
      · have E : Aside0 (ints ((List.range (k + 1)).filter (M.can x)) = ints ((List.range k).filter (M.can x))) := ⟨by
          unfold ints
          rw [List.range_succ, List.filter_append, List.map_append]
          simp [List.filter_cons, hp]⟩
        have hq : (decide (x.at_ k < x.len k) && !x.waits k) = false := by rw [Bool.not_eq_true] at hp; exact hp
        rw [hq] at HL
        clear hp hq
        go_wp2_with (go_at_call 39; refine HL.out.mono ?_; rintro e w' ⟨rfl, ⟨q, rfl⟩⟩)
        go_roundw
        case rel => exact ⟨k + 1, by omega, by go_num, ⟨by rw [E.out]; exact ⟨Kd.R_below SK.out.1 (pw_below_drewN (Below.refl _ _) _), pw_below_drewN SK.out.2 _⟩⟩⟩
        case measure => simp [intOf]; omega
    · have hkl : k = n := by omega
      subst hkl
      go_wp2
      go_ret
      exact ⟨_, rfl, by rw [show M.ready x = (List.range k).filter (M.can x) by rw [← HN.out]; rfl]; exact SK.out⟩
set_option maxHeartbeats 4000000 in
set_option maxRecDepth 100000 in
theorem those43 {B : Nat} {f : Owner} {w : World} {rb : Nat} {P : Nat → Prop} {x : M} {tv ev : Value} {tb : Nat → Nat} {cv : Nat → Value} {C : Nat → List (Option Nat)} (h : RunG B f w rb P x tv ev tb cv C) :
    Calls Try.prog 38 #[.pointer (some ⟨rb, 0, none⟩), .func (.func 43) #[] #[]] w (Made (Kd.int .i64) 3 w (ints (M.waiting x))) := by
  have q36 := some36
  obtain ⟨At, ct, htv⟩ := Kd.R_slice h.trow
  rw [List.length_map, List.length_range] at htv
  subst htv
  have r0 := blk_cell h.rblk 0
  simp only [List.getElem?_toArray, List.getElem?_cons_zero, List.getElem?_cons_succ] at r0
  have H := Aside0.mk h
  obtain ⟨n, hn⟩ : ∃ n, x.n = n := ⟨_, rfl⟩
  have HN := Aside0.mk hn
  have N16 := Aside0.mk h.n16
  have hn16 : n ≤ 16 := by have := h.n16; omega
  rw [hn] at r0
  clear h hn
  go_enter Try.func38, Try.ntmps38
  go_wp2
  go_loopw [5, 15] (fun v idx wr => ∃ k : Nat, k ≤ n ∧ idx = .int .i64 (k : Int) ∧ Aside0 (RowOf w wr v (ints ((List.range k).filter (M.waits x))))) (fun _ idx _ => n - (intOf idx).toNat)
  case atStart => exact ⟨0, Nat.zero_le _, rfl, ⟨⟨Kd.R_nil _ _ _ _ _, Below.refl _ _⟩⟩⟩
  case round =>
    obtain ⟨k, hk, rfl, SK⟩ := hrel
    obtain ⟨Av, cvv, hv⟩ := Kd.R_slice SK.out.1
    subst hv
    by_cases hlt : k < n
    · have hl16 : (ints ((List.range k).filter (M.waits x))).length ≤ k := by
        unfold ints
        rw [List.length_map]
        exact Nat.le_trans (List.length_filter_le _ _) (by simp)
      have HK := H.out.below SK.out.2
      have HL16 := Aside0.mk hl16
      have HNK := Aside0.mk (show k < x.n by have := HN.out; omega)
      obtain ⟨ad, ead, x0⟩ := HK.tptr k HNK.out
      subst ead
      obtain ⟨Ac, cc, hcv⟩ := H.out.cvs k HNK.out
      have hb := HK.tblk k HNK.out
      rw [hcv] at hb
      have HL := Aside0.mk (waits_walk hb)
      have HSZ := Aside0.mk (show w.heap.size ≤ wr.heap.size from SK.out.2.size)
      obtain ⟨m, hm⟩ : ∃ m, (ints ((List.range k).filter (M.waits x))).length = m := ⟨_, rfl⟩
      have HM := Aside0.mk hm
      rw [hm]
      rw [hm] at SK hl16
      clear hm HK hcv hb
      by_cases hp : M.waits x k = true
      · have E : Aside0 (ints ((List.range (k + 1)).filter (M.waits x)) = ints ((List.range k).filter (M.waits x)) ++ [(k : Int)]) := ⟨by
          unfold ints
          rw [List.range_succ, List.filter_append, List.map_append]
          congr 1
          simp [List.filter_cons, hp]⟩
        have hq : x.waits k = true := hp
        rw [hq] at HL
        clear hp hq
        go_wp2_with (first
          | (go_at_call 43; refine HL.out.mono ?_; rintro e w' ⟨rfl, ⟨q, rfl⟩⟩)
          | (at_builtin; refine Kd.R_append (Kd.int .i64) (w0 := w) w.heap.size rfl (.tmp 23) (.tmp 25) 23 3 (.int .i64 0) 8 rfl Try.underlying23 info3 rfl (by decide) (by decide) (.slice Av m cvv) (ints ((List.range k).filter (M.waits x))) (k : Int) [.int .i64 (k : Int)] (fun b => w.heap.size ≤ b) (fun _ => False) rfl rfl rfl (fun _ h => h.elim) (fun b h => Nat.le_trans HSZ.out h) (Kd.R_below SK.out.1 (pw_below_drewN (Below.refl _ _) _)) (pw_below_drewN SK.out.2 _) HSZ.out (by have := HM.out; have := HL16.out; omega) ?_; intro v1 w1 hR hbl hg hat; have SK1 := Aside0.mk (And.intro hR hbl); clear hR hbl hg hat))
        go_roundw
        case rel => exact ⟨k + 1, by omega, by go_num, ⟨by rw [E.out]; exact SK1.out⟩⟩
        case measure => simp [intOf]; omega
      · have E : Aside0 (ints ((List.range (k + 1)).filter (M.waits x)) = ints ((List.range k).filter (M.waits x))) := ⟨by
          unfold ints
          rw [List.range_succ, List.filter_append, List.map_append]
          simp [List.filter_cons, hp]⟩
        have hq : x.waits k = false := by rw [Bool.not_eq_true] at hp; exact hp
        rw [hq] at HL
        clear hp hq
        go_wp2_with (go_at_call 43; refine HL.out.mono ?_; rintro e w' ⟨rfl, ⟨q, rfl⟩⟩)
        go_roundw
        case rel => exact ⟨k + 1, by omega, by go_num, ⟨by rw [E.out]; exact ⟨Kd.R_below SK.out.1 (pw_below_drewN (Below.refl _ _) _), pw_below_drewN SK.out.2 _⟩⟩⟩
        case measure => simp [intOf]; omega
    · have hkl : k = n := by omega
      subst hkl
      go_wp2
      go_ret
      exact ⟨_, rfl, by rw [show M.waiting x = (List.range k).filter (M.waits x) by rw [← HN.out]; rfl]; exact SK.out⟩
set_option maxHeartbeats 4000000 in
set_option maxRecDepth 100000 in
theorem those40 {B : Nat} {f : Owner} {w : World} {rb : Nat} {P : Nat → Prop} {x : M} {tv ev : Value} {tb : Nat → Nat} {cv : Nat → Value} {C : Nat → List (Option Nat)} (h : RunG B f w rb P x tv ev tb cv C) :
    Calls Try.prog 38 #[.pointer (some ⟨rb, 0, none⟩), .func (.func 40) #[] #[]] w (Made (Kd.int .i64) 3 w (ints (M.left x))) := by
  have q36 := some36
  obtain ⟨At, ct, htv⟩ := Kd.R_slice h.trow
  rw [List.length_map, List.length_range] at htv
  subst htv
  have r0 := blk_cell h.rblk 0
  simp only [List.getElem?_toArray, List.getElem?_cons_zero, List.getElem?_cons_succ] at r0
  have H := Aside0.mk h
  obtain ⟨n, hn⟩ : ∃ n, x.n = n := ⟨_, rfl⟩
  have HN := Aside0.mk hn
  have N16 := Aside0.mk h.n16
  have hn16 : n ≤ 16 := by have := h.n16; omega
  rw [hn] at r0
  clear h hn
  go_enter Try.func38, Try.ntmps38
  go_wp2
  go_loopw [5, 15] (fun v idx wr => ∃ k : Nat, k ≤ n ∧ idx = .int .i64 (k : Int) ∧ Aside0 (RowOf w wr v (ints ((List.range k).filter (M.more x))))) (fun _ idx _ => n - (intOf idx).toNat)
  case atStart => exact ⟨0, Nat.zero_le _, rfl, ⟨⟨Kd.R_nil _ _ _ _ _, Below.refl _ _⟩⟩⟩
  case round =>
    obtain ⟨k, hk, rfl, SK⟩ := hrel
    obtain ⟨Av, cvv, hv⟩ := Kd.R_slice SK.out.1
    subst hv
    by_cases hlt : k < n
    · have hl16 : (ints ((List.range k).filter (M.more x))).length ≤ k := by
        unfold ints
        rw [List.length_map]
        exact Nat.le_trans (List.length_filter_le _ _) (by simp)
      have HK := H.out.below SK.out.2
      have HL16 := Aside0.mk hl16
      have HNK := Aside0.mk (show k < x.n by have := HN.out; omega)
      obtain ⟨ad, ead, x0⟩ := HK.tptr k HNK.out
      subst ead
      obtain ⟨Ac, cc, hcv⟩ := H.out.cvs k HNK.out
      have hb := HK.tblk k HNK.out
      rw [hcv] at hb
      have HL := Aside0.mk (left_walk hb)
      have HSZ := Aside0.mk (show w.heap.size ≤ wr.heap.size from SK.out.2.size)
      obtain ⟨m, hm⟩ : ∃ m, (ints ((List.range k).filter (M.more x))).length = m := ⟨_, rfl⟩
      have HM := Aside0.mk hm
      rw [hm]
      rw [hm] at SK hl16
      clear hm HK hcv hb
      by_cases hp : M.more x k = true
      · have E : Aside0 (ints ((List.range (k + 1)).filter (M.more x)) = ints ((List.range k).filter (M.more x)) ++ [(k : Int)]) := ⟨by
          unfold ints
          rw [List.range_succ, List.filter_append, List.map_append]
          congr 1
          simp [List.filter_cons, hp]⟩
        have hq : decide (x.at_ k < x.len k) = true := hp
        rw [hq] at HL
        clear hp hq
        go_wp2_with (first
          | (go_at_call 40; refine HL.out.mono ?_; rintro e w' ⟨rfl, ⟨q, rfl⟩⟩)
          | (at_builtin; refine Kd.R_append (Kd.int .i64) (w0 := w) w.heap.size rfl (.tmp 23) (.tmp 25) 23 3 (.int .i64 0) 8 rfl Try.underlying23 info3 rfl (by decide) (by decide) (.slice Av m cvv) (ints ((List.range k).filter (M.more x))) (k : Int) [.int .i64 (k : Int)] (fun b => w.heap.size ≤ b) (fun _ => False) rfl rfl rfl (fun _ h => h.elim) (fun b h => Nat.le_trans HSZ.out h) (Kd.R_below SK.out.1 (pw_below_drewN (Below.refl _ _) _)) (pw_below_drewN SK.out.2 _) HSZ.out (by have := HM.out; have := HL16.out; omega) ?_; intro v1 w1 hR hbl hg hat; have SK1 := Aside0.mk (And.intro hR hbl); clear hR hbl hg hat))
        go_roundw
        case rel => exact ⟨k + 1, by omega, by go_num, ⟨by rw [E.out]; exact SK1.out⟩⟩
        case measure => simp [intOf]; omega
      · have E : Aside0 (ints ((List.range (k + 1)).filter (M.more x)) = ints ((List.range k).filter (M.more x))) := ⟨by
          unfold ints
          rw [List.range_succ, List.filter_append, List.map_append]
          simp [List.filter_cons, hp]⟩
        have hq : decide (x.at_ k < x.len k) = false := by rw [Bool.not_eq_true] at hp; exact hp
        rw [hq] at HL
        clear hp hq
        go_wp2_with (go_at_call 40; refine HL.out.mono ?_; rintro e w' ⟨rfl, ⟨q, rfl⟩⟩)
        go_roundw
        case rel => exact ⟨k + 1, by omega, by go_num, ⟨by rw [E.out]; exact ⟨Kd.R_below SK.out.1 (pw_below_drewN (Below.refl _ _) _), pw_below_drewN SK.out.2 _⟩⟩⟩
        case measure => simp [intOf]; omega
    · have hkl : k = n := by omega
      subst hkl
      go_wp2
      go_ret
      exact ⟨_, rfl, by rw [show M.left x = (List.range k).filter (M.more x) by rw [← HN.out]; rfl]; exact SK.out⟩
theorem info78 : (Try.prog.info? 78).map (fun i => (i.zero, i.size, i.bytes)) = some (some .nilIface, 1, 16) := by kernel_rfl
theorem info51' : (Try.prog.info? 51).map (fun i => (i.zero, i.size, i.bytes)) = some (some (.agg #[.int .i64 0, .int .i64 0, .int .i64 0, .bool false]), 4, 32) := by kernel_rfl
/-- An empty literal. -/
theorem made0 {α : Type} (d : Kd α) (e : Nat) (w : World) : d.R e (w.alloc (.cells #[] e)) w.heap.size (fun k => w.heap.size ≤ k) (.slice (some ⟨w.heap.size, 0, none⟩) 0 0) [] :=
  ⟨fun k hk => by simp [Value.ownBlock] at hk; omega, [], World.ownsRow_made w #[] 0 (Nat.le_refl _) (by simp [maxLen]) (by simp), Reps.none _ _⟩
set_option maxHeartbeats 1000000 in
theorem clone37 {A : Option Addr} {n c : Nat} {xs : List (Option Nat)} {w : World} (hC : (kProc).C w A n xs) (hc : n ≤ c) (hl : n * 16 ≤ 140737488355328) :
    Calls Try.prog 37 #[.slice A n c] w (Made (kProc) 78 w xs) := by
  have qT : ∀ (w : World) (a : Option Addr) (n c n' c' : Nat), (binOp .eql 63 (.slice a n c) (.slice none n' c')).run Try.prog w = .ok (.bool a.isNone) w := fun w a n c n' c' => Go.Lib.run_eql_slice_nil w _ _ a n c n' c' Try.underlying63
  have HC := Aside0.mk hC
  cases A with
  | none =>
    have hn : n = 0 := by
      rcases Nat.eq_zero_or_pos n with h | h
      · exact h
      · obtain ⟨ad, e, _⟩ := hC.2.2 h; simp at e
    subst hn
    have hx : xs = [] := List.length_eq_zero_iff.1 hC.1
    subst hx
    clear hC
    go_enter Try.func37, Try.ntmps37
    go_wp2
    go_ret
    exact ⟨_, rfl, Kd.R_nil _ _ _ _ _, Below.refl _ _⟩
  | some ad =>
    clear hC
    go_enter Try.func37, Try.ntmps37
    go_wp2_with (at_builtin; refine Kd.R_append_rows (kProc) (w0 := w) w.heap.size rfl (.tmp 5) (.tmp 6) 63 78 (.nilIface) 16 rfl Try.underlying63 info78 rfl (by decide) (by decide) (.slice (some ⟨w.heap.size, 0, none⟩) 0 0) [] xs (some ad) n c (fun k => w.heap.size ≤ k) (fun _ => False) rfl rfl (made0 _ _ w) (Kd.C_below HC.out (below_alloc (Below.refl _ _) _)) (fun x cs h => h) (fun k h => h.elim) (fun k h => by simp at h; omega) (below_alloc (Below.refl _ _) _) (by simp) (by simpa using hl) ?_; intro v1 w1 hR hb hg hat; have HR := Aside0.mk hR; have HB := Aside0.mk hb; clear hR hb hg hat)
    go_ret
    exact ⟨_, rfl, HR.out, HB.out⟩
set_option maxHeartbeats 1000000 in
theorem clone42 {A : Option Addr} {n c : Nat} {xs : List S51} {w : World} (hC : (k51).C w A n xs) (hc : n ≤ c) (hl : n * 32 ≤ 140737488355328) :
    Calls Try.prog 42 #[.slice A n c] w (Made (k51) 51 w xs) := by
  have qT : ∀ (w : World) (a : Option Addr) (n c n' c' : Nat), (binOp .eql 47 (.slice a n c) (.slice none n' c')).run Try.prog w = .ok (.bool a.isNone) w := fun w a n c n' c' => Go.Lib.run_eql_slice_nil w _ _ a n c n' c' Try.underlying47
  have HC := Aside0.mk hC
  cases A with
  | none =>
    have hn : n = 0 := by
      rcases Nat.eq_zero_or_pos n with h | h
      · exact h
      · obtain ⟨ad, e, _⟩ := hC.2.2 h; simp at e
    subst hn
    have hx : xs = [] := List.length_eq_zero_iff.1 hC.1
    subst hx
    clear hC
    go_enter Try.func42, Try.ntmps42
    go_wp2
    go_ret
    exact ⟨_, rfl, Kd.R_nil _ _ _ _ _, Below.refl _ _⟩
  | some ad =>
    clear hC
    go_enter Try.func42, Try.ntmps42
    go_wp2_with (at_builtin; refine Kd.R_append_rows (k51) (w0 := w) w.heap.size rfl (.tmp 5) (.tmp 6) 47 51 (.agg #[.int .i64 0, .int .i64 0, .int .i64 0, .bool false]) 32 rfl Try.underlying47 info51' rfl (by decide) (by decide) (.slice (some ⟨w.heap.size, 0, none⟩) 0 0) [] xs (some ad) n c (fun k => w.heap.size ≤ k) (fun _ => False) rfl rfl (made0 _ _ w) (Kd.C_below HC.out (below_alloc (Below.refl _ _) _)) (fun x cs h => h) (fun k h => h.elim) (fun k h => by simp at h; omega) (below_alloc (Below.refl _ _) _) (by simp) (by simpa using hl) ?_; intro v1 w1 hR hb hg hat; have HR := Aside0.mk hR; have HB := Aside0.mk hb; clear hR hb hg hat)
    go_ret
    exact ⟨_, rfl, HR.out, HB.out⟩
theorem beq0 (m : Nat) : ((m : Int) == 0) = (m == 0) := by rw [Bool.eq_iff_iff]; simp only [beq_iff_eq]; omega
set_option maxHeartbeats 1000000 in
theorem ready_walk {B : Nat} {f : Owner} {w : World} {rb : Nat} {P : Nat → Prop} {x : M} {tv ev : Value} {tb : Nat → Nat} {cv : Nat → Value} {C : Nat → List (Option Nat)} (h : RunG B f w rb P x tv ev tb cv C) :
    Calls Try.prog 20 #[.pointer (some ⟨rb, 0, none⟩)] w (Made (Kd.int .i64) 3 w (ints x.ready)) := by
  have H := Aside0.mk (those39 h)
  clear h
  go_enter Try.func20, Try.ntmps20
  go_wp2_with (go_at_call 38; refine H.out.mono ?_; rintro e w' ⟨v, rfl, hR, hb⟩; have HR := Aside0.mk (And.intro hR hb); clear hR hb)
  go_ret
  exact ⟨_, rfl, HR.out⟩
set_option maxHeartbeats 1000000 in
theorem waiting_walk {B : Nat} {f : Owner} {w : World} {rb : Nat} {P : Nat → Prop} {x : M} {tv ev : Value} {tb : Nat → Nat} {cv : Nat → Value} {C : Nat → List (Option Nat)} (h : RunG B f w rb P x tv ev tb cv C) :
    Calls Try.prog 24 #[.pointer (some ⟨rb, 0, none⟩)] w (Made (Kd.int .i64) 3 w (ints x.waiting)) := by
  have H := Aside0.mk (those43 h)
  clear h
  go_enter Try.func24, Try.ntmps24
  go_wp2_with (go_at_call 38; refine H.out.mono ?_; rintro e w' ⟨v, rfl, hR, hb⟩; have HR := Aside0.mk (And.intro hR hb); clear hR hb)
  go_ret
  exact ⟨_, rfl, HR.out⟩
def Says (w : World) (b : Bool) (en : Ending) (w' : World) : Prop := en = .returned (.bool b) ∧ Below w.heap.size w w'
theorem len_ints (l : List Nat) : (ints l).length = l.length := by simp [ints]
set_option maxHeartbeats 1000000 in
theorem done_walk {B : Nat} {f : Owner} {w : World} {rb : Nat} {P : Nat → Prop} {x : M} {tv ev : Value} {tb : Nat → Nat} {cv : Nat → Value} {C : Nat → List (Option Nat)} (h : RunG B f w rb P x tv ev tb cv C) :
    Calls Try.prog 28 #[.pointer (some ⟨rb, 0, none⟩)] w (Says w x.done) := by
  have q36 := nesome36
  have H := Aside0.mk (those40 h)
  clear h
  unfold M.done
  obtain ⟨m, hm⟩ : ∃ m, x.left.length = m := ⟨_, rfl⟩
  have HM := Aside0.mk ((len_ints _).trans hm)
  rw [hm]
  clear hm
  go_enter Try.func28, Try.ntmps28
  go_wp2_with (go_at_call 38; refine H.out.mono ?_; rintro e w' ⟨v, rfl, hR, hb⟩; obtain ⟨A1, c1, hv⟩ := Kd.R_slice hR; rw [HM.out] at hv; subst hv; have HR := Aside0.mk (And.intro hR hb); clear hR hb)
  go_ret
  exact ⟨by first | rfl | simp [beq0], HR.out.2⟩
set_option maxHeartbeats 1000000 in
theorem stuck_walk {B : Nat} {f : Owner} {w : World} {rb : Nat} {P : Nat → Prop} {x : M} {tv ev : Value} {tb : Nat → Nat} {cv : Nat → Value} {C : Nat → List (Option Nat)} (h : RunG B f w rb P x tv ev tb cv C) :
    Calls Try.prog 25 #[.pointer (some ⟨rb, 0, none⟩)] w (Says w x.stuck) := by
  have q36 := nesome36
  have HD := Aside0.mk (done_walk h)
  have HH := Aside0.mk h
  clear h
  unfold M.stuck
  obtain ⟨m, hm⟩ : ∃ m, x.ready.length = m := ⟨_, rfl⟩
  have HM := Aside0.mk ((len_ints _).trans hm)
  rw [hm]
  clear hm
  cases hd : x.done with
  | true =>
    rw [hd] at HD
    clear hd
    go_enter Try.func25, Try.ntmps25
    go_wp2_with (go_at_call 28; refine HD.out.mono ?_; rintro e w' ⟨rfl, hb⟩; have HB := Aside0.mk hb; clear hb)
    go_ret
    exact ⟨rfl, HB.out⟩
  | false =>
    rw [hd] at HD
    clear hd
    go_enter Try.func25, Try.ntmps25
    go_wp2_with (first | (go_at_call 28; refine HD.out.mono ?_; rintro e w' ⟨rfl, hb⟩; have HB := Aside0.mk hb; clear hb) | (go_at_call 20; refine (ready_walk (HH.out.below HB.out)).mono ?_; rintro e w2 ⟨v, rfl, hR, hb2⟩; obtain ⟨A1, c1, hv⟩ := Kd.R_slice hR; rw [HM.out] at hv; subst hv; have HB2 := Aside0.mk hb2; clear hR hb2))
    go_ret
    exact ⟨by first | rfl | simp [beq0], HB.out.trans (HB2.out.mono HB.out.size)⟩
set_option maxHeartbeats 1000000 in
theorem steps_walk {B : Nat} {f : Owner} {w : World} {rb : Nat} {P : Nat → Prop} {x : M} {tv ev : Value} {tb : Nat → Nat} {cv : Nat → Value} {C : Nat → List (Option Nat)} (h : RunG B f w rb P x tv ev tb cv C) :
    Calls Try.prog 23 #[.pointer (some ⟨rb, 0, none⟩)] w fun e w' => e = .returned (.int .i64 x.steps) ∧ w = w' := by
  have q36 := some36
  have r1 := blk_cell h.rblk 1
  simp only [List.getElem?_toArray, List.getElem?_cons_zero, List.getElem?_cons_succ] at r1
  clear h
  go_enter Try.func23, Try.ntmps23
  go_wp2
  go_ret
  exact ⟨rfl, rfl⟩
set_option maxHeartbeats 1000000 in
theorem events_walk {B : Nat} {f : Owner} {w : World} {rb : Nat} {P : Nat → Prop} {x : M} {tv ev : Value} {tb : Nat → Nat} {cv : Nat → Value} {C : Nat → List (Option Nat)} (h : RunG B f w rb P x tv ev tb cv C) (hl : x.events.length * 32 ≤ 140737488355328) :
    Calls Try.prog 22 #[.pointer (some ⟨rb, 0, none⟩)] w (Made k51 51 w x.events) := by
  have q36 := some36
  obtain ⟨Ae, ce, hev⟩ := Kd.R_slice h.erow
  subst hev
  have r2 := blk_cell h.rblk 2
  simp only [List.getElem?_toArray, List.getElem?_cons_zero, List.getElem?_cons_succ] at r2
  have HC := Aside0.mk (R_C h.erow)
  have HL := Aside0.mk hl
  clear h hl
  go_enter Try.func22, Try.ntmps22
  go_wp2_with (go_at_call 42; refine (clone42 HC.out.1 HC.out.2.2 HL.out).mono ?_; rintro e w' ⟨v, rfl, hR⟩; have HR := Aside0.mk hR; clear hR)
  go_ret
  exact ⟨_, rfl, HR.out⟩
set_option maxHeartbeats 1000000 in
theorem taken_walk {B : Nat} {f : Owner} {w : World} {pb : Nat} {turns : List S26} {taken : List Int} (H : PlayAt B f w pb turns taken) (hl : taken.length * 8 ≤ 140737488355328) :
    Calls Try.prog 15 #[.pointer (some ⟨pb, 0, none⟩)] w (Made (Kd.int .i64) 3 w taken) := by
  have q27 := some27
  obtain ⟨⟨tv, kv, hb, ht, hk⟩, hf, hB⟩ := H
  obtain ⟨Ak, ck, rfl⟩ := Kd.R_slice hk
  have c1 := blk_cell hb 1
  simp only [List.getElem?_toArray, List.getElem?_cons_zero, List.getElem?_cons_succ] at c1
  have HC := Aside0.mk (R_C hk)
  have HL := Aside0.mk hl
  clear hb ht hk hl
  go_enter Try.func15, Try.ntmps15
  go_wp2_with (go_at_call 34; refine (clone34 HC.out.1 HC.out.2.2 HL.out).mono ?_; rintro e w' ⟨v, rfl, hR⟩; have HR := Aside0.mk hR; clear hR)
  go_ret
  exact ⟨_, rfl, HR.out⟩
/-! ### What a store, an append, a step does to the runner in memory -/
def upd {α : Type} (g : Nat → α) (t : Nat) (v : α) : Nat → α := fun u => if u = t then v else g u
theorem upd_at {α : Type} (g : Nat → α) (t : Nat) (v : α) : upd g t v t = v := if_pos rfl
theorem upd_ne {α : Type} (g : Nat → α) (t : Nat) (v : α) (u : Nat) (h : u ≠ t) : upd g t v u = g u := if_neg h
theorem upd_self {α : Type} (g : Nat → α) (t : Nat) : upd g t (g t) = g := by
  funext u
  unfold upd
  split
  · rename_i h; rw [h]
  · rfl
/-- Rows of two types are apart. -/
theorem R_apart {α β : Type} {d : Kd α} {d' : Kd β} {e e' : Nat} {w : World} {b b' : Nat} {ok ok' : Nat → Prop} {v v' : Value} {xs : List α} {ys : List β} (h : d.R e w b ok v xs) (h' : d'.R e' w b' ok' v' ys) (ht : ∀ q, q ∈ e :: d.E → q ≠ e') :
    d.R e w b (fun k => ok k ∧ some k ≠ v'.ownBlock) v xs :=
  Kd.R_mono (Kd.R_bound h) (fun k hk => ⟨hk.1, fun e2 => by
    obtain ⟨_, _, _, q, hq, cells, hc⟩ := hk
    obtain ⟨inner, ho⟩ := Kd.R_own h'
    obtain ⟨cells', hc'⟩ := own_typed ho k e2.symm
    rw [hc] at hc'
    injection hc' with hc'
    injection hc' with _ hc'
    exact ht q hq hc'⟩)
section
variable {B : Nat} {f : Owner} {w : World} {rb : Nat} {P : Nat → Prop} {x : M} {tv ev : Value} {tb : Nat → Nat} {cv : Nat → Value} {C : Nat → List (Option Nat)}
theorem RunG.rne (h : RunG B f w rb P x tv ev tb cv C) (t : Nat) (ht : t < x.n) : rb ≠ tb t := blk_ne h.rblk (h.tblk t ht) (by decide)
/-- A cell of a task is written. -/
theorem RunG.setTask (h : RunG B f w rb P x tv ev tb cv C) (t : Nat) (ht : t < x.n) (i : Nat) (u : Value) (a : Nat) (b wt : Bool)
    (hp : (#[cv t, .int .i64 (x.at_ t : Int), .bool (x.bg t), .bool (x.waits t)] : Array Value).setIfInBounds i u = #[cv t, .int .i64 (a : Int), .bool b, .bool wt]) :
    RunG B f (w.setCell ⟨tb t, i, none⟩ u) rb P { x with at_ := upd x.at_ t a, bg := upd x.bg t b, waits := upd x.waits t wt } tv ev tb cv C ∧ Mv B (· = rb) f w f (w.setCell ⟨tb t, i, none⟩ u) := by
  have hb := h.tblk t ht
  have m : Mv B (· = rb) f w f (w.setCell ⟨tb t, i, none⟩ u) := Mv.set (Mv.refl _ _ _ _) ⟨tb t, i, none⟩ u (h.tbase t ht) (fun _ => h.town t ht)
  refine ⟨?_, m⟩
  exact
    { rblk := blk_far h.rblk (p := ⟨tb t, i, none⟩) (h.rne t ht) u
      rown := h.rown
      rbase := h.rbase
      rP := h.rP
      n16 := h.n16
      trow := Kd.R_set h.trow hb (by decide) i u
      tinj := h.tinj
      tblk := fun s hs => by
        by_cases e : s = t
        · subst e
          simp only [upd_at]
          exact blk_put hb i u hp
        · simp only [upd_ne _ _ _ _ e]
          exact blk_far (h.tblk s hs) (p := ⟨tb t, i, none⟩) (fun e2 => e (h.tinj s t hs ht e2)) u
      town := h.town
      tbase := h.tbase
      crow := fun s hs => Kd.R_set (h.crow s hs) hb (by decide) i u
      clen := h.clen
      erow := Kd.R_set h.erow hb (by decide) i u
      play := fun s c pb hs hc => by
        obtain ⟨h1, h2, turns, h3, h4⟩ := h.play s c pb hs hc
        exact ⟨h1, h2, turns, h3, h4.mv m h2⟩
      noplay := h.noplay
      pinj := h.pinj }
/-- The steps are counted. -/
theorem RunG.setSteps (h : RunG B f w rb P x tv ev tb cv C) (s : Int) :
    RunG B f (w.setCell ⟨rb, 1, none⟩ (.int .i64 s)) rb P { x with steps := s } tv ev tb cv C ∧ Mv B (· = rb) f w f (w.setCell ⟨rb, 1, none⟩ (.int .i64 s)) := by
  have hb := h.rblk
  have m : Mv B (· = rb) f w f (w.setCell ⟨rb, 1, none⟩ (.int .i64 s)) := Mv.set (Mv.refl _ _ _ _) ⟨rb, 1, none⟩ _ h.rbase (fun _ => h.rown)
  refine ⟨?_, m⟩
  exact
    { rblk := blk_put hb 1 _ rfl
      rown := h.rown
      rbase := h.rbase
      rP := h.rP
      n16 := h.n16
      trow := Kd.R_set h.trow hb (by decide) 1 _
      tinj := h.tinj
      tblk := fun t ht => blk_far (h.tblk t ht) (p := ⟨rb, 1, none⟩) (Ne.symm (h.rne t ht)) _
      town := h.town
      tbase := h.tbase
      crow := fun s hs => Kd.R_set (h.crow s hs) hb (by decide) 1 _
      clen := h.clen
      erow := Kd.R_set h.erow hb (by decide) 1 _
      play := fun s c pb hs hc => by
        obtain ⟨h1, h2, turns, h3, h4⟩ := h.play s c pb hs hc
        exact ⟨h1, h2, turns, h3, h4.mv m h2⟩
      noplay := h.noplay
      pinj := h.pinj }
/-- An event is noted: o, the box of what is appended; v1, the events' row behind it. -/
theorem RunG.noted (h : RunG B f w rb P x tv ev tb cv C) (q : Nat) {w1 : World} {v1 : Value} {es : List S51}
    (hR : k51.R 51 w1 B (fun k => owns f w.heap.size rb k = rb) v1 es) (hg : (w.drewN q).grownBy w1 ev.ownBlock) :
    RunG B (owns f w.heap.size rb) (w1.setCell ⟨rb, 2, none⟩ v1) rb P { x with events := es } tv v1 tb cv C ∧ Mv B (· = rb) f w (owns f w.heap.size rb) (w1.setCell ⟨rb, 2, none⟩ v1) := by
  have hlt := blk_lt h.rblk
  have hrb := h.rbase
  have hBs : B ≤ w.heap.size := by omega
  have m0 : Mv B (· = rb) f w (owns f w.heap.size rb) (w.drewN q) := ((Mv.refl B (· = rb) f w).drewN q).own (fun k hk => owns_old f _ _ k hk)
  have hev := Kd.R_bound h.erow
  have m1 : Mv B (· = rb) f w (owns f w.heap.size rb) w1 := Mv.grown m0 hBs hg (fun k hk2 => ⟨(hev.1 k hk2).2.1, fun _ => (hev.1 k hk2).1⟩)
  have ho : owns f w.heap.size rb rb = rb := (owns_old f _ _ rb hlt).trans h.rown
  have m2 : Mv B (· = rb) f w (owns f w.heap.size rb) (w1.setCell ⟨rb, 2, none⟩ v1) := Mv.set m1 ⟨rb, 2, none⟩ v1 hrb (fun _ => h.rown)
  refine ⟨?_, m2⟩
  have nb : ∀ {g : Nat} {t : TypeId} {cells : Array Value}, w.heap[g]? = some (.cells cells t (0, 0)) → (51 : Nat) ≠ t → w1.heap[g]? = some (.cells cells t (0, 0)) := fun hg0 ht =>
    blk_grown (blk_drewN hg0 q) hg (Kd.R_ne h.erow hg0 ht)
  have hrb1 := nb h.rblk (by decide)
  have row : ∀ {α : Type} {d : Kd α} {e : Nat} {v : Value} {xs : List α}, d.R e w B (fun k => f k = rb) v xs → (∀ q, q ∈ e :: d.E → q ≠ 51) → (∀ q, q ∈ e :: d.E → q ≠ 74) → d.R e (w1.setCell ⟨rb, 2, none⟩ v1) B (fun k => owns f w.heap.size rb k = rb) v xs := by
    intro α d e v xs hr h51 h74
    have h1 := R_apart hr h.erow h51
    have h2 : d.R e (w.drewN q) B (fun k => owns f w.heap.size rb k = rb ∧ some k ≠ ev.ownBlock) v xs :=
      Kd.R_below (Kd.R_mono (Kd.R_bound h1) (fun k hk => ⟨(owns_old f _ _ k hk.2.2.1).trans hk.1.1, hk.1.2⟩)) (pw_below_drewN (Below.refl _ _) q)
    exact Kd.R_set (Kd.R_mono (Kd.R_grown h2 hg (fun k hk => hk.2)) (fun k hk => hk.1)) hrb1 h74 2 v1
  exact
    { rblk := blk_put hrb1 2 v1 rfl
      rown := ho
      rbase := hrb
      rP := h.rP
      n16 := h.n16
      trow := row h.trow (by decide) (by decide)
      tinj := h.tinj
      tblk := fun t ht => blk_far (nb (h.tblk t ht) (by decide)) (p := ⟨rb, 2, none⟩) (Ne.symm (h.rne t ht)) _
      town := fun t ht => (owns_old f _ _ _ (blk_lt (h.tblk t ht))).trans (h.town t ht)
      tbase := h.tbase
      crow := fun s hs => row (h.crow s hs) (by decide) (by decide)
      clen := h.clen
      erow := Kd.R_set hR hrb1 (by decide) 2 v1
      play := fun s c pb hs hc => by
        obtain ⟨h1, h2, turns, h3, h4⟩ := h.play s c pb hs hc
        exact ⟨h1, h2, turns, h3, h4.mv m2 h2⟩
      noplay := h.noplay
      pinj := h.pinj }
/-- One of its plays has taken a step. -/
theorem RunG.stepped (h : RunG B f w rb P x tv ev tb cv C) (t c pb : Nat) (ht : t < x.n) (hc : (C t)[c]? = some (some pb)) {f1 : Owner} {w1 : World} (m : Mv B (· = pb) f w f1 w1) {turns : List S26} {l : List Int} (hp : PlayAt B f1 w1 pb turns l) (hx : x.proc t c = some turns) :
    RunG B f1 w1 rb P { x with tk := fun s d => if s = t ∧ d = c then l else x.tk s d } tv ev tb cv C := by
  obtain ⟨hPp, hne, _⟩ := h.play t c pb ht hc
  have hr : ¬ rb = pb := fun e => hne e.symm
  exact
    { rblk := m.blk h.rblk (by rw [h.rown]; exact hr)
      rown := (m.own_at h.rblk).trans h.rown
      rbase := h.rbase
      rP := h.rP
      n16 := h.n16
      trow := m.row h.trow (fun k hk _ => by rw [hk]; exact hr) (fun k hk hl => (m.old k hl).trans hk)
      tinj := h.tinj
      tblk := fun s hs => m.blk (h.tblk s hs) (by rw [h.town s hs]; exact hr)
      town := fun s hs => (m.own_at (h.tblk s hs)).trans (h.town s hs)
      tbase := h.tbase
      crow := fun s hs => m.row (h.crow s hs) (fun k hk _ => by rw [hk]; exact hr) (fun k hk hl => (m.old k hl).trans hk)
      clen := h.clen
      erow := m.row h.erow (fun k hk _ => by rw [hk]; exact hr) (fun k hk hl => (m.old k hl).trans hk)
      play := fun s d pb' hs hd => by
        obtain ⟨h1, h2, turns', h3, h4⟩ := h.play s d pb' hs hd
        by_cases e : s = t ∧ d = c
        · obtain ⟨rfl, rfl⟩ := e
          rw [hc] at hd
          injection hd with hd
          injection hd with hd
          subst hd
          exact ⟨h1, h2, turns, hx, by simp only [and_self, if_true]; exact hp⟩
        · refine ⟨h1, h2, turns', h3, ?_⟩
          simp only [if_neg e]
          exact h4.mv m (fun e2 => e (by
            subst e2
            have := h.pinj s d t c pb' hs ht hd hc
            exact this))
      noplay := h.noplay
      pinj := h.pinj }
end
/-- The runner is as told; o's blocks may have been written. -/
def After (B : Nat) (f : Owner) (w : World) (rb : Nat) (P : Nat → Prop) (x : M) (tv : Value) (tb : Nat → Nat) (cv : Nat → Value) (C : Nat → List (Option Nat)) (o : Nat → Prop) (w' : World) : Prop := ∃ f' ev', RunG B f' w' rb P x tv ev' tb cv C ∧ Mv B o f w f' w'
def Quits (p : World → Prop) (en : Ending) (w' : World) : Prop := en = .returned (.tuple #[]) ∧ p w'
set_option maxHeartbeats 4000000 in
set_option maxRecDepth 100000 in
theorem note_walk {B : Nat} {f : Owner} {w : World} {rb : Nat} {P : Nat → Prop} {x : M} {tv ev : Value} {tb : Nat → Nat} {cv : Nat → Value} {C : Nat → List (Option Nat)} (h : RunG B f w rb P x tv ev tb cv C) (t : Nat) (ht : t < x.n) (b : Bool) (hl : (x.events.length + 1) * 32 ≤ 140737488355328) :
    Calls Try.prog 50 #[.pointer (some ⟨rb, 0, none⟩), .int .i64 (t : Int), .bool b] w (Quits (After B f w rb P { x with events := x.events ++ [⟨x.steps, t, x.at_ t, b⟩] } tv tb cv C (· = rb))) := by
  obtain ⟨At, ct, htv⟩ := Kd.R_slice h.trow
  rw [List.length_map, List.length_range] at htv
  subst htv
  obtain ⟨Ae, ce, hev⟩ := Kd.R_slice h.erow
  subst hev
  obtain ⟨ad, ead, p0⟩ := h.tptr t ht
  subst ead
  have r0 := blk_cell h.rblk 0
  have r1 := blk_cell h.rblk 1
  have r2 := blk_cell h.rblk 2
  have a1 := blk_cell (h.tblk t ht) 1
  simp only [List.getElem?_toArray, List.getElem?_cons_zero, List.getElem?_cons_succ] at r0 r1 r2 a1
  obtain ⟨bt, hbt⟩ : ∃ bt, tb t = bt := ⟨_, rfl⟩
  obtain ⟨a, ha⟩ : ∃ a, x.at_ t = a := ⟨_, rfl⟩
  obtain ⟨st, hst⟩ : ∃ st, x.steps = st := ⟨_, rfl⟩
  obtain ⟨n, hn⟩ : ∃ n, x.n = n := ⟨_, rfl⟩
  obtain ⟨m, hm⟩ : ∃ m, x.events.length = m := ⟨_, rfl⟩
  rw [hbt, ha] at a1
  rw [hbt] at p0
  rw [hst] at r1
  rw [hn] at r0 ht
  rw [hm] at r2
  have H := Aside0.mk h
  have HE := Aside0.mk (And.intro ha hst)
  have HM := Aside0.mk hm
  have HL := Aside0.mk hl
  have HT := Aside0.mk (show t < x.n by rw [hn]; exact ht)
  have ix0 : decide ((t : Int) < (n : Int)) = true := decide_eq_true (by omega)
  have hBs : Aside0 (B ≤ w.heap.size) := ⟨by have := blk_lt h.rblk; have := h.rbase; omega⟩
  have RE : Aside0 (k51.R 51 w.drew B (fun k => owns f w.heap.size rb k = rb) (.slice Ae m ce) x.events) := ⟨by
    have h1 := Kd.R_bound h.erow
    rw [hm] at h1
    exact Kd.R_mono h1 (fun k hk => (owns_old f _ _ k hk.2.2.1).trans hk.1)⟩
  have hn1 : n ≤ 16 := by have := h.n16; omega
  clear h hbt ha hst hn hm hl
  go_enter Try.func50, Try.ntmps50
  go_wp2
  refine start_ (n := 27) (S := fun w' => w'.cell? ⟨rb, 0, none⟩ = some (.slice (some ad) n ct) ∧ w'.cell? ⟨rb, 1, none⟩ = some (.int .i64 st) ∧ w'.cell? ⟨rb, 2, none⟩ = some (.slice Ae m ce) ∧ w'.cell? (ad.add t) = some (.pointer (some ⟨bt, 0, none⟩)) ∧ w'.cell? ⟨bt, 1, none⟩ = some (.int .i64 (a : Int))) (ds := [23, 26]) #[F,F,F,F,F,F,F,F,F,F,F,F,F,F,F,F,F,F,F,F,F,F,F,F,F,F,F] (by kernel_rfl) rfl rfl (⟨r0, r1, r2, p0, a1⟩) (fun hHeld => ?_)
  generalize hwd : w.drew = wd at hHeld ⊢
  have BD : Aside0 (Below w.heap.size w wd) := ⟨by rw [← hwd]; exact below_drew (Below.refl _ _)⟩
  have RED := Aside0.mk (RE.out)
  rw [hwd] at RED
  have HWD := Aside0.mk hwd
  clear hwd
  refine pure_ (i := 0) (N := some 6) (v := ?_) (a' := ?_) #[T,F,F,F,F,F,F,F,F,F,F,F,F,F,F,F,F,F,F,F,F,F,F,F,F,F,F] rfl rfl (by kernel_rfl) (fun _ _ _ h => h) (Or.inl ⟨by rfl, ?_⟩) ?_ ?_
  rotate_left
  · intro w'
    go_simp
    with_reducible rfl
  rotate_left
  · simp only [Act.put, sA, s0_, sS, i64_w, i32_w]
    rfl
  refine pure_ (i := 1) (N := some 7) (v := ?_) (a' := ?_) #[T,T,F,F,F,F,F,F,F,F,F,F,F,F,F,F,F,F,F,F,F,F,F,F,F,F,F] rfl rfl (by kernel_rfl) (fun _ _ _ h => h) (Or.inl ⟨by rfl, ?_⟩) ?_ ?_
  rotate_left
  · intro w'
    go_simp
    with_reducible rfl
  rotate_left
  · simp only [Act.put, sA, s0_, sS, i64_w, i32_w]
    rfl
  refine pure_ (i := 2) (N := some 8) (v := ?_) (a' := ?_) #[T,T,T,F,F,F,F,F,F,F,F,F,F,F,F,F,F,F,F,F,F,F,F,F,F,F,F] rfl rfl (by kernel_rfl) (fun _ _ _ h => h) (Or.inl ⟨by rfl, ?_⟩) ?_ ?_
  rotate_left
  · intro w'
    go_simp
    with_reducible rfl
  rotate_left
  · simp only [Act.put, sA, s0_, sS, i64_w, i32_w]
    rfl
  refine pure_ (i := 3) (N := some 9) (v := ?_) (a' := ?_) #[T,T,T,T,F,F,F,F,F,F,F,F,F,F,F,F,F,F,F,F,F,F,F,F,F,F,F] rfl rfl (by kernel_rfl) (fun _ _ _ h => h) (Or.inl ⟨by rfl, ?_⟩) ?_ ?_
  rotate_left
  · intro w'
    go_simp
    with_reducible rfl
  rotate_left
  · simp only [Act.put, sA, s0_, sS, i64_w, i32_w]
    rfl
  refine pure_ (i := 5) (N := some 11) (v := ?_) (a' := ?_) #[T,T,T,T,F,T,F,F,F,F,F,F,F,F,F,F,F,F,F,F,F,F,F,F,F,F,F] rfl rfl (by kernel_rfl) (fun _ _ _ h => h) (Or.inl ⟨by rfl, ?_⟩) ?_ ?_
  rotate_left
  · intro w'
    go_simp
    with_reducible rfl
  rotate_left
  · simp only [Act.put, sA, s0_, sS, i64_w, i32_w]
    rfl
  refine pure_ (i := 6) (N := some 12) (v := ?_) (a' := ?_) #[T,T,T,T,F,T,T,F,F,F,F,F,F,F,F,F,F,F,F,F,F,F,F,F,F,F,F] rfl rfl (by kernel_rfl) (fun _ _ _ h => h) (Or.inl ⟨by rfl, ?_⟩) ?_ ?_
  rotate_left
  · intro w'
    go_simp
    with_reducible rfl
  rotate_left
  · simp only [Act.put, sA, s0_, sS, i64_w, i32_w]
    rfl
  refine pure_ (i := 7) (N := some 13) (v := ?_) (a' := ?_) #[T,T,T,T,F,T,T,T,F,F,F,F,F,F,F,F,F,F,F,F,F,F,F,F,F,F,F] rfl rfl (by kernel_rfl) (fun _ _ _ h => h) (Or.inl ⟨by rfl, ?_⟩) ?_ ?_
  rotate_left
  · intro w'
    go_simp
    with_reducible rfl
  rotate_left
  · simp only [Act.put, sA, s0_, sS, i64_w, i32_w]
    rfl
  refine pure_ (i := 9) (N := some 15) (v := ?_) (a' := ?_) #[T,T,T,T,F,T,T,T,F,T,F,F,F,F,F,F,F,F,F,F,F,F,F,F,F,F,F] rfl rfl (by kernel_rfl) (fun _ _ _ h => h) (Or.inl ⟨by rfl, ?_⟩) ?_ ?_
  rotate_left
  · intro w'
    go_simp
    with_reducible rfl
  rotate_left
  · simp only [Act.put, sA, s0_, sS, i64_w, i32_w]
    rfl
  refine pure_ (i := 10) (N := some 16) (v := ?_) (a' := ?_) #[T,T,T,T,F,T,T,T,F,T,T,F,F,F,F,F,F,F,F,F,F,F,F,F,F,F,F] rfl rfl (by kernel_rfl) (fun _ _ _ h => h) (Or.inl ⟨by rfl, ?_⟩) ?_ ?_
  rotate_left
  · intro w'
    go_simp
    with_reducible rfl
  rotate_left
  · simp only [Act.put, sA, s0_, sS, i64_w, i32_w]
    rfl
  refine pure_ (i := 11) (N := some 17) (v := ?_) (a' := ?_) #[T,T,T,T,F,T,T,T,F,T,T,T,F,F,F,F,F,F,F,F,F,F,F,F,F,F,F] rfl rfl (by kernel_rfl) (fun _ _ _ h => h) (Or.inl ⟨by rfl, ?_⟩) ?_ ?_
  rotate_left
  · intro w'
    go_simp
    with_reducible rfl
  rotate_left
  · simp only [Act.put, sA, s0_, sS, i64_w, i32_w]
    rfl
  refine pure_ (i := 12) (N := some 18) (v := ?_) (a' := ?_) #[T,T,T,T,F,T,T,T,F,T,T,T,T,F,F,F,F,F,F,F,F,F,F,F,F,F,F] rfl rfl (by kernel_rfl) (fun _ _ _ h => h) (Or.inl ⟨by rfl, ?_⟩) ?_ ?_
  rotate_left
  · intro w'
    go_simp
    with_reducible rfl
  rotate_left
  · simp only [Act.put, sA, s0_, sS, i64_w, i32_w]
    rfl
  refine pure_ (i := 14) (N := some 20) (v := ?_) (a' := ?_) #[T,T,T,T,F,T,T,T,F,T,T,T,T,F,T,F,F,F,F,F,F,F,F,F,F,F,F] rfl rfl (by kernel_rfl) (fun _ _ _ h => h) (Or.inl ⟨by rfl, ?_⟩) ?_ ?_
  rotate_left
  · intro w'
    go_simp
    with_reducible rfl
  rotate_left
  · simp only [Act.put, sA, s0_, sS, i64_w, i32_w]
    rfl
  refine pure_ (i := 20) (N := some 26) (v := ?_) (a' := ?_) #[T,T,T,T,F,T,T,T,F,T,T,T,T,F,T,F,F,F,F,F,T,F,F,F,F,F,F] rfl rfl (by kernel_rfl) (fun _ _ _ h => h) (Or.inl ⟨by rfl, ?_⟩) ?_ ?_
  rotate_left
  · intro w'
    go_simp
    with_reducible rfl
  rotate_left
  · simp only [Act.put, sA, s0_, sS, i64_w, i32_w]
    rfl
  refine take_ (i := 4) (N := some 10) (v := ?_) (a' := ?_) #[T,T,T,T,T,T,T,T,F,T,T,T,T,F,T,F,F,F,F,F,T,F,F,F,F,F,F] rfl rfl (by kernel_rfl) (fun _ _ _ h => h) (Or.inl ⟨by rfl, ?_⟩) hHeld ?_ ?_
  rotate_left
  · intro w' s0
    obtain ⟨s1, s2, s3, s4, s5⟩ := s0
    go_simp
    with_reducible rfl
  rotate_left
  · simp only [Act.put, sA, s0_, sS, i64_w, i32_w]
    rfl
  refine take_ (i := 8) (N := some 14) (v := ?_) (a' := ?_) #[T,T,T,T,T,T,T,T,T,T,T,T,T,F,T,F,F,F,F,F,T,F,F,F,F,F,F] rfl rfl (by kernel_rfl) (fun _ _ _ h => h) (Or.inl ⟨by rfl, ?_⟩) hHeld ?_ ?_
  rotate_left
  · intro w' s0
    obtain ⟨s1, s2, s3, s4, s5⟩ := s0
    go_simp
    with_reducible rfl
  rotate_left
  · simp only [Act.put, sA, s0_, sS, i64_w, i32_w]
    rfl
  refine take_ (i := 13) (N := some 19) (v := ?_) (a' := ?_) #[T,T,T,T,T,T,T,T,T,T,T,T,T,T,T,F,F,F,F,F,T,F,F,F,F,F,F] rfl rfl (by kernel_rfl) (fun _ _ _ h => h) (Or.inl ⟨by rfl, ?_⟩) hHeld ?_ ?_
  rotate_left
  · intro w' s0
    obtain ⟨s1, s2, s3, s4, s5⟩ := s0
    go_simp
    with_reducible rfl
  rotate_left
  · simp only [Act.put, sA, s0_, sS, i64_w, i32_w]
    rfl
  refine pure_ (i := 15) (N := some 21) (v := ?_) (a' := ?_) #[T,T,T,T,T,T,T,T,T,T,T,T,T,T,T,T,F,F,F,F,T,F,F,F,F,F,F] rfl rfl (by kernel_rfl) (fun _ _ _ h => h) (Or.inl ⟨by rfl, ?_⟩) ?_ ?_
  rotate_left
  · intro w'
    go_simp
    with_reducible rfl
  rotate_left
  · simp only [Act.put, sA, s0_, sS, i64_w, i32_w]
    rfl
  refine take_ (i := 16) (N := some 22) (v := ?_) (a' := ?_) #[T,T,T,T,T,T,T,T,T,T,T,T,T,T,T,T,T,F,F,F,T,F,F,F,F,F,F] rfl rfl (by kernel_rfl) (fun _ _ _ h => h) (Or.inl ⟨by rfl, ?_⟩) hHeld ?_ ?_
  rotate_left
  · intro w' s0
    obtain ⟨s1, s2, s3, s4, s5⟩ := s0
    go_simp
    with_reducible rfl
  rotate_left
  · simp only [Act.put, sA, s0_, sS, i64_w, i32_w]
    rfl
  refine pure_ (i := 17) (N := some 23) (v := ?_) (a' := ?_) #[T,T,T,T,T,T,T,T,T,T,T,T,T,T,T,T,T,T,F,F,T,F,F,F,F,F,F] rfl rfl (by kernel_rfl) (fun _ _ _ h => h) (Or.inl ⟨by rfl, ?_⟩) ?_ ?_
  rotate_left
  · intro w'
    go_simp
    with_reducible rfl
  rotate_left
  · simp only [Act.put, sA, s0_, sS, i64_w, i32_w]
    rfl
  refine pure_ (i := 18) (N := some 24) (v := ?_) (a' := ?_) #[T,T,T,T,T,T,T,T,T,T,T,T,T,T,T,T,T,T,T,F,T,F,F,F,F,F,F] rfl rfl (by kernel_rfl) (fun _ _ _ h => h) (Or.inl ⟨by rfl, ?_⟩) ?_ ?_
  rotate_left
  · intro w'
    go_simp
    with_reducible rfl
  rotate_left
  · simp only [Act.put, sA, s0_, sS, i64_w, i32_w]
    rfl
  refine take_ (i := 19) (N := some 25) (v := ?_) (a' := ?_) #[T,T,T,T,T,T,T,T,T,T,T,T,T,T,T,T,T,T,T,T,T,F,F,F,F,F,F] rfl rfl (by kernel_rfl) (fun _ _ _ h => h) (Or.inl ⟨by rfl, ?_⟩) hHeld ?_ ?_
  rotate_left
  · intro w' s0
    obtain ⟨s1, s2, s3, s4, s5⟩ := s0
    go_simp
    with_reducible rfl
  rotate_left
  · simp only [Act.put, sA, s0_, sS, i64_w, i32_w]
    rfl
  refine pure_ (i := 21) (N := some 27) (v := ?_) (a' := ?_) #[T,T,T,T,T,T,T,T,T,T,T,T,T,T,T,T,T,T,T,T,T,T,F,F,F,F,F] rfl rfl (by kernel_rfl) (fun _ _ _ h => h) (Or.inl ⟨by rfl, ?_⟩) ?_ ?_
  rotate_left
  · intro w'
    go_simp
    with_reducible rfl
  rotate_left
  · simp only [Act.put, sA, s0_, sS, i64_w, i32_w]
    rfl
  refine one_ (i := 22) (N := some 28) #[T,T,T,T,T,T,T,T,T,T,T,T,T,T,T,T,T,T,T,T,T,T,T,F,F,F,F] rfl rfl (by kernel_rfl) (by decide) (fun K hK => ?_)
  refine value_ (w1 := ?_) (v := ?_) (by rfl) rfl ?_ ?_
  rotate_left 2
  · go_simp
    constructor
    · rfl
    · rfl
  refine hK.out _ _ (by exact ⟨pw_cell_below (below_alloc BD.out _) r0, pw_cell_below (below_alloc BD.out _) r1, pw_cell_below (below_alloc BD.out _) r2, pw_cell_below (below_alloc BD.out _) p0, pw_cell_below (below_alloc BD.out _) a1⟩) (fun hHeld => ?_)
  clear hK K
  refine norm_ (a' := ?_) ?_ ?_
  rotate_left
  · show Act.put _ (some 28) _ = _
    simp only [Act.put, sA, s0_, sS, i64_w, i32_w]
    rfl
  refine last_ (i := 23) (N := some 29) #[T,T,T,T,T,T,T,T,T,T,T,T,T,T,T,T,T,T,T,T,T,T,T,T,F,F,F] rfl rfl (by kernel_rfl) (by decide) (fun K hK => ?_)
  refine Kd.R_append_step k51 (w0 := wd) B (by rfl) (.tmp 10) (.tmp 28) 47 51 (.agg #[.int .i64 0, .int .i64 0, .int .i64 0, .bool false]) 32 rfl Try.underlying47 info51' rfl (by decide) (by decide) (.slice Ae m ce) x.events ⟨st, t, a, b⟩ [.int .i64 st, .int .i64 (t : Int), .int .i64 (a : Int), .bool b] (fun k => owns f w.heap.size rb k = rb) (fun _ => False) rfl rfl (k51_mkM _ _ _ _) (fun _ h => h.elim) (fun k hk => owns_new _ _ _ _ (Nat.le_trans BD.out.size hk)) RED.out (Below.refl _ _) (Nat.le_trans hBs.out BD.out.size) HL.out ?_
  intro v1 w4 hR4 hb4 hg4 hat4
  obtain ⟨A4, c4, hv4⟩ := Kd.R_slice hR4
  rw [List.length_append, List.length_singleton, HM.out] at hv4
  subst hv4
  have R4 := Aside0.mk hR4
  have B4 := Aside0.mk hb4
  have G4 := Aside0.mk hg4
  clear hR4 hb4 hg4 hat4
  refine hK.out _ _ ?_
  clear hK K
  refine norm_ (a' := ?_) ?_ ?_
  rotate_left
  · show Act.put _ (some 29) _ = _
    simp only [Act.put, sA, s0_, sS, i64_w, i32_w]
    rfl
  refine pure_ (i := 24) (N := some 30) (v := ?_) (a' := ?_) #[T,T,T,T,T,T,T,T,T,T,T,T,T,T,T,T,T,T,T,T,T,T,T,T,T,F,F] rfl rfl (by kernel_rfl) (fun _ _ _ h => h) (Or.inl ⟨by rfl, ?_⟩) ?_ ?_
  rotate_left
  · intro w'
    go_simp
    with_reducible rfl
  rotate_left
  · simp only [Act.put, sA, s0_, sS, i64_w, i32_w]
    rfl
  refine pure_ (i := 25) (N := some 31) (v := ?_) (a' := ?_) #[T,T,T,T,T,T,T,T,T,T,T,T,T,T,T,T,T,T,T,T,T,T,T,T,T,T,F] rfl rfl (by kernel_rfl) (fun _ _ _ h => h) (Or.inl ⟨by rfl, ?_⟩) ?_ ?_
  rotate_left
  · intro w'
    go_simp
    with_reducible rfl
  rotate_left
  · simp only [Act.put, sA, s0_, sS, i64_w, i32_w]
    rfl
  have b4 := blk_grown (blk_below H.out.rblk BD.out) (by rw [HM.out]; exact G4.out) (Kd.R_ne H.out.erow H.out.rblk (by decide))
  have y4 := blk_cell b4 2
  have f4 := blk_frozen b4 2
  have HB4 := Aside0.mk b4
  clear b4
  refine last_ (i := 26) (N := none) #[T,T,T,T,T,T,T,T,T,T,T,T,T,T,T,T,T,T,T,T,T,T,T,T,T,T,T] rfl rfl (by kernel_rfl) (by decide) (fun K hK => ?_)
  refine skip_ (w1 := ?_) (by rfl) rfl ?_ ?_
  rotate_left
  · go_simp
    rfl
  refine hK.out _ _ ?_
  clear hK K
  refine done_ (by kernel_rfl) ?_
  try go_wp2
  go_end0
  refine ⟨rfl, ?_⟩
  obtain ⟨e1, e2⟩ := HE.out
  subst e1 e2
  have g := G4.out
  rw [← HWD.out, ← HM.out] at g
  obtain ⟨h1, h2⟩ := H.out.noted 1 R4.out g
  exact ⟨_, _, h1, h2⟩
section
variable {B : Nat} {f : Owner} {w : World} {rb : Nat} {P : Nat → Prop} {x : M} {tv ev : Value} {tb : Nat → Nat} {cv : Nat → Value} {C : Nat → List (Option Nat)}
theorem RunG.setBg (h : RunG B f w rb P x tv ev tb cv C) (t : Nat) (ht : t < x.n) (b : Bool) : RunG B f (w.setCell ⟨tb t, 2, none⟩ (.bool b)) rb P { x with bg := upd x.bg t b } tv ev tb cv C ∧ Mv B (· = rb) f w f (w.setCell ⟨tb t, 2, none⟩ (.bool b)) := by
  have h1 := h.setTask t ht 2 (.bool b) (x.at_ t) b (x.waits t) rfl
  simp only [upd_self] at h1
  exact h1
theorem RunG.setAt (h : RunG B f w rb P x tv ev tb cv C) (t : Nat) (ht : t < x.n) (a : Nat) : RunG B f (w.setCell ⟨tb t, 1, none⟩ (.int .i64 (a : Int))) rb P { x with at_ := upd x.at_ t a } tv ev tb cv C ∧ Mv B (· = rb) f w f (w.setCell ⟨tb t, 1, none⟩ (.int .i64 (a : Int))) := by
  have h1 := h.setTask t ht 1 (.int .i64 (a : Int)) a (x.bg t) (x.waits t) rfl
  simp only [upd_self] at h1
  exact h1
theorem RunG.setWaits (h : RunG B f w rb P x tv ev tb cv C) (t : Nat) (ht : t < x.n) (b : Bool) : RunG B f (w.setCell ⟨tb t, 3, none⟩ (.bool b)) rb P { x with waits := upd x.waits t b } tv ev tb cv C ∧ Mv B (· = rb) f w f (w.setCell ⟨tb t, 3, none⟩ (.bool b)) := by
  have h1 := h.setTask t ht 3 (.bool b) (x.at_ t) (x.bg t) b rfl
  simp only [upd_self] at h1
  exact h1
/-- The cells of the runner and of a task. -/
theorem RunG.r0 (h : RunG B f w rb P x tv ev tb cv C) : w.cell? ⟨rb, 0, none⟩ = some tv := blk_cell h.rblk 0
theorem RunG.r1 (h : RunG B f w rb P x tv ev tb cv C) : w.cell? ⟨rb, 1, none⟩ = some (.int .i64 x.steps) := blk_cell h.rblk 1
theorem RunG.t0 (h : RunG B f w rb P x tv ev tb cv C) (t : Nat) (ht : t < x.n) : w.cell? ⟨tb t, 0, none⟩ = some (cv t) := blk_cell (h.tblk t ht) 0
theorem RunG.t1 (h : RunG B f w rb P x tv ev tb cv C) (t : Nat) (ht : t < x.n) : w.cell? ⟨tb t, 1, none⟩ = some (.int .i64 (x.at_ t : Int)) := blk_cell (h.tblk t ht) 1
theorem RunG.t2 (h : RunG B f w rb P x tv ev tb cv C) (t : Nat) (ht : t < x.n) : w.cell? ⟨tb t, 2, none⟩ = some (.bool (x.bg t)) := blk_cell (h.tblk t ht) 2
theorem RunG.t3 (h : RunG B f w rb P x tv ev tb cv C) (t : Nat) (ht : t < x.n) : w.cell? ⟨tb t, 3, none⟩ = some (.bool (x.waits t)) := blk_cell (h.tblk t ht) 3
theorem RunG.tf (h : RunG B f w rb P x tv ev tb cv C) (t : Nat) (ht : t < x.n) (i : Nat) : w.frozen? ⟨tb t, i, none⟩ = false := blk_frozen (h.tblk t ht) i
theorem RunG.rf (h : RunG B f w rb P x tv ev tb cv C) (i : Nat) : w.frozen? ⟨rb, i, none⟩ = false := blk_frozen h.rblk i
/-- The call that a task is at. -/
theorem RunG.proc_at {A : Option Addr} {n c : Nat} (h : RunG B f w rb P x tv ev tb cv C) (t : Nat) (ht : t < x.n) (hcv : cv t = .slice A n c) (a : Nat) (ha : a < x.len t) {o : Option Nat} (ho : (C t)[a]? = some o) : n = x.len t ∧ ∃ ad, A = some ad ∧ w.cell? (ad.add a) = some (procV o) := by
  have h0 := h.crow t ht
  rw [hcv] at h0
  obtain ⟨h1, h2, _⟩ := R_C h0
  rw [h.clen t ht] at h2
  have h3 := Kd.reads_of_C (d := none) h1
  obtain ⟨ad, e, hc⟩ := h3.at_ (a : Int) (by omega) (by omega)
  refine ⟨h2.symm, ad, e, ?_⟩
  simp only [Int.toNat_natCast, rdOf] at hc
  rw [hc, List.getD_eq_getElem?_getD, ho]
  rfl
end
theorem nenil78 (w : World) : (binOp .neq 78 .nilIface .nilIface).run Try.prog w = .ok (.bool false) w := by kernel_rfl
theorem nesome78 (b : Nat) (w : World) : (binOp .neq 78 (.iface 27 (.pointer (some ⟨b, 0, none⟩))) .nilIface).run Try.prog w = .ok (.bool true) w := by kernel_rfl
theorem method27 (b : Nat) (w : World) : (method 206 27 (.pointer (some ⟨b, 0, none⟩)) "Step").run Try.prog w = .ok (11, .pointer (some ⟨b, 0, none⟩)) w := by kernel_rfl
/-- Who wakes. -/
def woke (l : List Int) (g : Nat → Bool) : Nat → Bool := fun u => if (u : Int) ∈ l then false else g u
/-- A step of task t that told d. -/
def M.stepWith (m : M) (t : Nat) (d : S26) (tk' : Nat → Nat → List Int) : M :=
  { m with
    at_ := upd m.at_ t (if d.f0 then m.at_ t + 1 else m.at_ t)
    bg := upd m.bg t (!d.f0)
    waits := woke d.f2 (upd m.waits t (d.f1 && !d.f0))
    steps := wrap64 (m.steps + 1)
    events := m.events ++ (if m.bg t then [] else [⟨m.steps, t, m.at_ t, false⟩]) ++ (if d.f0 then [⟨m.steps, t, m.at_ t, true⟩] else [])
    tk := tk' }
theorem upd_upd {α : Type} (g : Nat → α) (t : Nat) (a b : α) : upd (upd g t a) t b = upd g t b := by
  funext u
  unfold upd
  split <;> rfl
theorem upd_same {α : Type} (g : Nat → α) (t : Nat) (a : α) (h : g t = a) : upd g t a = g := by rw [← h]; exact upd_self g t
theorem woke_nil (g : Nat → Bool) : woke [] g = g := by
  funext u
  simp [woke]
theorem woke_in (l : List Int) (g : Nat → Bool) (u : Nat) : woke (l ++ [(u : Int)]) g = upd (woke l g) u false := by
  funext v
  unfold woke upd
  by_cases h : v = u
  · subst h; simp
  · have : (v : Int) ≠ (u : Int) := by omega
    rw [if_neg h]
    simp [this]
theorem woke_out (l : List Int) (g : Nat → Bool) (z : Int) (v : Nat) (h : z ≠ (v : Int)) : woke (l ++ [z]) g v = woke l g v := by
  unfold woke
  have : (v : Int) ≠ z := fun e => h e.symm
  simp [this]
/-- Of whom waits only the tasks count. -/
theorem RunG.congrW {B : Nat} {f : Owner} {w : World} {rb : Nat} {P : Nat → Prop} {x : M} {tv ev : Value} {tb : Nat → Nat} {cv : Nat → Value} {C : Nat → List (Option Nat)} (h : RunG B f w rb P x tv ev tb cv C) (g : Nat → Bool) (hg : ∀ s, s < x.n → g s = x.waits s) : RunG B f w rb P { x with waits := g } tv ev tb cv C :=
  { rblk := h.rblk, rown := h.rown, rbase := h.rbase, rP := h.rP, n16 := h.n16, trow := h.trow, tinj := h.tinj,
    tblk := fun s hs => by
      have h1 := h.tblk s hs
      rw [← hg s hs] at h1
      exact h1
    town := h.town, tbase := h.tbase, crow := h.crow, clen := h.clen, erow := h.erow, play := h.play, noplay := h.noplay, pinj := h.pinj }
/-- While the woken are gone over. -/
def Waking (B : Nat) (f : Owner) (w : World) (rb : Nat) (P : Nat → Prop) (m : M) (tv : Value) (tb : Nat → Nat) (cv : Nat → Value) (C : Nat → List (Option Nat)) (nm : Nat) (v : Value) (wk : List Int) (k : Nat) (wr : World) : Prop :=
  ∃ f' ev', RunG B f' wr rb P { m with waits := woke (wk.take k) m.waits } tv ev' tb cv C ∧ Mv B P f w f' wr ∧ (Kd.int .i64).R 3 wr nm (fun k => nm ≤ k ∧ f' k = nm) v wk
theorem Waking.out {B : Nat} {f : Owner} {w : World} {rb : Nat} {P : Nat → Prop} {m : M} {tv : Value} {tb : Nat → Nat} {cv : Nat → Value} {C : Nat → List (Option Nat)} {nm : Nat} {v : Value} {wk : List Int} {k : Nat} {wr : World} (h : Waking B f w rb P m tv tb cv C nm v wk k wr) (hk : k < wk.length) (hz : ∀ s : Nat, s < m.n → wk.getD k 0 ≠ (s : Int)) : Waking B f w rb P m tv tb cv C nm v wk (k + 1) wr := by
  obtain ⟨f', ev', h1, h2, h3⟩ := h
  refine ⟨f', ev', ?_, h2, h3⟩
  rw [List.take_succ_eq_append_getElem hk]
  refine h1.congrW _ (fun s hs => ?_)
  refine woke_out _ _ _ s ?_
  have := hz s hs
  rwa [List.getD_eq_getElem?_getD, List.getElem?_eq_getElem hk] at this
theorem Waking.in_ {B : Nat} {f : Owner} {w : World} {rb : Nat} {P : Nat → Prop} {m : M} {tv : Value} {tb : Nat → Nat} {cv : Nat → Value} {C : Nat → List (Option Nat)} {nm : Nat} {v : Value} {wk : List Int} {k : Nat} {wr : World} (h : Waking B f w rb P m tv tb cv C nm v wk k wr) (hk : k < wk.length) (u : Nat) (hu : u < m.n) (hz : wk.getD k 0 = (u : Int)) (hrb : rb < nm) : Waking B f w rb P m tv tb cv C nm v wk (k + 1) (wr.setCell ⟨tb u, 3, none⟩ (.bool false)) := by
  obtain ⟨f', ev', h1, h2, h3⟩ := h
  obtain ⟨g1, g2⟩ := h1.setWaits u hu false
  refine ⟨f', ev', ?_, h2.trans (g2.mono (fun i e => by rw [e]; exact h1.rP)), g2.row h3 (fun k hk _ e => by have := hk.1; have := hk.2; omega) (fun k hk _ => hk)⟩
  rw [List.take_succ_eq_append_getElem hk]
  have e : wk[k] = (u : Int) := by
    rw [List.getD_eq_getElem?_getD, List.getElem?_eq_getElem hk] at hz
    exact hz
  rw [e, woke_in]
  exact g1
/-- The steps counted: the end. -/
theorem Waking.end_ {B : Nat} {f : Owner} {w : World} {rb : Nat} {P : Nat → Prop} {m : M} {tv : Value} {tb : Nat → Nat} {cv : Nat → Value} {C : Nat → List (Option Nat)} {nm : Nat} {v : Value} {wk : List Int} {wr : World} (h : Waking B f w rb P m tv tb cv C nm v wk wk.length wr) (s : Int) :
    After B f w rb P { m with waits := woke wk m.waits, steps := s } tv tb cv C P (wr.setCell ⟨rb, 1, none⟩ (.int .i64 s)) := by
  obtain ⟨f', ev', h1, h2, _⟩ := h
  obtain ⟨g1, g2⟩ := h1.setSteps s
  rw [List.take_length] at g1
  exact ⟨f', ev', g1, h2.trans (g2.mono (fun i e => by rw [e]; exact h1.rP))⟩
end Go.Proofs.Ytkigbgabnbjomaa.Sched
