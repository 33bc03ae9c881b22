/- The law SchedOnce, walked by hand; and the call.
   No condition. -/
import Derived.Test.YtkigbgabnbjomaaSchH
import Derived.ArgAppend
import Derived.BigRegion
import Derived.Deep.QuietTactic
import Derived.BigQuiet
import Derived.Deep.RegionHeld3
import Derived.ChangeAlike
import Derived.RegionTactic
import Derived.Deep.DeepCutAuto
import Derived.Deep.CutBlock
import Derived.Deep.RegionLaw
import Derived.StillTailTactics
import Derived.WalkSpells
import Derived.Lib.SliceRun
namespace Go.Proofs.Ytkigbgabnbjomaa.Sched
open Go.Proofs.Ytkigbgabnbjomaa.PSchedPlays
open Go.RowKit Go.Proofs.YtkigbgabnbjomaaW.PrintWords Go.Proofs.YtkigbgabnbjomaaW.PrintLast Go.Proofs.YtkigbgabnbjomaaW.PrintMore
attribute [local go_sem] max2_int min2_int max_two min_two   -- for this text's walks alone
set_option linter.unusedVariables false
set_option linter.unusedSimpArgs false
/-! ### Each call begins and returns once, in order -/
structure Chk where
  next : Nat → Nat
  under : Nat → Bool
  last : Int
/-- Is an event as it should be? n: how many tasks; s: the steps in the end. -/
def evOk (n : Nat) (s : Int) (c : Chk) (e : S51) : Prop := ∃ t : Nat, t < n ∧ e.f1 = (t : Int) ∧ e.f2 = (c.next t : Int) ∧ c.last ≤ e.f0 ∧ e.f0 < s ∧ e.f3 = c.under t
def chkNext (c : Chk) (e : S51) : Chk := ⟨fun u => if (u : Int) = e.f1 ∧ e.f3 = true then c.next u + 1 else c.next u, fun u => if (u : Int) = e.f1 then !e.f3 else c.under u, e.f0⟩
def Good (n : Nat) (s : Int) : Chk → List S51 → Chk → Prop
  | c, [], d => c = d
  | c, e :: l, d => evOk n s c e ∧ Good n s (chkNext c e) l d
theorem Good.append {n : Nat} {s : Int} : ∀ {l l' : List S51} {c d d' : Chk}, Good n s c l d → Good n s d l' d' → Good n s c (l ++ l') d'
  | [], l', c, d, d', h, h' => by have h0 : c = d := h; subst h0; exact h'
  | e :: l, l', c, d, d', h, h' => ⟨h.1, Good.append h.2 h'⟩
theorem Good.mono {n : Nat} {s s' : Int} (hs : s ≤ s') : ∀ {l : List S51} {c d : Chk}, Good n s c l d → Good n s' c l d
  | [], c, d, h => h
  | e :: l, c, d, h => ⟨by obtain ⟨t, h1, h2, h3, h4, h5, h6⟩ := h.1; exact ⟨t, h1, h2, h3, h4, by omega, h6⟩, Good.mono hs h.2⟩
/-- What holds of a runner's events. -/
structure OnceInv (x : X) : Prop where
  good : ∃ last : Int, last ≤ x.steps ∧ Good x.n x.steps ⟨fun _ => 0, fun _ => false, 0⟩ x.events ⟨x.at_, fun t => decide (0 < x.taken t), last⟩
theorem once_step {x : X} (h : OnceInv x) (t : Nat) (ht : t < x.n) (hw : wrap64 (x.steps + 1) = x.steps + 1) : OnceInv (x.step t) := by
  obtain ⟨last, hl, hg⟩ := h.good
  have hs : (x.step t).steps = x.steps + 1 := hw
  have h1 := Good.mono (s' := x.steps + 1) (by omega) hg
  have hb : ∃ last2 : Int, last2 ≤ x.steps ∧ Good x.n (x.steps + 1) ⟨x.at_, fun t => decide (0 < x.taken t), last⟩ (x.begins t) ⟨x.at_, fun u => if u = t then true else decide (0 < x.taken u), last2⟩ := by
    unfold X.begins
    by_cases e : x.taken t = 0
    · rw [if_pos e]
      refine ⟨x.steps, by omega, ⟨t, ht, rfl, rfl, hl, by show x.steps < x.steps + 1; omega, by show false = decide (0 < x.taken t); rw [e]; rfl⟩, ?_⟩
      show chkNext _ _ = _
      unfold chkNext
      congr 1
      · funext u; simp
      · funext u
        by_cases c : u = t
        · subst c; simp
        · have : ¬ ((u : Int) = (t : Int)) := by omega
          simp [c, this]
    · rw [if_neg e]
      refine ⟨last, hl, ?_⟩
      show (_ : Chk) = _
      congr 1
      funext u
      by_cases c : u = t
      · subst c; simp; omega
      · simp [c]
  obtain ⟨last2, hl2, hg2⟩ := hb
  have he : ∃ last3 : Int, last3 ≤ x.steps ∧ Good x.n (x.steps + 1) ⟨x.at_, fun u => if u = t then true else decide (0 < x.taken u), last2⟩ (x.ends t) ⟨(x.step t).at_, fun u => decide (0 < (x.step t).taken u), last3⟩ := by
    unfold X.ends
    have a' : (x.step t).at_ = fun u => if u = t then (if (x.told t).f0 then x.at_ t + 1 else x.at_ t) else x.at_ u := rfl
    have t' : (x.step t).taken = fun u => if u = t then (if (x.told t).f0 then 0 else x.taken t + 1) else x.taken u := rfl
    rw [a', t']
    cases hd : (x.told t).f0 with
    | true =>
      simp only [if_true]
      refine ⟨x.steps, by omega, ⟨t, ht, rfl, rfl, hl2, by show x.steps < x.steps + 1; omega, by show true = (if t = t then true else _); rw [if_pos rfl]⟩, ?_⟩
      show chkNext _ _ = _
      unfold chkNext
      congr 1
      · funext u
        by_cases c : u = t
        · subst c; simp
        · have : ¬ ((u : Int) = (t : Int)) := by omega
          simp [c, this]
      · funext u
        by_cases c : u = t
        · subst c; simp
        · have : ¬ ((u : Int) = (t : Int)) := by omega
          simp [c, this]
    | false =>
      simp only [Bool.false_eq_true, if_false]
      refine ⟨last2, hl2, ?_⟩
      show (_ : Chk) = _
      congr 1
      · funext u
        by_cases c : u = t
        · subst c; simp
        · simp [c]
      · funext u
        by_cases c : u = t
        · subst c; simp
        · simp [c]
  obtain ⟨last3, hl3, hg3⟩ := he
  refine ⟨⟨last3, by rw [hs]; omega, ?_⟩⟩
  show Good x.n (wrap64 (x.steps + 1)) _ (x.events ++ x.begins t ++ x.ends t) _
  rw [hw]
  exact Good.append (Good.append h1 hg2) hg3
theorem once_run : ∀ (l : List Int) (x : X), OnceInv x → 0 ≤ x.steps → x.steps + l.length ≤ 4611686018427387904 → OnceInv (x.run l).1 ∧ (x.run l).1.n = x.n
  | [], x, h, _, _ => ⟨h, rfl⟩
  | p :: l, x, h, h0, hb => by
    rw [List.length_cons] at hb
    show OnceInv ((x.pick p).1.run l).1 ∧ ((x.pick p).1.run l).1.n = x.n
    unfold X.pick
    by_cases hp : x.pickable p = true
    · rw [if_pos hp]
      have hw : wrap64 (x.steps + 1) = x.steps + 1 := by unfold wrap64; omega
      have hs : (x.step (x.who p)).steps = x.steps + 1 := hw
      exact once_run l _ (once_step h _ (who_lt x p hp).1 hw) (by rw [hs]; omega) (by rw [hs]; omega)
    · rw [if_neg hp]
      exact once_run l x h h0 (by omega)
/-- What stands ahead of the i-th event. -/
def chkAt (l : List S51) (i : Nat) : Chk := (l.take i).foldl chkNext ⟨fun _ => 0, fun _ => false, 0⟩
theorem good_at {n : Nat} {s : Int} : ∀ {l : List S51} {c d : Chk} (i : Nat) (hi : i < l.length), Good n s c l d → evOk n s ((l.take i).foldl chkNext c) l[i]
  | e :: l, c, d, 0, hi, h => h.1
  | e :: l, c, d, i + 1, hi, h => good_at (l := l) (c := chkNext c e) i (by simpa using hi) h.2
theorem chkAt_succ (l : List S51) (i : Nat) (hi : i < l.length) : chkAt l (i + 1) = chkNext (chkAt l i) l[i] := by
  unfold chkAt
  rw [List.take_succ_eq_append_getElem hi, List.foldl_append]
  rfl
theorem chkAt_le (l : List S51) : ∀ i, i ≤ l.length → ∀ t, (chkAt l i).next t ≤ i
  | 0, _, t => by show 0 ≤ 0; omega
  | i + 1, hi, t => by
    rw [chkAt_succ l i (by omega)]
    have := chkAt_le l i (by omega) t
    show (if (t : Int) = l[i].f1 ∧ l[i].f3 = true then (chkAt l i).next t + 1 else (chkAt l i).next t) ≤ i + 1
    by_cases c : (t : Int) = l[i].f1 ∧ l[i].f3 = true
    · rw [if_pos c]; omega
    · rw [if_neg c]; omega
theorem info4 : (Try.prog.info? 4).map (fun i => (i.zero, i.size, i.bytes)) = some (some (.bool false), 1, 1) := by kernel_rfl
theorem row_form {α : Type} {d : Kd α} {e b : Nat} {ok : Nat → Prop} {w : World} {base : Nat} {v : Value} {xs : List α} (h : d.R e w base ok v xs) (hb : v.ownBlock = some b) : ∃ c, v = .slice (some ⟨b, 0, none⟩) xs.length c := by
  obtain ⟨_, inner, ho, _⟩ := h
  rcases ho.2 with ⟨rfl, _⟩ | ⟨g, cap, cur, rfl, _⟩
  · simp [Value.ownBlock] at hb
  · have : g = b := by simpa [Value.ownBlock] using hb
    subst this
    exact ⟨cap, rfl⟩
/-- While the events are gone over. -/
structure OnceSt (w1 : World) (f : Owner) (rb : Nat) (P : Nat → Prop) (x : X) (tv : Value) (tb : Nat → Nat) (cv : Nat → Value) (C : Nat → List (Option Nat)) (sz gn gu cn cu ce : Nat) (Ae : Option Addr) (l : List S51) (n i : Nat) (wr : World) : Prop where
  run : RunX w1.heap.size f wr rb P x tv tb cv C
  nrow : (Kd.int .i64).R 3 wr w1.heap.size (fun k => k = gn) (.slice (some ⟨gn, 0, none⟩) n cn) ((List.range n).map fun t => ((chkAt l i).next t : Int))
  urow : Kd.bool.R 4 wr w1.heap.size (fun k => k = gu) (.slice (some ⟨gu, 0, none⟩) n cu) ((List.range n).map (chkAt l i).under)
  erow : k51.R 51 wr w1.heap.size (fun k => k < sz) (.slice Ae l.length ce) l
  below : Below w1.heap.size w1 wr
  own : ∀ k, sz ≤ k → f k = sz
  ne : gn ≠ gu
  gn0 : sz ≤ gn
  gu0 : sz ≤ gu
  sz0 : w1.heap.size ≤ sz
  szr : sz ≤ wr.heap.size
  hP : ∀ i, P i → i < sz
theorem OnceSt.box {w1 : World} {f : Owner} {rb : Nat} {P : Nat → Prop} {x : X} {tv : Value} {tb : Nat → Nat} {cv : Nat → Value} {C : Nat → List (Option Nat)} {sz gn gu cn cu ce : Nat} {Ae : Option Addr} {l : List S51} {n i : Nat} {wr w2 : World} (h : OnceSt w1 f rb P x tv tb cv C sz gn gu cn cu ce Ae l n i wr) (hb : Below wr.heap.size wr w2) : OnceSt w1 f rb P x tv tb cv C sz gn gu cn cu ce Ae l n i w2 :=
  ⟨h.run.below hb, Kd.R_below h.nrow hb, Kd.R_below h.urow hb, Kd.R_below h.erow hb, h.below.trans (hb.mono h.below.size), h.own, h.ne, h.gn0, h.gu0, h.sz0, Nat.le_trans h.szr hb.size, h.hP⟩
theorem set_map {α : Type} (g : Nat → α) (n t : Nat) (v : α) : ((List.range n).map g).set t v = (List.range n).map (fun u => if u = t then v else g u) := by
  apply List.ext_getElem?
  intro j
  rw [List.getElem?_set]
  by_cases hj : j < n
  · simp only [List.length_map, List.length_range]
    by_cases e : t = j
    · subst e; simp [hj]
    · have e2 : ¬ j = t := fun h => e h.symm
      simp [e, e2, hj]
  · by_cases e : t = j
    · subst e; simp [hj]
    · simp [e, hj]
/-- An event that is no return: its task is under way. -/
theorem OnceSt.begin {w1 : World} {f : Owner} {rb : Nat} {P : Nat → Prop} {x : X} {tv : Value} {tb : Nat → Nat} {cv : Nat → Value} {C : Nat → List (Option Nat)} {sz gn gu cn cu ce : Nat} {Ae : Option Addr} {l : List S51} {n i : Nat} {wr : World} (h : OnceSt w1 f rb P x tv tb cv C sz gn gu cn cu ce Ae l n i wr) (hi : i < l.length) (t : Nat) (h1 : l[i].f1 = (t : Int)) (h3 : l[i].f3 = false) :
    OnceSt w1 f rb P x tv tb cv C sz gn gu cn cu ce Ae l n (i + 1) (wr.setCell ⟨gu, t, none⟩ (.bool true)) := by
  have m : Mv w1.heap.size (· = sz) f wr f (wr.setCell ⟨gu, t, none⟩ (.bool true)) := Mv.set (Mv.refl _ _ _ _) ⟨gu, t, none⟩ _ (Nat.le_trans h.sz0 h.gu0) (fun _ => h.own _ h.gu0)
  have e1 : ∀ u, (chkAt l (i + 1)).next u = (chkAt l i).next u := fun u => by
    rw [chkAt_succ l i hi]
    show (if _ ∧ l[i].f3 = true then _ else _) = _
    rw [if_neg (by rw [h3]; simp)]
  have e2 : (chkAt l (i + 1)).under = fun u => if u = t then true else (chkAt l i).under u := by
    rw [chkAt_succ l i hi]
    funext u
    show (if (u : Int) = l[i].f1 then !l[i].f3 else _) = _
    rw [h1, h3]
    by_cases c : u = t
    · subst c; simp
    · have : ¬ ((u : Int) = (t : Int)) := by omega
      simp [c, this]
  refine ⟨h.run.mv m (fun j hj e => by have := h.hP j hj; omega), ?_, ?_, ?_, h.below.trans m.below, h.own, h.ne, h.gn0, h.gu0, h.sz0, by simpa [World.setCell] using h.szr, h.hP⟩
  · simp only [e1]
    exact Kd.R_far (p := ⟨gu, t, none⟩) h.nrow (fun k hk => by rw [hk]; exact h.ne) _
  · rw [e2, ← set_map]
    exact Kd.R_putn (enc := Value.bool) h.urow (t : Int) true
  · exact Kd.R_far (p := ⟨gu, t, none⟩) h.erow (fun k hk => show k ≠ gu by have := h.gu0; omega) _
/-- A return: one call more, and its task is under way no more. -/
theorem OnceSt.end_ {w1 : World} {f : Owner} {rb : Nat} {P : Nat → Prop} {x : X} {tv : Value} {tb : Nat → Nat} {cv : Nat → Value} {C : Nat → List (Option Nat)} {sz gn gu cn cu ce : Nat} {Ae : Option Addr} {l : List S51} {n i : Nat} {wr : World} (h : OnceSt w1 f rb P x tv tb cv C sz gn gu cn cu ce Ae l n i wr) (hi : i < l.length) (t : Nat) (h1 : l[i].f1 = (t : Int)) (h3 : l[i].f3 = true) :
    OnceSt w1 f rb P x tv tb cv C sz gn gu cn cu ce Ae l n (i + 1) ((wr.setCell ⟨gn, t, none⟩ (.int .i64 (((chkAt l i).next t : Int) + 1))).setCell ⟨gu, t, none⟩ (.bool false)) := by
  have m : Mv w1.heap.size (· = sz) f wr f ((wr.setCell ⟨gn, t, none⟩ (.int .i64 (((chkAt l i).next t : Int) + 1))).setCell ⟨gu, t, none⟩ (.bool false)) :=
    Mv.set (Mv.set (Mv.refl _ _ _ _) ⟨gn, t, none⟩ _ (Nat.le_trans h.sz0 h.gn0) (fun _ => h.own _ h.gn0)) ⟨gu, t, none⟩ _ (Nat.le_trans h.sz0 h.gu0) (fun _ => h.own _ h.gu0)
  have e1 : ∀ u, ((chkAt l (i + 1)).next u : Int) = if u = t then ((chkAt l i).next t : Int) + 1 else ((chkAt l i).next u : Int) := fun u => by
    rw [chkAt_succ l i hi]
    show (((if (u : Int) = l[i].f1 ∧ l[i].f3 = true then (chkAt l i).next u + 1 else (chkAt l i).next u : Nat)) : Int) = _
    rw [h1, h3]
    by_cases c : u = t
    · subst c; simp
    · have : ¬ ((u : Int) = (t : Int)) := by omega
      simp [c, this]
  have e2 : (chkAt l (i + 1)).under = fun u => if u = t then false else (chkAt l i).under u := by
    rw [chkAt_succ l i hi]
    funext u
    show (if (u : Int) = l[i].f1 then !l[i].f3 else _) = _
    rw [h1, h3]
    by_cases c : u = t
    · subst c; simp
    · have : ¬ ((u : Int) = (t : Int)) := by omega
      simp [c, this]
  refine ⟨h.run.mv m (fun j hj e => by have := h.hP j hj; omega), ?_, ?_, ?_, h.below.trans m.below, h.own, h.ne, h.gn0, h.gu0, h.sz0, by simpa [World.setCell] using h.szr, h.hP⟩
  · simp only [e1]
    rw [← set_map]
    exact Kd.R_far (p := ⟨gu, t, none⟩) (Kd.R_putn (enc := Value.int .i64) h.nrow (t : Int) _) (fun k hk => by rw [hk]; exact h.ne) _
  · rw [e2, ← set_map]
    exact Kd.R_putn (enc := Value.bool) (Kd.R_far (p := ⟨gn, t, none⟩) h.urow (fun k hk => by rw [hk]; exact Ne.symm h.ne) _) (t : Int) false
  · exact Kd.R_far (p := ⟨gu, t, none⟩) (Kd.R_far (p := ⟨gn, t, none⟩) h.erow (fun k hk => show k ≠ gn by have := h.gn0; omega) _) (fun k hk => show k ≠ gu by have := h.gu0; omega) _
set_option maxHeartbeats 8000000 in
set_option maxRecDepth 100000 in
theorem law_Once (W : World) (A0 : Option Addr) (c0 : Nat) (calls : List (List (List S26))) (A1 : Option Addr) (c1 : Nat) (l1 : List Int) (hC0 : (Kd.slice 22 (Kd.slice 26 k26)).C W A0 calls.length calls) (hs : Sizes calls) (hC1 : (Kd.int .i64).C W A1 l1.length l1) (hl1 : l1.length ≤ 140737488355328) :
    Calls Try.prog 5 #[.slice A0 calls.length c0, .slice A1 l1.length c1] W fun e w' => e = .returned (.bool true) ∧ Below W.heap.size W w' := by
  have q36 := nil36
  have PW := Aside0.mk (fun (w : World) (hb : Below W.heap.size W w) => procs_walk (c := c0) (Kd.C_below hC0 hb) hs)
  have HC1 := Aside0.mk hC1
  have HS := Aside0.mk hs
  have HL1 := Aside0.mk hl1
  obtain ⟨n, hn⟩ : ∃ n, calls.length = n := ⟨_, rfl⟩
  have HN := Aside0.mk hn
  rw [hn] at PW
  cases hm : tooMuch calls with
  | true =>
    have HM := Aside0.mk hm
    rw [hn]
    clear hC0 hs hC1 hn hm hl1
    go_enter Try.func5, Try.ntmps5
    go_wp2_with (first
      | (go_at_call 9; refine (lives_walk _).mono ?_; rintro e w1 ⟨rfl, hb⟩; have B1 := Aside0.mk hb; clear hb)
      | (go_at_call 17; refine (PW.out _ B1.out).mono ?_; rintro e w2 ⟨v, rfl, ho⟩; have HO := Aside0.mk ho; clear ho)
      | (go_at_call 16; refine (new_no HO.out HM.out).mono ?_; rintro e w' ⟨rfl, rfl⟩))
    go_ret
    refine ⟨rfl, ?_⟩
    obtain ⟨_, _, _, _, h⟩ := HO.out
    exact B1.out.trans (h.mono B1.out.size)
  | false =>
    have HM := Aside0.mk hm
    have hn16 : n ≤ 16 := by
      unfold tooMuch at hm
      rw [Bool.or_eq_false_iff, decide_eq_false_iff_not] at hm
      omega
    have OK := Aside0.mk (xOf_ok hm hs)
    rw [hn]
    clear hC0 hs hC1 hn hm hl1
    go_enter Try.func5, Try.ntmps5
    go_upto_region 6 with (first
      | (go_at_call 9; refine (lives_walk _).mono ?_; rintro e w1 ⟨rfl, hb⟩; have B1 := Aside0.mk hb; clear hb)
      | (go_at_call 17; refine (PW.out _ B1.out).mono ?_; rintro e w2 ⟨v, rfl, ho⟩; have HO := Aside0.mk ho; clear ho)
      | (go_at_call 16; refine (new_yes HO.out HM.out).mono ?_; rintro e w3 ⟨rb, f3, tv, tb, cv, C, rfl, hx, hb⟩; have HX := Aside0.mk hx; have B3 := Aside0.mk hb; clear hx hb))
    have KR := Aside0.mk (run_walk (c := c1) HX.out OK.out (fun i hi => hi.2) B3.out (Kd.C_below HC1.out B1.out))
    obtain ⟨x, hx⟩ : ∃ x, ((xOf calls).run l1).1 = x := ⟨_, rfl⟩
    have XOK := Aside0.mk (show x.Ok by rw [← hx]; exact run_ok OK.out l1)
    have INV := Aside0.mk (show OnceInv x ∧ x.n = n by
      rw [← hx]
      have h := once_run l1 (xOf calls) ⟨⟨0, Int.le_refl _, rfl⟩⟩ (by show (0 : Int) ≤ 0; decide) (by show (0 : Int) + _ ≤ _; have := HL1.out; omega)
      exact ⟨h.1, h.2.trans HN.out⟩)
    rw [hx] at KR
    clear hx
    obtain ⟨cnt, hcnt⟩ : ∃ cnt, ((xOf calls).run l1).2 = cnt := ⟨_, rfl⟩
    rw [hcnt] at KR
    clear hcnt
    obtain ⟨lp, hlp⟩ : ∃ lp, l1.length = lp := ⟨_, rfl⟩
    rw [hlp] at KR
    rw [hlp]
    clear hlp
    go_upto_region 7 with (go_at_call 19; refine KR.out.mono ?_; rintro e w4 ⟨rfl, f4, hx4, m4⟩; have HX4 := Aside0.mk hx4; have M4 := Aside0.mk m4; clear hx4 m4)
    have KE := Aside0.mk (eventsX HX4.out XOK.out)
    obtain ⟨l, hl⟩ : ∃ l, x.events = l := ⟨_, rfl⟩
    have HL := Aside0.mk (show l.length ≤ 8208 ∧ ∃ last : Int, Good n x.steps ⟨fun _ => 0, fun _ => false, 0⟩ l ⟨x.at_, fun t => decide (0 < x.taken t), last⟩ by
      rw [← hl]
      refine ⟨XOK.out.few_le, ?_⟩
      obtain ⟨last, _, h⟩ := INV.out.1.good
      rw [INV.out.2] at h
      exact ⟨last, h⟩)
    rw [hl] at KE
    clear hl
    obtain ⟨m, hml⟩ : ∃ m, l.length = m := ⟨_, rfl⟩
    have HML := Aside0.mk hml
    have hm8 : m ≤ 8208 := by rw [← hml]; exact HL.out.1
    clear hml
    go_upto_region 10 with (first
      | (go_at_call 22; refine KE.out.mono ?_; rintro e w5 ⟨v, rfl, hR, hb⟩; obtain ⟨Ae, ce, hv⟩ := Kd.R_slice hR; rw [HML.out] at hv; subst hv; have R5 := Aside0.mk hR; have B5 := Aside0.mk hb; clear hR hb)
      | (have tok1 : True := trivial; refine Kd.R_make (Kd.int .i64) (w0 := w5) w5.heap.size 3 rfl (N := 32) rfl 23 (.tmp 31) (.tmp 31) rfl (n : Int) rfl rfl Try.underlying23 (.int .i64 0) 8 info3 rfl (by decide) (by decide) 0 (ok := fun k => w5.heap.size ≤ k) (okp := fun _ => False) rfl (fun _ h => h.elim) (Nat.le_refl _) (by omega) (by simp; omega) (Below.refl _ _) (Nat.le_refl _) ?_; intro v6 w6 hR hb hg hat; have R6 := Aside0.mk hR; have B6 := Aside0.mk hb; have O6 := Aside0.mk hat; clear hR hb hg hat)
      | (refine Kd.R_make Kd.bool (w0 := w6) w6.heap.size 4 rfl (N := 35) rfl 49 (.tmp 34) (.tmp 34) rfl (n : Int) rfl rfl Try.underlying49 (.bool false) 1 info4 rfl (by decide) (by decide) false (ok := fun k => w6.heap.size ≤ k) (okp := fun _ => False) rfl (fun _ h => h.elim) (Nat.le_refl _) (by omega) (by simp; omega) (Below.refl _ _) (Nat.le_refl _) ?_; intro v7 w7 hR hb hg hat; have R7 := Aside0.mk hR; have B7 := Aside0.mk hb; have O7 := Aside0.mk hat; clear hR hb hg hat))
    obtain ⟨gn, hgn, hgn2⟩ := O6.out
    obtain ⟨cn, hv6⟩ := row_form R6.out hgn
    obtain ⟨gu, hgu, hgu2⟩ := O7.out
    obtain ⟨cu, hv7⟩ := row_form R7.out hgu
    rw [List.length_replicate, Int.toNat_natCast] at hv6 hv7
    have r6 := R6.out
    have r7 := R7.out
    rw [hv6, Int.toNat_natCast] at r6
    rw [hv7, Int.toNat_natCast] at r7
    have rc : ∀ {α : Type} (a : α), (List.range n).map (fun _ => a) = List.replicate n a := fun a => by rw [List.map_const', List.length_range]
    have gnlt : gn < w6.heap.size := by
      obtain ⟨inner, ho⟩ := Kd.R_own r6
      exact own_lt ho gn (by simp [Value.ownBlock])
    have ST0 : Aside0 (OnceSt w1 (owns f4 w5.heap.size w5.heap.size) rb (fun id => w1.heap.size ≤ id ∧ id < w3.heap.size) x tv tb cv C w5.heap.size gn gu cn cu ce Ae l n 0 w7) := ⟨by
      have s1 := HX4.out.size.1
      have b57 : Below w5.heap.size w5 w7 := B6.out.trans (B7.out.mono B6.out.size)
      have b47 : Below w4.heap.size w4 w7 := B5.out.trans (b57.mono B5.out.size)
      have b17 : Below w1.heap.size w1 w7 := (B3.out.trans M4.out.below).trans (b47.mono s1)
      have r5 := Kd.R_bound R5.out
      refine ⟨HX4.out.mv (o := fun _ => False) (Mv.of_below (B := w4.heap.size) b47 (Nat.le_refl _) (fun k hk => owns_old _ _ _ _ (Nat.lt_of_lt_of_le hk B5.out.size))) (fun _ _ e => e), ?_, ?_, ?_, b17, fun k hk => owns_new _ _ _ _ hk, by omega, hgn2, by have := B6.out.size; omega, Nat.le_trans s1 B5.out.size, b57.size, fun i hi => Nat.lt_of_lt_of_le hi.2 (Nat.le_trans M4.out.below.size B5.out.size)⟩
      · show (Kd.int .i64).R 3 w7 w1.heap.size (fun k => k = gn) _ ((List.range n).map fun _ => (0 : Int))
        rw [rc]
        refine Kd.R_mono (Kd.R_lower (Kd.R_below (⟨fun k hk => ?_, r6.2⟩ : (Kd.int .i64).R 3 w6 w5.heap.size (fun k => k = gn) _ _) B7.out) (Nat.le_trans s1 B5.out.size)) (fun k hk => hk)
        simpa [Value.ownBlock] using hk.symm
      · show Kd.bool.R 4 w7 w1.heap.size (fun k => k = gu) _ ((List.range n).map fun _ => false)
        rw [rc]
        refine Kd.R_lower (⟨fun k hk => ?_, r7.2⟩ : Kd.bool.R 4 w7 w6.heap.size (fun k => k = gu) _ _) (Nat.le_trans s1 (Nat.le_trans B5.out.size B6.out.size))
        simpa [Value.ownBlock] using hk.symm
      · rw [HML.out]
        exact Kd.R_lower (Kd.R_below (Kd.R_mono r5 (fun k hk => hk.2.2.1)) b57) s1⟩
    subst hv6
    subst hv7
    clear r6 r7 rc gnlt hgn hgn2 hgu hgu2
    have FIN := Aside0.mk (show ∀ w', Below w1.heap.size w1 w' → Below W.heap.size W w' from fun w' hb => B1.out.trans (hb.mono B1.out.size))
    obtain ⟨f, hf⟩ : ∃ f, owns f4 w5.heap.size w5.heap.size = f := ⟨_, rfl⟩
    rw [hf] at ST0
    obtain ⟨P, hP⟩ : ∃ P, (fun id => w1.heap.size ≤ id ∧ id < w3.heap.size) = P := ⟨_, rfl⟩
    rw [hP] at ST0
    obtain ⟨sz, hsz⟩ : ∃ sz, w5.heap.size = sz := ⟨_, rfl⟩
    rw [hsz] at ST0
    clear hf hP hsz R5 R6 R7 B5 B6 B7 O6 O7 KE KR M4 HX4 HX B3 HO OK PW q36
    go_wp2
    go_loopw [10, 11] (fun va idx wr => ∃ i : Nat, i ≤ m ∧ idx = .int .i64 (i : Int) ∧ va = .int .i64 (chkAt l i).last ∧ Aside0 (OnceSt w1 f rb P x tv tb cv C sz gn gu cn cu ce Ae l n i wr)) (fun _ idx _ => m - (intOf idx).toNat)
    case atStart => exact ⟨0, Nat.zero_le _, rfl, rfl, ST0⟩
    case round =>
      obtain ⟨i, hi, rfl, rfl, SI⟩ := hrel
      by_cases hlt : i < m
      · have hil : i < l.length := by have := HML.out; omega
        obtain ⟨t, ht, ef1, ef2, hlast, hst, ef3⟩ := good_at i hil HL.out.2.choose_spec
        have er := SI.out.erow
        rw [HML.out] at er
        obtain ⟨ad, ea, z0, z1, z2, z3⟩ := at_T51 (R_C er).1 (i : Int) (by omega) (by omega)
        have hrd : rd_T51 l (i : Int) = l[i] := by
          simp only [rd_T51, Int.toNat_natCast]
          rw [List.getD_eq_getElem?_getD, List.getElem?_eq_getElem hil]
          rfl
        rw [hrd] at z0 z1 z2 z3
        subst ea
        simp only [Int.toNat_natCast] at z0 z1 z2 z3
        have hnx := chkAt_le l i (by omega) t
        change (chkAt l i).last ≤ l[i].f0 at hlast
        change l[i].f2 = ((chkAt l i).next t : Int) at ef2
        change l[i].f3 = (chkAt l i).under t at ef3
        obtain ⟨a, ha⟩ : ∃ a, (chkAt l i).next t = a := ⟨_, rfl⟩
        obtain ⟨st, hs0⟩ : ∃ st, l[i].f0 = st := ⟨_, rfl⟩
        obtain ⟨la, hla⟩ : ∃ la, (chkAt l i).last = la := ⟨_, rfl⟩
        rw [ha] at hnx ef2
        rw [hs0] at hst hlast z0
        rw [hla] at hlast
        rw [ef1] at z1
        rw [ef2] at z2
        obtain ⟨b, hb⟩ : ∃ b, l[i].f3 = b := ⟨_, rfl⟩
        rw [hb] at z3 ef3
        obtain ⟨s, hss⟩ : ∃ s, x.steps = s := ⟨_, rfl⟩
        rw [hss] at hst
        have FACT := Aside0.mk (And.intro hil (And.intro ef1 (And.intro hb (And.intro ha (And.intro hla (And.intro hs0 hss))))))
        have EU := Aside0.mk ef3
        have HI8 := Aside0.mk hnx
        have HT := Aside0.mk ht
        clear er hrd ef1 ef2 ef3 ha hs0 hb hss
        rw [hla]
        clear hla
        go_upto_region 15 with (fail)
        obtain ⟨wd, hwd⟩ : ∃ wd, wr.alloc (.cells #[.int .i64 st, .int .i64 (t : Int), .int .i64 (a : Int), .bool b] 51) = wd := ⟨_, rfl⟩
        obtain ⟨bx, hbx⟩ : ∃ bx, wr.heap.size = bx := ⟨_, rfl⟩
        rw [hwd, hbx]
        have bk : wd.heap[bx]? = some (.cells #[.int .i64 st, .int .i64 (t : Int), .int .i64 (a : Int), .bool b] 51 (0, 0)) := by rw [← hwd, ← hbx]; exact blk_new _ _
        have SD : Aside0 (OnceSt w1 f rb P x tv tb cv C sz gn gu cn cu ce (some ad) l n i wd) := ⟨by rw [← hwd]; exact SI.out.box (below_alloc (Below.refl _ _) _)⟩
        have HBX : Aside0 (sz ≤ bx) := ⟨by rw [← hbx]; exact SI.out.szr⟩
        have BK := Aside0.mk bk
        have y0 := blk_cell bk 0
        have y1 := blk_cell bk 1
        have y2 := blk_cell bk 2
        have y3 := blk_cell bk 3
        simp only [List.getElem?_toArray, List.getElem?_cons_zero, List.getElem?_cons_succ] at y0 y1 y2 y3
        obtain ⟨_, en, xn⟩ := (Kd.reads_of_C (d := 0) (R_C SD.out.nrow).1).at_ (t : Int) (by omega) (by have := HT.out; omega)
        obtain ⟨_, eu, xu⟩ := (Kd.reads_of_C (d := false) (R_C SD.out.urow).1).at_ (t : Int) (by omega) (by have := HT.out; omega)
        injection en with en
        injection eu with eu
        subst en eu
        have vn : rdOf 0 ((List.range n).map fun t => ((chkAt l i).next t : Int)) (t : Int) = (a : Int) := by
          simp only [rdOf, Int.toNat_natCast]
          rw [List.getD_eq_getElem?_getD, List.getElem?_map, List.getElem?_range HT.out, ← FACT.out.2.2.2.1]
          rfl
        have vu : rdOf false ((List.range n).map (chkAt l i).under) (t : Int) = b := by
          simp only [rdOf, Int.toNat_natCast]
          rw [List.getD_eq_getElem?_getD, List.getElem?_map, List.getElem?_range HT.out, EU.out]
          rfl
        rw [vn, Int.toNat_natCast, add_plain] at xn
        rw [vu, Int.toNat_natCast, add_plain] at xu
        have KS := Aside0.mk (fun q => (show Calls Try.prog 23 #[.pointer (some ⟨rb, 0, none⟩)] (wd.drewN q) (fun e w'' => e = .returned (.int .i64 s) ∧ ∃ m, w'' = wd.drewN m) from by
          have h := stepsX (SD.out.run.below (pw_below_drewN (Below.refl _ _) q))
          rw [FACT.out.2.2.2.2.2.2] at h
          exact h.mono (fun _ _ hh => ⟨hh.1, q, hh.2.symm⟩)))
        have hntn := HT.out
        have i0 : decide ((t : Int) < 0) = false := decide_eq_false (by omega)
        have i1 : decide ((n : Int) ≤ (t : Int)) = false := decide_eq_false (by omega)
        have i2 : decide (st < la) = false := decide_eq_false (by omega)
        have i3 : decide (s ≤ st) = false := decide_eq_false (by omega)
        have i4 : decide ((t : Int) < (n : Int)) = true := decide_eq_true (by omega)
        clear vn vu bk hwd hbx z0 z1 z2 z3 hst hlast
        go_quiet ((go_at_call 23; exact KS.out _))
        generalize hwq : World.drewN wd nq = wq
        have SQ : Aside0 (OnceSt w1 f rb P x tv tb cv C sz gn gu cn cu ce (some ad) l n i wq) := ⟨by rw [← hwq]; exact SD.out.box (pw_below_drewN (Below.refl _ _) _)⟩
        have bq : wq.heap[bx]? = some (.cells #[.int .i64 st, .int .i64 (t : Int), .int .i64 (a : Int), .bool b] 51 (0, 0)) := by rw [← hwq]; exact BK.out
        have q0 := blk_cell bq 0
        have q1 := blk_cell bq 1
        have q3 := blk_cell bq 3
        simp only [List.getElem?_toArray, List.getElem?_cons_zero, List.getElem?_cons_succ] at q0 q1 q3
        have xn' : wq.cell? ⟨gn, t, none⟩ = some (.int .i64 (a : Int)) := by rw [← hwq]; exact xn
        have xu' : wq.cell? ⟨gu, t, none⟩ = some (.bool b) := by rw [← hwq]; exact xu
        obtain ⟨cn1, hcn⟩ := own_typed (Kd.R_own SQ.out.nrow).choose_spec gn (by simp [Value.ownBlock])
        obtain ⟨cu1, hcu⟩ := own_typed (Kd.R_own SQ.out.urow).choose_spec gu (by simp [Value.ownBlock])
        have fn1 := blk_frozen hcn t
        have fu1 := blk_frozen hcu t
        have n1 : ¬ gn = gu := SQ.out.ne
        have n2 : ¬ bx = gn := blk_ne bq hcn (by decide)
        have n3 : ¬ bx = gu := blk_ne bq hcu (by decide)
        have n4 : ¬ gn = bx := fun e => n2 e.symm
        have n5 : ¬ gu = bx := fun e => n3 e.symm
        have n6 : ¬ gu = gn := fun e => n1 e.symm
        have hal : (a : Int) ≤ 8208 := by have := HI8.out; omega
        clear y0 y1 y2 y3 xn xu bq hcn hcu hwq i0 i1 i2 i3
        cases b with
        | true =>
          have SE : Aside0 (OnceSt w1 f rb P x tv tb cv C sz gn gu cn cu ce (some ad) l n (i + 1) ((wq.setCell ⟨gn, t, none⟩ (.int .i64 ((a : Int) + 1))).setCell ⟨gu, t, none⟩ (.bool false))) := ⟨by
            have h := SQ.out.end_ FACT.out.1 t FACT.out.2.1 FACT.out.2.2.1
            rw [FACT.out.2.2.2.1] at h
            exact h⟩
          have EL : Aside0 ((chkAt l (i + 1)).last = st) := ⟨by rw [chkAt_succ l i FACT.out.1]; exact FACT.out.2.2.2.2.2.1⟩
          go_wp2
          go_roundw
          case rel => exact ⟨i + 1, by omega, by go_num, by rw [EL.out], SE⟩
          case measure => simp [intOf]; omega
        | false =>
          have SE : Aside0 (OnceSt w1 f rb P x tv tb cv C sz gn gu cn cu ce (some ad) l n (i + 1) (wq.setCell ⟨gu, t, none⟩ (.bool true))) := ⟨SQ.out.begin FACT.out.1 t FACT.out.2.1 FACT.out.2.2.1⟩
          have EL : Aside0 ((chkAt l (i + 1)).last = st) := ⟨by rw [chkAt_succ l i FACT.out.1]; exact FACT.out.2.2.2.2.2.1⟩
          go_wp2
          go_roundw
          case rel => exact ⟨i + 1, by omega, by go_num, by rw [EL.out], SE⟩
          case measure => simp [intOf]; omega
      · have hkl : i = m := by omega
        subst hkl
        go_wp2
        go_ret
        exact ⟨rfl, FIN.out _ SI.out.below⟩
end Go.Proofs.Ytkigbgabnbjomaa.Sched
namespace Go.Proofs.Ytkigbgabnbjomaa.Main
open Go.Proofs.Ytkigbgabnbjomaa.Sched Go.Proofs.Ytkigbgabnbjomaa.PSchedPlays
open Go.RowKit Go.Proofs.YtkigbgabnbjomaaW.PrintWords Go.Proofs.YtkigbgabnbjomaaW.PrintLast Go.Proofs.YtkigbgabnbjomaaW.PrintMore
set_option linter.unusedVariables false
set_option linter.unusedSimpArgs false
theorem SchedOnce (W : World) (A0 : Option Addr) (c0 : Nat) (l0 : List (List (List (Bool × (Bool × (List Int)))))) (A1 : Option Addr) (c1 : Nat) (l1 : List Int) (hC0 : Kd.C (Kd.slice 22 (Kd.slice 26 (Kd.pair Kd.bool (Kd.pair Kd.bool (Kd.slice 3 (Kd.int .i64)))))) W A0 l0.length l0) (hc0 : l0.length ≤ c0) (hG0 : (fun l => l.length * 24 ≤ 140737488351232 ∧ l.length ≤ 9223372036854775807 ∧ ∀ x ∈ l, (fun l => l.length * 24 ≤ 140737488351232 ∧ l.length ≤ 9223372036854775807 ∧ ∀ x ∈ l, (fun l => l.length * 32 ≤ 140737488351232 ∧ l.length ≤ 9223372036854775807 ∧ ∀ x ∈ l, (fun x => (fun _ => True) x.1 ∧ (fun x => (fun _ => True) x.1 ∧ (fun l => l.length * 8 ≤ 140737488351232 ∧ l.length ≤ 9223372036854775807 ∧ ∀ x ∈ l, (fun x => (Lit.int .i64 x).wf = true) x) x.2) x.2) x) x) x) l0) (hC1 : Kd.C (Kd.int .i64) W A1 l1.length l1) (hc1 : l1.length ≤ c1) (hG1 : (fun l => l.length * 8 ≤ 140737488351232 ∧ l.length ≤ 9223372036854775807 ∧ ∀ x ∈ l, (fun x => (Lit.int .i64 x).wf = true) x) l1) :
    Calls Try.prog 5 #[.slice A0 l0.length c0, .slice A1 l1.length c1] W fun e w' => e = .returned (.bool true) ∧ Below W.heap.size W w' := by
  have h := law_Once W A0 c0 (c26 l0) A1 c1 l1 (by rw [c26_length]; exact C_c26 hC0) (sizes_c26 hG0.1 (fun x hx => ⟨(hG0.2.2 x hx).1, fun y hy => ⟨((hG0.2.2 x hx).2.2 y hy).1, fun z hz => (((hG0.2.2 x hx).2.2 y hy).2.2 z hz).2.2.1⟩⟩)) hC1 (by have := hG1.1; omega)
  rw [c26_length] at h
  exact h
end Go.Proofs.Ytkigbgabnbjomaa.Main
