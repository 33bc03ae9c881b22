/- Who owns a block; turns and plays: copied, NewPlay, Step walked.
   No condition. -/
import Derived.Test.YtkigbgabnbjomaaPSchedPlaysx0
import Derived.ArgAppend
import Derived.BigRegion
import Derived.Deep.QuietTactic
import Derived.BigQuiet
import Derived.Deep.RegionHeld3
import Derived.ChangeAlike
import Derived.RegionTactic
import Derived.Deep.DeepCutAuto
import Derived.Deep.CutBlock
import Derived.Deep.RegionLaw
import Derived.StillTailTactics
import Derived.WalkSpells
import Derived.Lib.SliceRun
namespace Go.Proofs.Ytkigbgabnbjomaa.Sched
open Go.Proofs.Ytkigbgabnbjomaa.PSchedPlays
open Go.RowKit Go.Proofs.YtkigbgabnbjomaaW.PrintWords Go.Proofs.YtkigbgabnbjomaaW.PrintLast Go.Proofs.YtkigbgabnbjomaaW.PrintMore
attribute [local go_sem] max2_int min2_int max_two min_two   -- for this text's walks alone
set_option linter.unusedVariables false
set_option linter.unusedSimpArgs false
/-! ### Short names, for the printed walks -/
abbrev T : Bool := true
abbrev F : Bool := false
theorem sA {α : Type} {xs : List α} {i : Nat} {x : α} : xs.toArray.setIfInBounds i x = (xs.set i x).toArray := List.setIfInBounds_toArray xs i x
theorem s0_ {α : Type} {x y : α} {xs : List α} : (x :: xs).set 0 y = y :: xs := List.set_cons_zero
theorem sS {α : Type} {x y : α} {xs : List α} {i : Nat} : (x :: xs).set (i + 1) y = x :: xs.set i y := List.set_cons_succ
/-! ### Who a block belongs to -/
abbrev Owner := Nat → Nat
/-- From w to w1: what o does not let in is as it was; elder blocks keep their owners. -/
structure Mv (B : Nat) (o : Nat → Prop) (f : Owner) (w : World) (f1 : Owner) (w1 : World) : Prop where
  below : Below B w w1
  keep : ∀ k, k < w.heap.size → ¬ o (f k) → w1.heap[k]? = w.heap[k]?
  old : ∀ k, k < w.heap.size → f1 k = f k
theorem Mv.refl (B : Nat) (o : Nat → Prop) (f : Owner) (w : World) : Mv B o f w f w := ⟨Below.refl _ _, fun _ _ _ => rfl, fun _ _ => rfl⟩
theorem Mv.trans {B : Nat} {o : Nat → Prop} {f f1 f2 : Owner} {w w1 w2 : World} (h : Mv B o f w f1 w1) (k : Mv B o f1 w1 f2 w2) : Mv B o f w f2 w2 :=
  ⟨h.below.trans k.below, fun i hi ho => (k.keep i (Nat.lt_of_lt_of_le hi h.below.size) (by rw [h.old i hi]; exact ho)).trans (h.keep i hi ho), fun i hi => (k.old i (Nat.lt_of_lt_of_le hi h.below.size)).trans (h.old i hi)⟩
theorem Mv.mono {B : Nat} {o o' : Nat → Prop} {f f1 : Owner} {w w1 : World} (h : Mv B o f w f1 w1) (ho : ∀ i, o i → o' i) : Mv B o' f w f1 w1 := ⟨h.below, fun k hk hn => h.keep k hk (fun e => hn (ho _ e)), h.old⟩
theorem Mv.lower {B B' : Nat} {o : Nat → Prop} {f f1 : Owner} {w w1 : World} (h : Mv B o f w f1 w1) (hB : B' ≤ B) : Mv B' o f w f1 w1 := ⟨h.below.mono hB, h.keep, h.old⟩
/-- New memory alone: the new blocks may be whosever. -/
theorem Mv.of_below {B : Nat} {o : Nat → Prop} {f f1 : Owner} {w w1 : World} (h : Below w.heap.size w w1) (hB : B ≤ w.heap.size) (hf : ∀ k, k < w.heap.size → f1 k = f k) : Mv B o f w f1 w1 := ⟨h.mono hB, fun k hk _ => h.block k hk, hf⟩
theorem Mv.drewN {B : Nat} {o : Nat → Prop} {f f1 : Owner} {w w1 : World} (h : Mv B o f w f1 w1) (n : Nat) : Mv B o f w f1 (w1.drewN n) := ⟨pw_below_drewN h.below n, h.keep, h.old⟩
theorem Mv.set {B : Nat} {o : Nat → Prop} {f f1 : Owner} {w w1 : World} (h : Mv B o f w f1 w1) (p : Addr) (u : Value) (hB : B ≤ p.block) (hp : p.block < w.heap.size → o (f p.block)) : Mv B o f w f1 (w1.setCell p u) :=
  ⟨h.below.setCell hB u, fun k hk ho => by
    rw [Below.heap_setCell _ _ _ _ (fun e => ho (by rw [e]; exact hp (by rw [← e]; exact hk)))]
    exact h.keep k hk ho, h.old⟩
theorem Mv.alloc {B : Nat} {o : Nat → Prop} {f f1 : Owner} {w w1 : World} (h : Mv B o f w f1 w1) (hB : B ≤ w.heap.size) (x : Obj) : Mv B o f w f1 (w1.alloc x) :=
  ⟨h.below.alloc (Nat.le_trans hB h.below.size) x, fun k hk ho => (Below.heap_alloc w1 x k (Nat.lt_of_lt_of_le hk h.below.size)).trans (h.keep k hk ho), h.old⟩
/-- A row of some owner's has been written. -/
theorem Mv.grown {B : Nat} {o : Nat → Prop} {f f1 : Owner} {w w1 w2 : World} {row : Option Nat} (h : Mv B o f w f1 w1) (hB : B ≤ w.heap.size) (hg : w1.grownBy w2 row) (hr : ∀ k, row = some k → B ≤ k ∧ (k < w.heap.size → o (f k))) : Mv B o f w f1 w2 :=
  ⟨h.below.grown hg (Nat.le_trans hB h.below.size) (fun k hk => (hr k hk).1), fun k hk ho => by
    refine (hg.block k (Nat.lt_of_lt_of_le hk h.below.size) (fun e => ho ((hr k e.symm).2 hk))).trans (h.keep k hk ho), h.old⟩
/-- New blocks get this owner. -/
def owns (f : Owner) (n id : Nat) : Owner := fun k => if k < n then f k else id
theorem owns_old (f : Owner) (n id k : Nat) (h : k < n) : owns f n id k = f k := if_pos h
theorem owns_new (f : Owner) (n id k : Nat) (h : n ≤ k) : owns f n id k = id := if_neg (by omega)
theorem Mv.own {B : Nat} {o : Nat → Prop} {f f1 f2 : Owner} {w w1 : World} (h : Mv B o f w f1 w1) (hf : ∀ k, k < w.heap.size → f2 k = f1 k) : Mv B o f w f2 w1 := ⟨h.below, h.keep, fun k hk => (hf k hk).trans (h.old k hk)⟩
theorem Mv.blk {B : Nat} {o : Nat → Prop} {f f1 : Owner} {w w1 : World} (h : Mv B o f w f1 w1) {g : Nat} {x : Obj} (hb : w.heap[g]? = some x) (hn : ¬ o (f g)) : w1.heap[g]? = some x := (h.keep g (blk_lt hb) hn).trans hb
theorem Mv.own_at {B : Nat} {o : Nat → Prop} {f f1 : Owner} {w w1 : World} (h : Mv B o f w f1 w1) {g : Nat} {x : Obj} (hb : w.heap[g]? = some x) : f1 g = f g := h.old g (blk_lt hb)
/-- A row of another's stays. -/
theorem Mv.row {B b e : Nat} {o ok ok1 : Nat → Prop} {f f1 : Owner} {w w1 : World} {α : Type} {d : Kd α} {v : Value} {xs : List α} (h : Mv B o f w f1 w1) (hr : d.R e w b ok v xs) (hn : ∀ k, ok k → k < w.heap.size → ¬ o (f k)) (hk : ∀ k, ok k → k < w.heap.size → ok1 k) : d.R e w1 b ok1 v xs :=
  Kd.R_mono (Kd.R_step (Kd.R_mono (Kd.R_bound hr) (fun k hk => (⟨hk.1, hk.2.2.1⟩ : ok k ∧ k < w.heap.size))) (fun k hk _ => h.keep k hk.2 (hn k hk.1 hk.2))) (fun k hx => hk k hx.1 hx.2)
/-! ### Turns, plays, the runner: plain -/


/-- What the k-th step of a play tells. -/
def pTurn (turns : List S26) (k : Nat) : S26 :=
  if turns.length = 0 then ⟨true, false, []⟩ else
    let i := if k < turns.length - 1 then k else turns.length - 1
    let t := turns.getD i z26
    ⟨t.f0 || decide (i = turns.length - 1), t.f1, t.f2⟩


/-- The runner as its memory has it: bg: has a task's call begun; tk: by whom each play was stepped. -/
structure M where
  n : Nat
  len : Nat → Nat
  proc : Nat → Nat → Option (List S26)
  at_ : Nat → Nat
  bg : Nat → Bool
  waits : Nat → Bool
  steps : Int
  events : List S51
  tk : Nat → Nat → List Int
def M.can (x : M) (t : Nat) : Bool := decide (x.at_ t < x.len t) && !x.waits t
def M.ready (x : M) : List Nat := (List.range x.n).filter x.can
def M.waiting (x : M) : List Nat := (List.range x.n).filter x.waits
def M.more (x : M) (t : Nat) : Bool := decide (x.at_ t < x.len t)
def M.left (x : M) : List Nat := (List.range x.n).filter x.more
def M.done (x : M) : Bool := x.left.length == 0
def M.stuck (x : M) : Bool := !x.done && x.ready.length == 0
/-- Tasks whose calls are plays (or nil). -/
structure X where
  n : Nat
  len : Nat → Nat
  proc : Nat → Nat → Option (List S26)
  at_ : Nat → Nat
  taken : Nat → Nat
  waits : Nat → Bool
  steps : Int
  events : List S51
def X.can (x : X) (t : Nat) : Bool := decide (x.at_ t < x.len t) && !x.waits t
def X.ready (x : X) : List Nat := (List.range x.n).filter x.can
def X.waiting (x : X) : List Nat := (List.range x.n).filter x.waits
def X.more (x : X) (t : Nat) : Bool := decide (x.at_ t < x.len t)
def X.left (x : X) : List Nat := (List.range x.n).filter x.more
def X.done (x : X) : Bool := x.left.length == 0
def X.stuck (x : X) : Bool := !x.done && x.ready.length == 0
/-- .. in memory. -/
def X.mem (x : X) (tk : Nat → Nat → List Int) : M := ⟨x.n, x.len, x.proc, x.at_, fun t => decide (0 < x.taken t), x.waits, x.steps, x.events, tk⟩
/-- What the next step of a task tells. -/
def X.told (x : X) (t : Nat) : S26 := match x.proc t (x.at_ t) with
  | some turns => pTurn turns (x.taken t)
  | none => ⟨true, false, []⟩
def X.begins (x : X) (t : Nat) : List S51 := if x.taken t = 0 then [⟨x.steps, (t : Int), (x.at_ t : Int), false⟩] else []
def X.ends (x : X) (t : Nat) : List S51 := if (x.told t).f0 then [⟨x.steps, (t : Int), (x.at_ t : Int), true⟩] else []
def X.step (x : X) (t : Nat) : X :=
  { x with
    at_ := fun u => if u = t then (if (x.told t).f0 then x.at_ t + 1 else x.at_ t) else x.at_ u
    taken := fun u => if u = t then (if (x.told t).f0 then 0 else x.taken t + 1) else x.taken u
    waits := fun u => if (u : Int) ∈ (x.told t).f2 then false else if u = t then ((x.told t).f1 && !(x.told t).f0) else x.waits u
    steps := wrap64 (x.steps + 1)
    events := x.events ++ x.begins t ++ x.ends t }
def X.pickable (x : X) (p : Int) : Bool := decide (0 ≤ p) && decide (p ≤ 2147483647) && !(x.ready.length == 0)
def X.who (x : X) (p : Int) : Nat := x.ready.getD (p.toNat % x.ready.length) 0
/-- A pick: the runner behind it; who took a step; whether one was taken. -/
def X.pick (x : X) (p : Int) : X × Nat × Bool := if x.pickable p then (x.step (x.who p), x.who p, true) else (x, 0, false)
def X.run (x : X) : List Int → X × Nat
  | [] => (x, 0)
  | p :: l => let y := (x.pick p).1.run l; (y.1, y.2 + if (x.pick p).2.2 then 1 else 0)
def X.finish (x : X) : Nat → X
  | 0 => x
  | n + 1 => if x.pickable 0 then (x.step (x.who 0)).finish n else x
/-- No call has begun. -/
def X.new (n : Nat) (len : Nat → Nat) (proc : Nat → Nat → Option (List S26)) : X := ⟨n, len, proc, fun _ => 0, fun _ => 0, fun _ => false, 0, []⟩
/-- A call's steps: how many turns at least. -/
def stepsOf : Option (List S26) → Nat
  | some turns => if turns.length = 0 then 1 else turns.length
  | none => 1
def sumTo (g : Nat → Nat) : Nat → Nat
  | 0 => 0
  | n + 1 => sumTo g n + g n
theorem sumTo_congr (g g' : Nat → Nat) : ∀ n, (∀ u, u < n → g' u = g u) → sumTo g' n = sumTo g n
  | 0, _ => rfl
  | n + 1, h => by
    unfold sumTo
    rw [sumTo_congr g g' n (fun u hu => h u (by omega)), h n (by omega)]
theorem sumTo_upd (g g' : Nat → Nat) (t : Nat) : ∀ n, t < n → (∀ u, u ≠ t → g' u = g u) → sumTo g' n + g t = sumTo g n + g' t
  | 0, h, _ => by omega
  | n + 1, h, hu => by
    unfold sumTo
    by_cases e : t = n
    · subst e
      rw [sumTo_congr g g' t (fun u h => hu u (by omega))]
      omega
    · have := sumTo_upd g g' t n (by omega) hu
      rw [hu n (fun e2 => e e2.symm)]
      omega
theorem sumTo_le (g : Nat → Nat) (b : Nat) : ∀ n, (∀ u, u < n → g u ≤ b) → sumTo g n ≤ n * b
  | 0, _ => by simp [sumTo]
  | n + 1, h => by
    unfold sumTo
    have := sumTo_le g b n (fun u hu => h u (by omega))
    have := h n (by omega)
    rw [Nat.add_mul, Nat.one_mul]
    omega
/-- How many events a task has had. -/
def X.weight (x : X) (t : Nat) : Nat := 2 * x.at_ t + if 0 < x.taken t then 1 else 0
/-- What always holds. -/
structure X.Ok (x : X) : Prop where
  n16 : x.n ≤ 16
  len256 : ∀ t, t < x.n → x.len t ≤ 256
  at_le : ∀ t, t < x.n → x.at_ t ≤ x.len t
  taken_lt : ∀ t, t < x.n → x.at_ t < x.len t → x.taken t < stepsOf (x.proc t (x.at_ t))
  taken_0 : ∀ t, t < x.n → x.len t ≤ x.at_ t → x.taken t = 0
  short : ∀ (t c : Nat) turns, t < x.n → x.proc t c = some turns → turns.length * 32 ≤ 140737488355328 ∧ ∀ y ∈ turns, y.f2.length * 8 ≤ 140737488355328
  few : x.events.length = sumTo x.weight x.n
theorem X.Ok.few_le {x : X} (h : x.Ok) : x.events.length ≤ 8208 := by
  rw [h.few]
  have h1 := sumTo_le x.weight 513 x.n (fun u hu => by
    unfold X.weight
    have := h.at_le u hu
    have := h.len256 u hu
    split <;> omega)
  have := h.n16
  have : x.n * 513 ≤ 16 * 513 := Nat.mul_le_mul_right _ this
  omega
theorem pTurn_more {turns : List S26} {k : Nat} (h : (pTurn turns k).f0 = false) : k + 1 < turns.length := by
  unfold pTurn at h
  split at h
  · simp at h
  · rename_i h0
    by_cases hk : k < turns.length - 1
    · omega
    · rw [if_neg hk] at h
      simp at h
theorem stepsOf_pos (o : Option (List S26)) : 0 < stepsOf o := by
  unfold stepsOf
  split
  · split <;> omega
  · omega
theorem X.step_ok {x : X} (h : x.Ok) (t : Nat) (ht : t < x.n) (ha : x.at_ t < x.len t) : (x.step t).Ok := by
  have hmore : (x.told t).f0 = false → x.taken t + 1 < stepsOf (x.proc t (x.at_ t)) := fun hf => by
    unfold X.told at hf
    cases hp : x.proc t (x.at_ t) with
    | none => rw [hp] at hf; simp at hf
    | some turns =>
      rw [hp] at hf
      have := pTurn_more hf
      unfold stepsOf
      simp only
      rw [if_neg (by omega)]
      exact this
  refine ⟨h.n16, h.len256, ?_, ?_, ?_, h.short, ?_⟩
  · intro u hu
    show (if u = t then (if (x.told t).f0 then x.at_ t + 1 else x.at_ t) else x.at_ u) ≤ x.len u
    by_cases e : u = t
    · subst e; rw [if_pos rfl]; split <;> omega
    · rw [if_neg e]; exact h.at_le u hu
  · intro u hu
    show (if u = t then (if (x.told t).f0 then x.at_ t + 1 else x.at_ t) else x.at_ u) < x.len u → (if u = t then (if (x.told t).f0 then 0 else x.taken t + 1) else x.taken u) < stepsOf (x.proc u (if u = t then (if (x.told t).f0 then x.at_ t + 1 else x.at_ t) else x.at_ u))
    by_cases e : u = t
    · subst e
      simp only [if_true]
      cases hf : (x.told u).f0 with
      | true => simp only [if_true]; intro _; exact stepsOf_pos _
      | false => simp only [Bool.false_eq_true, if_false]; intro _; exact hmore hf
    · simp only [if_neg e]; exact h.taken_lt u hu
  · intro u hu
    show x.len u ≤ (if u = t then (if (x.told t).f0 then x.at_ t + 1 else x.at_ t) else x.at_ u) → (if u = t then (if (x.told t).f0 then 0 else x.taken t + 1) else x.taken u) = 0
    by_cases e : u = t
    · subst e
      simp only [if_true]
      cases hf : (x.told u).f0 with
      | true => simp
      | false => simp only [Bool.false_eq_true, if_false]; intro hl; omega
    · simp only [if_neg e]; exact h.taken_0 u hu
  · have h1 := sumTo_upd x.weight (x.step t).weight t x.n ht (fun u hu => by
      show 2 * (if u = t then _ else x.at_ u) + (if 0 < (if u = t then _ else x.taken u) then 1 else 0) = _
      simp only [if_neg hu]
      rfl)
    have h2 : (x.step t).events.length = x.events.length + (x.begins t).length + (x.ends t).length := by
      show (x.events ++ x.begins t ++ x.ends t).length = _
      rw [List.length_append, List.length_append]
    have h3 : (x.step t).weight t = (if (x.told t).f0 then 2 * x.at_ t + 2 else 2 * x.at_ t + 1) := by
      show 2 * (if t = t then (if (x.told t).f0 then x.at_ t + 1 else x.at_ t) else _) + (if 0 < (if t = t then (if (x.told t).f0 then 0 else x.taken t + 1) else _) then 1 else 0) = _
      simp only [if_true]
      cases (x.told t).f0 <;> simp <;> omega
    have h4 : x.weight t = 2 * x.at_ t + if 0 < x.taken t then 1 else 0 := rfl
    have h5 : (x.begins t).length = if 0 < x.taken t then 0 else 1 := by
      unfold X.begins
      by_cases e : x.taken t = 0
      · rw [if_pos e, if_neg (by omega)]; rfl
      · rw [if_neg e, if_pos (by omega)]; rfl
    have h6 : (x.ends t).length = if (x.told t).f0 then 1 else 0 := by
      unfold X.ends
      cases (x.told t).f0 <;> rfl
    show (x.step t).events.length = sumTo (x.step t).weight x.n
    rw [h2, h.few, h5, h6]
    rw [h3, h4] at h1
    cases hf : (x.told t).f0 <;> rw [hf] at h1 <;> by_cases hk : 0 < x.taken t <;> simp [hk] at h1 ⊢ <;> omega
/-- A new row of the call's own is handed back. -/
def Made {α : Type} (d : Kd α) (e : Nat) (w : World) (xs : List α) (en : Ending) (w' : World) : Prop := ∃ v, en = .returned v ∧ d.R e w' w.heap.size (fun k => w.heap.size ≤ k) v xs ∧ Below w.heap.size w w'
set_option maxHeartbeats 1000000 in
theorem clone34 {A : Option Addr} {n c : Nat} {xs : List Int} {w : World} (hC : (Kd.int .i64).C w A n xs) (hc : n ≤ c) (hl : n * 8 ≤ 140737488355328) :
    Calls Try.prog 34 #[.slice A n c] w (Made (Kd.int .i64) 3 w xs) := by
  have qT : ∀ (w : World) (a : Option Addr) (n c n' c' : Nat), (binOp .eql 23 (.slice a n c) (.slice none n' c')).run Try.prog w = .ok (.bool a.isNone) w := fun w a n c n' c' => Go.Lib.run_eql_slice_nil w _ _ a n c n' c' Try.underlying23
  have HC := Aside0.mk hC
  cases A with
  | none =>
    have hn : n = 0 := by
      rcases Nat.eq_zero_or_pos n with h | h
      · exact h
      · obtain ⟨ad, e, _⟩ := hC.2.2 h; simp at e
    subst hn
    have hx : xs = [] := List.length_eq_zero_iff.1 hC.1
    subst hx
    clear hC
    go_enter Try.func34, Try.ntmps34
    go_wp2
    go_ret
    exact ⟨_, rfl, Kd.R_nil _ _ _ _ _, Below.refl _ _⟩
  | some ad =>
    clear hC
    go_enter Try.func34, Try.ntmps34
    go_wp2_with (at_builtin; refine Kd.R_append_rows (Kd.int .i64) (w0 := w) w.heap.size rfl (.tmp 5) (.tmp 6) 23 3 (.int .i64 0) 8 rfl Try.underlying23 info3 rfl (by decide) (by decide) (.slice (some ⟨w.heap.size, 0, none⟩) 0 0) [] xs (some ad) n c (fun k => w.heap.size ≤ k) (fun _ => False) rfl rfl (Kd.R_of_own (enc := Value.int .i64) (h1 := fun _ => rfl) (World.ownsRow_made w #[] 0 (Nat.le_refl _) (by simp [maxLen]) rfl) (fun k hk => by simp [Value.ownBlock] at hk; omega)) (Kd.C_below HC.out (below_alloc (Below.refl _ _) _)) (fun x cs h => h) (fun k h => h.elim) (fun k h => by simp at h; omega) (below_alloc (Below.refl _ _) _) (by simp) (by simpa using hl) ?_; intro v1 w1 hR hb hg hat; have HR := Aside0.mk hR; have HB := Aside0.mk hb; clear hR hb hg hat)
    go_ret
    exact ⟨_, rfl, HR.out, HB.out⟩
theorem results_c {P : Program} {fn : Func} {p : Tmp} {ty : TypeId} (h : fn.results = #[.cell p ty]) (tmps : Array Value) (w : World) (g : Nat) (t : TypeId) (cs : Array Value) (fr : Nat × Nat) (d : TypeDesc)
    (hp : tmps.getD p undef = .pointer (some ⟨g, 0, none⟩)) (hg : w.heap[g]? = some (.cells cs t fr))
    (hu : P.underlying ty = some d) (hd : (match d with | .struct _ | .array _ _ => true | _ => false) = true) (hi : (P.info? ty).map (·.size) = some cs.size) :
    (results fn tmps).run P w = .ok (.agg cs) w := by
  have hp' : tmps[p]?.getD undef = .pointer (some ⟨g, 0, none⟩) := by simpa using hp
  simp [results, h, hp', asAddr, run_loadVar_row w g t ty cs fr d hg hu hd hi]
theorem put3 {w : World} {g : Nat} {t : TypeId} {c0 c1 c2 : Value} (h : w.heap[g]? = some (.cells #[c0, c1, c2] t (0, 0))) (u0 u1 u2 : Value) :
    (((w.setCell ⟨g, 0, none⟩ u0).setCell ⟨g, 1, none⟩ u1).setCell ⟨g, 2, none⟩ u2).heap[g]? = some (.cells #[u0, u1, u2] t (0, 0)) :=
  blk_put (blk_put (blk_put h 0 u0 rfl) 1 u1 rfl) 2 u2 rfl
theorem below_set' {B : Nat} {w W : World} (h : Below B w W) {g i : Nat} (hg : B ≤ g) {u : Value} : Below B w (W.setCell ⟨g, i, none⟩ u) := h.setCell hg u
theorem below3 {B : Nat} {w W : World} {g : Nat} (h : Below B w W) (hg : B ≤ g) (u0 u1 u2 : Value) : Below B w (((W.setCell ⟨g, 0, none⟩ u0).setCell ⟨g, 1, none⟩ u1).setCell ⟨g, 2, none⟩ u2) :=
  below_set' (below_set' (below_set' h hg) hg) hg
theorem far3 {α : Type} {d : Kd α} {e : Nat} {w : World} {base : Nat} {ok : Nat → Prop} {v : Value} {xs : List α} (h : d.R e w base ok v xs) {g : Nat} (hg : ∀ k, ok k → k ≠ g) (u0 u1 u2 : Value) :
    d.R e (((w.setCell ⟨g, 0, none⟩ u0).setCell ⟨g, 1, none⟩ u1).setCell ⟨g, 2, none⟩ u2) base ok v xs :=
  Kd.R_far (p := ⟨g, 2, none⟩) (Kd.R_far (p := ⟨g, 1, none⟩) (Kd.R_far (p := ⟨g, 0, none⟩) h hg u0) hg u1) hg u2
/-- A turn in new memory is handed back. -/
def MadeTurn (w : World) (x : S26) (en : Ending) (w' : World) : Prop := ∃ v, en = .returned (.agg #[.bool x.f0, .bool x.f1, v]) ∧ (Kd.int .i64).R 3 w' w.heap.size (fun k => w.heap.size ≤ k) v x.f2 ∧ Below w.heap.size w w'
set_option maxHeartbeats 1000000 in
theorem copied_walk {A : Option Addr} {n c : Nat} {x : S26} {w : World} (hC : (Kd.int .i64).C w A n x.f2) (hc : n ≤ c) (hl : n * 8 ≤ 140737488355328) :
    Calls Try.prog 33 #[.agg #[.bool x.f0, .bool x.f1, .slice A n c]] w (MadeTurn w x) := by
  have HC := Aside0.mk hC
  have HL := Aside0.mk hl
  have HCC := Aside0.mk hc
  clear hC hl hc
  obtain ⟨g, hg⟩ : ∃ g, w.heap.size = g := ⟨_, rfl⟩
  have HG := Aside0.mk hg
  have HA := Aside0.mk (below_alloc (below_alloc (Below.refl w.heap.size w) (.cells #[.bool x.f0, .bool x.f1, .slice A n c] 26)) (.cells #[.bool false, .bool false, .slice none 0 0] 26))
  go_enter Try.func33, Try.ntmps33
  go_wp2_with (go_at_call 34; refine (clone34 (Kd.C_below HC.out (below_alloc (below_alloc (Below.refl _ _) _) _)) HCC.out HL.out).mono ?_; rintro e w1 ⟨v, rfl, hR, hb⟩; obtain ⟨A1, c1, rfl⟩ := Kd.R_slice hR; have HR := Aside0.mk hR; have HB := Aside0.mk hb; have b0 := blk_below (blk_alloc (blk_new w (.cells #[.bool x.f0, .bool x.f1, .slice A n c] 26)) (.cells #[.bool false, .bool false, .slice none 0 0] 26)) hb; have b1 := blk_below (blk_new (w.alloc (.cells #[.bool x.f0, .bool x.f1, .slice A n c] 26)) (.cells #[.bool false, .bool false, .slice none 0 0] 26)) hb; simp only [World.size_alloc, hg] at b0 b1; have B0 := Aside0.mk b0; have B1 := Aside0.mk b1; have k0 := blk_cell b0 0; have k1 := blk_cell b0 1; have k2 := blk_cell b0 2; have k3 := blk_frozen b0 2; have j0 := blk_cell b1 0; have j1 := blk_cell b1 1; have j2 := blk_cell b1 2; have l0 := blk_frozen b1 0; have l1 := blk_frozen b1 1; have l2 := blk_frozen b1 2; clear b0 b1 hR hb)
  refine bodyPost_ret (results_c rfl _ _ (g + 1) 26 #[.bool x.f0, .bool x.f1, .slice A1 x.f2.length c1] (0, 0) _ rfl (put3 (blk_far B1.out (p := ⟨g, 2, none⟩) (by simp) _) _ _ _) Try.underlying26 rfl (by kernel_rfl)) rfl ?_
  have hR := HR.out
  have hB := HB.out
  simp only [World.size_alloc, hg] at hR hB
  refine ⟨_, rfl, ?_, ?_⟩
  · rw [hg]
    exact Kd.R_mono (far3 (Kd.R_far (p := ⟨g, 2, none⟩) (Kd.R_lower hR (show g ≤ g + 1 + 1 by omega)) (fun k hk => show k ≠ g by omega) _) (fun k hk => by omega) _ _ _) (fun k hk => by omega)
  · rw [hg]
    exact below3 (below_set' ((hg ▸ HA.out).trans (hB.mono (by omega))) (Nat.le_refl _)) (by omega) _ _ _
/-- A play: its turns, and by whom it was stepped. -/
structure PlayAt (B : Nat) (f : Owner) (w : World) (pb : Nat) (turns : List S26) (taken : List Int) : Prop where
  blk : ∃ tv kv, w.heap[pb]? = some (.cells #[tv, kv] 67 (0, 0)) ∧ k26.R 26 w B (fun k => f k = pb ∧ some k ≠ kv.ownBlock) tv turns ∧ (Kd.int .i64).R 3 w B (fun k => f k = pb) kv taken
  own : f pb = pb
  base : B ≤ pb
theorem PlayAt.lt {B : Nat} {f : Owner} {w : World} {pb : Nat} {turns : List S26} {taken : List Int} (h : PlayAt B f w pb turns taken) : pb < w.heap.size := by
  obtain ⟨tv, kv, hb, _⟩ := h.blk; exact blk_lt hb
/-- What is not its own has moved. -/
theorem PlayAt.mv {B B' : Nat} {o : Nat → Prop} {f f1 : Owner} {w w1 : World} {pb : Nat} {turns : List S26} {taken : List Int} (h : PlayAt B f w pb turns taken) (m : Mv B' o f w f1 w1) (hn : ¬ o pb) : PlayAt B f1 w1 pb turns taken := by
  obtain ⟨⟨tv, kv, hb, h1, h2⟩, h3, h4⟩ := h
  refine ⟨⟨tv, kv, m.blk hb (by rw [h3]; exact hn), m.row h1 (fun k hk _ => by rw [hk.1]; exact hn) (fun k hk hl => ⟨(m.old k hl).trans hk.1, hk.2⟩), m.row h2 (fun k hk _ => by rw [hk]; exact hn) (fun k hk hl => (m.old k hl).trans hk)⟩, (m.old pb (blk_lt hb)).trans h3, h4⟩
theorem PlayAt.below {B : Nat} {f : Owner} {w w1 : World} {pb : Nat} {turns : List S26} {taken : List Int} (h : PlayAt B f w pb turns taken) (hb : Below w.heap.size w w1) : PlayAt B f w1 pb turns taken :=
  h.mv (o := fun _ => False) (Mv.of_below (B := w.heap.size) hb (Nat.le_refl _) (fun _ _ => rfl)) id
/-- A step of a play is told; its woken are the caller's own. -/
def Stepped (B : Nat) (f : Owner) (w : World) (pb : Nat) (turns : List S26) (taken : List Int) (x : S26) (en : Ending) (w' : World) : Prop :=
  ∃ v f', en = .returned (.agg #[.bool x.f0, .bool x.f1, v]) ∧ (Kd.int .i64).R 3 w' w.heap.size (fun k => w.heap.size ≤ k ∧ f' k = w.heap.size) v x.f2 ∧ PlayAt B f' w' pb turns taken ∧ Mv B (· = pb) f w f' w'
theorem nil27 (w : World) : (binOp .eql 27 (.pointer none) (.pointer none)).run Try.prog w = .ok (.bool true) w := by kernel_rfl
theorem some27 (b : Nat) (w : World) : (binOp .eql 27 (.pointer (some ⟨b, 0, none⟩)) (.pointer none)).run Try.prog w = .ok (.bool false) w := by kernel_rfl
/-- A nil play. -/
theorem step_nil (task : Int) (w : World) : Calls Try.prog 11 #[.pointer none, .int .i64 task] w fun e w' => e = .returned (.agg #[.bool true, .bool false, .slice none 0 0]) ∧ Below w.heap.size w w' := by
  have q27 := nil27
  go_enter Try.func11, Try.ntmps11
  go_wp2

  refine bodyPost_ret (results_c rfl _ _ w.heap.size 26 #[.bool true, .bool false, .slice none 0 0] (0, 0) _ rfl (blk_new w _) Try.underlying26 rfl (by kernel_rfl)) rfl ?_
  exact ⟨rfl, below_alloc (Below.refl _ _) _⟩
/-- Block n is its own; what is newer gets this owner. -/
def ownsR (f : Owner) (n id : Nat) : Owner := fun k => if k < n then f k else if k = n then n else id
theorem ownsR_old (f : Owner) (n id k : Nat) (h : k < n) : ownsR f n id k = f k := if_pos h
theorem ownsR_at (f : Owner) (n id : Nat) : ownsR f n id n = n := by unfold ownsR; rw [if_neg (by omega), if_pos rfl]
theorem ownsR_new (f : Owner) (n id k : Nat) (h : n < k) : ownsR f n id k = id := by unfold ownsR; rw [if_neg (by omega), if_neg (by omega)]
/-- Behind the append of a step. -/
theorem play_after {B : Nat} {f : Owner} {w w1 : World} {pb : Nat} {turns : List S26} {taken taken' : List Int} {tv kv v1 : Value} {cs : Array Value}
    (hb : w.heap[pb]? = some (.cells #[tv, kv] 67 (0, 0))) (ht : k26.R 26 w B (fun k => f k = pb ∧ some k ≠ kv.ownBlock) tv turns) (hk : (Kd.int .i64).R 3 w B (fun k => f k = pb) kv taken) (hf : f pb = pb) (hB : B ≤ pb)
    (hR : (Kd.int .i64).R 3 w1 B (fun k => ownsR f w.heap.size pb k = pb) v1 taken') (hBl : Below B (w.alloc (.cells cs 26)) w1) (hg : (w.alloc (.cells cs 26)).grownBy w1 kv.ownBlock)
    (hat : v1.ownBlock = kv.ownBlock ∨ ∃ b, v1.ownBlock = some b ∧ (w.alloc (.cells cs 26)).heap.size ≤ b) :
    ∃ w2, w1.setCell ⟨pb, 1, none⟩ v1 = w2 ∧ w2.heap[pb]? = some (.cells #[tv, v1] 67 (0, 0)) ∧ k26.R 26 w2 B (fun k => ownsR f w.heap.size pb k = pb ∧ some k ≠ v1.ownBlock) tv turns ∧ (Kd.int .i64).R 3 w2 B (fun k => ownsR f w.heap.size pb k = pb) v1 taken' ∧ w2.heap[w.heap.size]? = some (.cells cs 26) ∧ Mv B (· = pb) f w (ownsR f w.heap.size pb) w2 := by
  have hlt := blk_lt hb
  have hne : some pb ≠ kv.ownBlock := Kd.R_ne hk hb (by decide)
  have hb1 : w1.heap[pb]? = some (.cells #[tv, kv] 67 (0, 0)) := blk_grown (blk_alloc hb _) hg hne
  have hne1 : some pb ≠ v1.ownBlock := Kd.R_ne hR hb1 (by decide)
  have hok : ∀ k, k < w.heap.size → f k = pb → ownsR f w.heap.size pb k = pb := fun k hk h => by rw [ownsR_old f _ _ k hk]; exact h
  refine ⟨_, rfl, blk_put hb1 1 v1 rfl, ?_, ?_, ?_, ?_⟩
  · have h1 := Kd.R_below ht (below_alloc (Below.refl w.heap.size w) (.cells cs 26))
    have h2 : k26.R 26 (w.alloc (.cells cs 26)) B (fun k => (ownsR f w.heap.size pb k = pb ∧ some k ≠ v1.ownBlock) ∧ some k ≠ kv.ownBlock) tv turns := by
      have h0 := Kd.R_bound ht
      refine Kd.R_below (Kd.R_mono h0 (fun k hk => ⟨⟨hok k hk.2.2.1 hk.1.1, ?_⟩, hk.1.2⟩)) (below_alloc (Below.refl w.heap.size w) (.cells cs 26))
      rcases hat with e | ⟨b, e, hle⟩
      · rw [e]; exact hk.1.2
      · rw [e]; intro e2; injection e2 with e2; have := hk.2.2.1; simp at hle; omega
    have h3 := Kd.R_grown h2 hg (fun k hk => hk.2)
    have h4 : k26.R 26 w1 B (fun k => (ownsR f w.heap.size pb k = pb ∧ some k ≠ v1.ownBlock) ∧ k ≠ pb) tv turns := Kd.R_mono (Kd.R_types h3 hb1 (by decide)) (fun k hk => ⟨hk.1.1, hk.2⟩)
    exact Kd.R_mono (Kd.R_far (p := ⟨pb, 1, none⟩) h4 (fun k hk => hk.2) v1) (fun k hk => hk.1)
  · exact Kd.R_set hR hb1 (by decide) 1 v1
  · have hn : w1.heap[w.heap.size]? = some (.cells cs 26) := blk_grown (blk_new w _) hg (fun e => by have := own_lt (Kd.R_own hk).choose_spec _ e.symm; omega)
    exact blk_far hn (p := ⟨pb, 1, none⟩) (show w.heap.size ≠ pb by omega) v1
  · have hBs : B ≤ w.heap.size := by omega
    have m0 : Mv B (· = pb) f w (ownsR f w.heap.size pb) (w.alloc (.cells cs 26)) := ⟨(Below.refl B w).alloc hBs _, fun k hk _ => Below.heap_alloc w _ k hk, fun k hk => ownsR_old f _ _ k hk⟩
    refine Mv.set (Mv.grown m0 hBs hg (fun k hk2 => ?_)) ⟨pb, 1, none⟩ v1 hB (fun _ => hf)
    have h5 := Kd.R_bound hk
    have h6 := h5.1 k hk2
    exact ⟨h6.2.1, fun _ => h6.1⟩
theorem mv3 {B : Nat} {o : Nat → Prop} {f f1 : Owner} {w w1 : World} (h : Mv B o f w f1 w1) {g : Nat} (hB : B ≤ g) (hg : o (f g)) (u0 u1 u2 : Value) : Mv B o f w f1 (((w1.setCell ⟨g, 0, none⟩ u0).setCell ⟨g, 1, none⟩ u1).setCell ⟨g, 2, none⟩ u2) :=
  Mv.set (Mv.set (Mv.set h ⟨g, 0, none⟩ u0 hB (fun _ => hg)) ⟨g, 1, none⟩ u1 hB (fun _ => hg)) ⟨g, 2, none⟩ u2 hB (fun _ => hg)
theorem mv3' {B : Nat} {o : Nat → Prop} {f f1 : Owner} {w w1 : World} (h : Mv B o f w f1 w1) {g : Nat} (hB : B ≤ g) (hg : w.heap.size ≤ g) (u0 u1 u2 : Value) : Mv B o f w f1 (((w1.setCell ⟨g, 0, none⟩ u0).setCell ⟨g, 1, none⟩ u1).setCell ⟨g, 2, none⟩ u2) :=
  Mv.set (Mv.set (Mv.set h ⟨g, 0, none⟩ u0 hB (fun e => absurd e (Nat.not_lt.2 hg))) ⟨g, 1, none⟩ u1 hB (fun e => absurd e (Nat.not_lt.2 hg))) ⟨g, 2, none⟩ u2 hB (fun e => absurd e (Nat.not_lt.2 hg))
set_option maxHeartbeats 2000000 in
set_option maxRecDepth 100000 in
theorem step_empty {B : Nat} {f : Owner} {w : World} {pb : Nat} {taken : List Int} (H : PlayAt B f w pb [] taken) (task : Int) (hl : (taken.length + 1) * 8 ≤ 140737488355328) :
    Calls Try.prog 11 #[.pointer (some ⟨pb, 0, none⟩), .int .i64 task] w (Stepped B f w pb [] (taken ++ [task]) ⟨true, false, []⟩) := by
  have hlt := H.lt
  obtain ⟨⟨tv, kv, hb, ht, hk⟩, hf, hB⟩ := H
  have q27 := some27
  obtain ⟨At, ct, rfl⟩ := Kd.R_slice ht
  obtain ⟨Ak, ck, rfl⟩ := Kd.R_slice hk
  have c1 := blk_cell hb 1
  have hRA : ∀ k, k < w.heap.size → f k = pb → ownsR f w.heap.size pb k = pb := fun k hk h => by rw [ownsR_old f _ _ k hk]; exact h
  have HO := Aside0.mk (Kd.R_below (w1 := w.alloc (.cells #[.bool false, .bool false, .slice none 0 0] 26)) (Kd.R_mono (Kd.R_bound hk) (fun k hk => hRA k hk.2.2.1 hk.1)) (below_alloc (Below.refl w.heap.size w) _))
  have AFT := Aside0.mk (fun w1 v1 taken' => @play_after B f w w1 pb [] taken taken' _ _ v1 #[.bool false, .bool false, .slice none 0 0] hb ht hk hf hB)
  have HBL := Aside0.mk (show B ≤ w.heap.size by omega)
  have HF := Aside0.mk hf
  have HBK := Aside0.mk (blk_alloc hb (.cells #[.bool false, .bool false, .slice none 0 0] 26))
  clear hRA ht hk hf
  go_enter Try.func11, Try.ntmps11
  go_upto_region 4 with (at_builtin; refine Kd.R_append (Kd.int .i64) (w0 := w.alloc (.cells #[.bool false, .bool false, .slice none 0 0] 26)) B rfl (.tmp 15) (.tmp 17) 23 3 (.int .i64 0) 8 rfl Try.underlying23 info3 rfl (by decide) (by decide) (.slice Ak taken.length ck) taken task [.int .i64 task] (fun k => ownsR f w.heap.size pb k = pb) (fun _ => False) rfl (by rw [World.size_alloc]; rfl) rfl (fun k h => h.elim) (fun k h => ownsR_new _ _ _ _ (by simp at h; omega)) HO.out (Below.refl _ _) (by simp; have := HBL.out; omega) hl ?_; intro v1 w1 hR hbl hg hat; obtain ⟨A1, c1', hv⟩ := Kd.R_slice hR; rw [List.length_append, List.length_singleton] at hv; subst hv; have HA := Aside0.mk (AFT.out w1 _ _ hR hbl hg hat); have hb1 := blk_grown HBK.out hg (Kd.R_ne HO.out HBK.out (by decide)); have d1 := blk_cell hb1 1; have d2 := blk_frozen hb1 1; clear hR hbl hg hat hb1)
  obtain ⟨w2, hw2, hb2, ht2, hk2, hg2, hm2⟩ := HA.out
  rw [hw2]
  have H2 := Aside0.mk (And.intro ht2 (And.intro hk2 hm2))
  have HB2 := Aside0.mk hb2
  have HG2 := Aside0.mk hg2
  have e0 := blk_cell hb2 0
  have j0 := blk_cell hg2 0
  have j1 := blk_cell hg2 1
  have j2 := blk_cell hg2 2
  have l0 := blk_frozen hg2 0
  have l1 := blk_frozen hg2 1
  have l2 := blk_frozen hg2 2
  clear hw2 hb2 ht2 hk2 hg2 hm2 d1 d2 c1
  go_wp2
  refine bodyPost_ret (results_c rfl _ _ w.heap.size 26 #[.bool true, .bool false, .slice none 0 0] (0, 0) _ rfl (put3 HG2.out _ _ _) Try.underlying26 rfl (by kernel_rfl)) rfl ?_
  obtain ⟨ht2, hk2, hm2⟩ := H2.out
  have hlt := blk_lt hb
  have P2 : PlayAt B (ownsR f w.heap.size pb) w2 pb [] (taken ++ [task]) := ⟨⟨_, _, HB2.out, ht2, hk2⟩, (ownsR_old f _ _ _ hlt).trans HF.out, hB⟩
  refine ⟨_, ownsR f w.heap.size pb, rfl, Kd.R_nil _ _ _ _ _, P2.mv (mv3 (Mv.refl B (· = w.heap.size) _ _) HBL.out (ownsR_at _ _ _) _ _ _) (show ¬ pb = w.heap.size by omega), ?_⟩
  exact mv3' hm2 HBL.out (Nat.le_refl _) _ _ _
theorem R_C {α : Type} {d : Kd α} {e n c : Nat} {w : World} {base : Nat} {ok : Nat → Prop} {A : Option Addr} {xs : List α} (h : d.R e w base ok (.slice A n c) xs) : d.C w A n xs ∧ xs.length = n ∧ n ≤ c := by
  obtain ⟨A', c', e, hl, hC⟩ := Kd.R_reads h
  injection e with e1 e2 e3
  subst e1 e3
  rw [e2]
  exact ⟨hC, rfl, hl⟩
/-- Which turn is told. -/
def turnAt (n k : Nat) : Nat := if k < n - 1 then k else n - 1
theorem turnAt_lt (n k : Nat) (h : 1 ≤ n) : turnAt n k < n := by unfold turnAt; split <;> omega
theorem turnAt_eq (n k : Nat) (h : 1 ≤ n) : (if (n : Int) - 1 < (k : Int) then (n : Int) - 1 else (k : Int)) = ((turnAt n k : Nat) : Int) := by unfold turnAt; split <;> split <;> omega
theorem step_end {B : Nat} {f : Owner} {w w2 w3 : World} {pb : Nat} {turns : List S26} {taken : List Int} {tv v1 v : Value} {ys : List Int} (hlt : pb < w.heap.size) (hB : B ≤ pb) (hf : f pb = pb)
    (hb2 : w2.heap[pb]? = some (.cells #[tv, v1] 67 (0, 0))) (ht2 : k26.R 26 w2 B (fun k => ownsR f w.heap.size pb k = pb ∧ some k ≠ v1.ownBlock) tv turns) (hk2 : (Kd.int .i64).R 3 w2 B (fun k => ownsR f w.heap.size pb k = pb) v1 taken)
    (hm2 : Mv B (· = pb) f w (ownsR f w.heap.size pb) w2) (hg2 : w.heap.size < w2.heap.size) (hR : (Kd.int .i64).R 3 w3 w2.heap.size (fun k => w2.heap.size ≤ k) v ys) (hb : Below w2.heap.size w2 w3) (o : Obj) (u0 u1 u2 : Value) :
    ∃ f', (Kd.int .i64).R 3 ((((w3.setCell ⟨w.heap.size, 0, none⟩ u0).setCell ⟨w.heap.size, 1, none⟩ u1).setCell ⟨w.heap.size, 2, none⟩ u2).alloc o) w.heap.size (fun k => w.heap.size ≤ k ∧ f' k = w.heap.size) v ys ∧
      PlayAt B f' ((((w3.setCell ⟨w.heap.size, 0, none⟩ u0).setCell ⟨w.heap.size, 1, none⟩ u1).setCell ⟨w.heap.size, 2, none⟩ u2).alloc o) pb turns taken ∧
      Mv B (· = pb) f w f' ((((w3.setCell ⟨w.heap.size, 0, none⟩ u0).setCell ⟨w.heap.size, 1, none⟩ u1).setCell ⟨w.heap.size, 2, none⟩ u2).alloc o) := by
  have M3 : ∀ o : Nat → Prop, Mv B o (ownsR f w.heap.size pb) w2 (owns (ownsR f w.heap.size pb) w2.heap.size w.heap.size) w3 := fun o => Mv.of_below hb (by omega) (fun k hk => owns_old _ _ _ k hk)
  refine ⟨owns (ownsR f w.heap.size pb) w2.heap.size w.heap.size, ?_, ?_, ?_⟩
  · exact Kd.R_mono (Kd.R_below (far3 (Kd.R_lower hR (show w.heap.size ≤ w2.heap.size by omega)) (fun k hk => by omega) u0 u1 u2) (below_alloc (Below.refl _ _) o)) (fun k hk => ⟨by omega, owns_new _ _ _ _ hk⟩)
  · have P2 : PlayAt B (ownsR f w.heap.size pb) w2 pb turns taken := ⟨⟨_, _, hb2, ht2, hk2⟩, (ownsR_old f _ _ _ hlt).trans hf, hB⟩
    exact P2.mv (Mv.alloc (mv3 (M3 (· = w.heap.size)) (by omega) (ownsR_at _ _ _) u0 u1 u2) (by omega) o) (show ¬ pb = w.heap.size by omega)
  · exact Mv.alloc (mv3' (hm2.trans (M3 _)) (by omega) (Nat.le_refl _) u0 u1 u2) (by omega) o
set_option maxHeartbeats 2000000 in
set_option maxRecDepth 100000 in
theorem step_turn {B : Nat} {f : Owner} {w : World} {pb : Nat} {turns : List S26} {taken : List Int} (H : PlayAt B f w pb turns taken) (hN : 1 ≤ turns.length) (hs : turns.length * 32 ≤ 140737488355328) (hw : ∀ x ∈ turns, x.f2.length * 8 ≤ 140737488355328) (task : Int) (hl : (taken.length + 1) * 8 ≤ 140737488355328) :
    Calls Try.prog 11 #[.pointer (some ⟨pb, 0, none⟩), .int .i64 task] w (Stepped B f w pb turns (taken ++ [task]) (pTurn turns taken.length)) := by
  have hlt := H.lt
  obtain ⟨⟨tv, kv, hb, ht, hk⟩, hf, hB⟩ := H
  have q27 := some27
  obtain ⟨At, ct, rfl⟩ := Kd.R_slice ht
  obtain ⟨Ak, ck, rfl⟩ := Kd.R_slice hk
  have c1 := blk_cell hb 1
  have hRA : ∀ k, k < w.heap.size → f k = pb → ownsR f w.heap.size pb k = pb := fun k hk h => by rw [ownsR_old f _ _ k hk]; exact h
  have HO := Aside0.mk (Kd.R_below (w1 := w.alloc (.cells #[.bool false, .bool false, .slice none 0 0] 26)) (Kd.R_mono (Kd.R_bound hk) (fun k hk => hRA k hk.2.2.1 hk.1)) (below_alloc (Below.refl w.heap.size w) _))
  have AFT := Aside0.mk (fun w1 v1 taken' => @play_after B f w w1 pb turns taken taken' _ _ v1 #[.bool false, .bool false, .slice none 0 0] hb ht hk hf hB)
  have HBL := Aside0.mk (show B ≤ w.heap.size by omega)
  have HF := Aside0.mk hf
  have HBK := Aside0.mk (blk_alloc hb (.cells #[.bool false, .bool false, .slice none 0 0] 26))
  clear hRA ht hk hf
  go_enter Try.func11, Try.ntmps11
  go_upto_region 4 with (at_builtin; refine Kd.R_append (Kd.int .i64) (w0 := w.alloc (.cells #[.bool false, .bool false, .slice none 0 0] 26)) B rfl (.tmp 15) (.tmp 17) 23 3 (.int .i64 0) 8 rfl Try.underlying23 info3 rfl (by decide) (by decide) (.slice Ak taken.length ck) taken task [.int .i64 task] (fun k => ownsR f w.heap.size pb k = pb) (fun _ => False) rfl (by rw [World.size_alloc]; rfl) rfl (fun k h => h.elim) (fun k h => ownsR_new _ _ _ _ (by simp at h; omega)) HO.out (Below.refl _ _) (by simp; have := HBL.out; omega) hl ?_; intro v1 w1 hR hbl hg hat; obtain ⟨A1, c1', hv⟩ := Kd.R_slice hR; rw [List.length_append, List.length_singleton] at hv; subst hv; have HA := Aside0.mk (AFT.out w1 _ _ hR hbl hg hat); have hb1 := blk_grown HBK.out hg (Kd.R_ne HO.out HBK.out (by decide)); have d1 := blk_cell hb1 1; have d2 := blk_frozen hb1 1; clear hR hbl hg hat hb1)
  obtain ⟨w2, hw2, hb2, ht2, hk2, hg2, hm2⟩ := HA.out
  rw [hw2]
  have H2 := Aside0.mk (And.intro ht2 (And.intro hk2 hm2))
  have HB2 := Aside0.mk hb2
  have HG2 := Aside0.mk hg2
  have e0 := blk_cell hb2 0
  have e1 := blk_cell hb2 1
  have j0 := blk_cell hg2 0
  have j1 := blk_cell hg2 1
  have j2 := blk_cell hg2 2
  have l0 := blk_frozen hg2 0
  have l1 := blk_frozen hg2 1
  have l2 := blk_frozen hg2 2
  clear hw2 hb2 ht2 hk2 hg2 hm2 d1 d2 c1
  go_upto_region 8 with (fail)
  obtain ⟨i, hi⟩ : ∃ i, turnAt turns.length taken.length = i := ⟨_, rfl⟩
  have hiN : i < turns.length := by rw [← hi]; exact turnAt_lt _ _ hN
  rw [turnAt_eq _ _ hN, hi]
  obtain ⟨x, hx⟩ : ∃ x, turns.getD i z26 = x := ⟨_, rfl⟩
  have hxm : x ∈ turns := by rw [← hx, List.getD_eq_getElem?_getD, List.getElem?_eq_getElem hiN]; exact List.getElem_mem hiN
  obtain ⟨ad, A2, c2, ead, x0, x1, x2, lx, Cx⟩ := at_T26 (R_C H2.out.1).1 (i : Int) (by omega) (by omega)
  have erd : rd_T26 turns (i : Int) = x := by rw [← hx]; simp [rd_T26]
  rw [erd] at x0 x1 x2 lx Cx
  subst ead
  simp only [Int.toNat_natCast] at x0 x1 x2
  have HX := Aside0.mk (And.intro hx (And.intro hxm (And.intro erd hi)))
  have HCx := Aside0.mk (And.intro lx Cx)
  have HWx := Aside0.mk (hw x hxm)
  clear hx hxm erd hi lx Cx hw hs
  go_wp2_with (go_at_call 33; refine (copied_walk (x := x) HCx.out.2 HCx.out.1 HWx.out).mono ?_; rintro e w3 ⟨v, rfl, hR, hb⟩; obtain ⟨A3, c3, rfl⟩ := Kd.R_slice hR; have HR := Aside0.mk hR; have HB3 := Aside0.mk hb; have q2 := blk_below HG2.out hb; have HQ2 := Aside0.mk q2; have hz := blk_lt q2; have j0 := blk_cell q2 0; have j1 := blk_cell q2 1; have j2 := blk_cell q2 2; have l0 := blk_frozen q2 0; have l1 := blk_frozen q2 1; have l2 := blk_frozen q2 2; clear q2 hR hb x0 x1 x2)
  · obtain ⟨ht2, hk2, hm2⟩ := H2.out
    have hlt := blk_lt hb
    obtain ⟨f', r1, r2, r3⟩ := step_end hlt hB HF.out HB2.out ht2 hk2 hm2 (blk_lt HG2.out) HR.out HB3.out (.cells #[.bool (x.f0 || decide (i = turns.length - 1)), .bool x.f1, .slice A3 x.f2.length c3] 26) (.bool (x.f0 || decide (i = turns.length - 1))) (.bool x.f1) (.slice A3 x.f2.length c3)
    have hp : pTurn turns taken.length = ⟨x.f0 || decide (i = turns.length - 1), x.f1, x.f2⟩ := by
      obtain ⟨hx, _, _, hi⟩ := HX.out
      have e : (if taken.length < turns.length - 1 then taken.length else turns.length - 1) = i := hi
      unfold pTurn
      rw [if_neg (by omega)]
      simp only [e, hx]
    have h : x.f0 = true := by assumption
    have ev : (x.f0 || decide (i = turns.length - 1)) = true := by rw [h]; rfl
    rw [ev] at r1 r2 r3 hp
    refine bodyPost_ret (results_c rfl _ _ w.heap.size 26 #[.bool true, .bool x.f1, .slice A3 x.f2.length c3] (0, 0) _ rfl (blk_alloc (put3 HQ2.out _ _ _) _) Try.underlying26 rfl (by kernel_rfl)) rfl ?_
    rw [hp]
    exact ⟨_, f', rfl, r1, r2, r3⟩
  · obtain ⟨ht2, hk2, hm2⟩ := H2.out
    have hlt := blk_lt hb
    obtain ⟨f', r1, r2, r3⟩ := step_end hlt hB HF.out HB2.out ht2 hk2 hm2 (blk_lt HG2.out) HR.out HB3.out (.cells #[.bool (x.f0 || decide (i = turns.length - 1)), .bool x.f1, .slice A3 x.f2.length c3] 26) (.bool (x.f0 || decide (i = turns.length - 1))) (.bool x.f1) (.slice A3 x.f2.length c3)
    have hp : pTurn turns taken.length = ⟨x.f0 || decide (i = turns.length - 1), x.f1, x.f2⟩ := by
      obtain ⟨hx, _, _, hi⟩ := HX.out
      have e : (if taken.length < turns.length - 1 then taken.length else turns.length - 1) = i := hi
      unfold pTurn
      rw [if_neg (by omega)]
      simp only [e, hx]
    have h : ¬ x.f0 = true := by assumption
    have ev : (x.f0 || decide (i = turns.length - 1)) = ((i : Int) == (turns.length : Int) - 1) := by
      rw [Bool.not_eq_true] at h
      rw [h, Bool.false_or, Bool.eq_iff_iff]
      simp only [decide_eq_true_eq, beq_iff_eq]
      omega
    rw [ev] at r1 r2 r3 hp
    refine bodyPost_ret (results_c rfl _ _ w.heap.size 26 #[.bool ((i : Int) == (turns.length : Int) - 1), .bool x.f1, .slice A3 x.f2.length c3] (0, 0) _ rfl (blk_alloc (put3 HQ2.out _ _ _) _) Try.underlying26 rfl (by kernel_rfl)) rfl ?_
    rw [hp]
    exact ⟨_, f', rfl, r1, r2, r3⟩
/-- A step of a play, whatever its turns. -/
theorem step_any {B : Nat} {f : Owner} {w : World} {pb : Nat} {turns : List S26} {taken : List Int} (H : PlayAt B f w pb turns taken) (hs : turns.length * 32 ≤ 140737488355328) (hw : ∀ x ∈ turns, x.f2.length * 8 ≤ 140737488355328) (task : Int) (hl : (taken.length + 1) * 8 ≤ 140737488355328) :
    Calls Try.prog 11 #[.pointer (some ⟨pb, 0, none⟩), .int .i64 task] w (Stepped B f w pb turns (taken ++ [task]) (pTurn turns taken.length)) := by
  rcases Nat.eq_zero_or_pos turns.length with h | h
  · obtain rfl : turns = [] := List.length_eq_zero_iff.1 h
    exact step_empty H task hl
  · exact step_turn H h hs hw task hl
theorem info26 : (Try.prog.info? 26).map (fun i => (i.zero, i.size, i.bytes)) = some (some (.agg #[.bool false, .bool false, .slice none 0 0]), 3, 32) := by kernel_rfl
def NPSt (w wr : World) (turns : List S26) (k : Nat) : Prop := ∃ tv, wr.heap[w.heap.size]? = some (.cells #[tv, .slice none 0 0] 67 (0, 0)) ∧ k26.R 26 wr w.heap.size (fun b => w.heap.size ≤ b) tv (turns.take k) ∧ Below w.heap.size w wr
def NewPlayed (w : World) (turns : List S26) (en : Ending) (w' : World) : Prop := en = .returned (.pointer (some ⟨w.heap.size, 0, none⟩)) ∧ NPSt w w' turns turns.length
set_option maxHeartbeats 4000000 in
set_option maxRecDepth 100000 in
theorem newPlay_walk {A : Option Addr} {c : Nat} {turns : List S26} {w : World} (hC : k26.C w A turns.length turns) (hs : turns.length * 32 ≤ 140737488355328) (hw : ∀ x ∈ turns, x.f2.length * 8 ≤ 140737488355328) :
    Calls Try.prog 10 #[.slice A turns.length c] w (NewPlayed w turns) := by
  have HC := Aside0.mk hC
  have HW := Aside0.mk hw
  have HS := Aside0.mk hs
  have S0 : NPSt w (w.alloc (.cells #[.slice none 0 0, .slice none 0 0] 67)) turns 0 := ⟨_, blk_new w _, Kd.R_nil _ _ _ _ _, below_alloc (Below.refl _ _) _⟩
  have HS0 := Aside0.mk S0
  obtain ⟨ln, hln⟩ : ∃ ln, turns.length = ln := ⟨_, rfl⟩
  have HLN := Aside0.mk hln
  rw [hln] at hs
  rw [hln]
  clear hC hw S0 hln
  obtain ⟨wo, hwo⟩ : ∃ wo, wo = w := ⟨_, rfl⟩
  have HWO := Aside0.mk hwo
  go_enter Try.func10, Try.ntmps10
  go_wp2
  go_loopw [10] (fun idx wr => ∃ k : Nat, k ≤ ln ∧ idx = .int .i64 (k : Int) ∧ Aside0 (NPSt w wr turns k)) (fun idx _ => ln - (intOf idx).toNat)
  case atStart => exact ⟨0, Nat.zero_le _, rfl, HS0⟩
  case round =>
    obtain ⟨k, hk, rfl, SK⟩ := hrel
    by_cases hlt : k < ln
    · obtain ⟨tv, hb, hR, hBl⟩ := SK.out
      obtain ⟨At, ct, htv⟩ := Kd.R_slice hR
      rw [List.length_take, Nat.min_eq_left (by have := HLN.out; omega)] at htv
      subst htv
      obtain ⟨ad, A2, c2, ead, x0, x1, x2, lx, Cx⟩ := at_T26 (Kd.C_below HC.out hBl) (k : Int) (by omega) (by have := HLN.out; omega)
      obtain ⟨x, hx⟩ : ∃ x, rd_T26 turns (k : Int) = x := ⟨_, rfl⟩
      rw [hx] at x0 x1 x2 lx Cx
      subst ead
      simp only [Int.toNat_natCast] at x0 x1 x2
      have p0 := blk_cell hb 0
      have HB := Aside0.mk hb
      have HR := Aside0.mk hR
      have HBl := Aside0.mk hBl
      have HX := Aside0.mk hx
      have HCx := Aside0.mk (And.intro lx Cx)
      clear hb hR hBl hx lx Cx
      go_upto_region 5 with (fail)
      obtain ⟨wb, hwb⟩ : ∃ wb, wr.alloc (.cells #[.bool x.f0, .bool x.f1, .slice A2 x.f2.length c2] 26) = wb := ⟨_, rfl⟩
      obtain ⟨bx, hbx⟩ : ∃ bx, wr.heap.size = bx := ⟨_, rfl⟩
      obtain ⟨pb, hpb⟩ : ∃ pb, w.heap.size = pb := ⟨_, rfl⟩
      have z : wb.drew.heap[bx]? = some (.cells #[.bool x.f0, .bool x.f1, .slice A2 x.f2.length c2] 26 (0, 0)) := by rw [← hwb, ← hbx]; exact blk_drew (blk_new wr _)
      have y : wb.drew.heap[pb]? = some (.cells #[.slice At k ct, .slice none 0 0] 67 (0, 0)) := by rw [← hwb, ← hpb]; exact blk_drew (blk_alloc HB.out _)
      have BW : Aside0 (Below wr.heap.size wr wb.drew) := ⟨by rw [← hwb]; exact below_drew (below_alloc (Below.refl _ _) _)⟩
      have HZ := Aside0.mk z
      have HY := Aside0.mk y
      have z0 := blk_cell z 0
      have z1 := blk_cell z 1
      have z2 := blk_cell z 2
      have y0 := blk_cell y 0
      simp only [List.getElem?_toArray, List.getElem?_cons_zero, List.getElem?_cons_succ] at z0 z1 z2 y0
      rw [hwb, hbx, hpb]
      have HN := Aside0.mk (And.intro hwb (And.intro hbx hpb))
      have HC2 := Aside0.mk (Kd.C_below HCx.out.2 BW.out)
      have HLx := Aside0.mk HCx.out.1
      have HWx : Aside0 (x.f2.length * 8 ≤ 140737488355328) := ⟨by
        refine HW.out x ?_
        have hkl : k < turns.length := by have := HLN.out; omega
        rw [← HX.out]
        simp only [rd_T26, Int.toNat_natCast]
        rw [List.getD_eq_getElem?_getD, List.getElem?_eq_getElem hkl]
        exact List.getElem_mem hkl⟩
      clear z y p0 x0 x1 x2 hwb hbx hpb
      have RT := Aside0.mk (Kd.R_below HR.out BW.out)
      have SZ : Aside0 (w.heap.size ≤ wb.drew.heap.size) := ⟨Nat.le_trans HBl.out.size BW.out.size⟩
      rw [HN.out.2.2] at RT SZ
      have HOK : Aside0 (∀ b, wb.drew.heap.size ≤ b → pb ≤ b ∧ some b ≠ (Value.slice At k ct).ownBlock) := ⟨fun b hb => ⟨Nat.le_trans SZ.out hb, fun e => by have := own_lt (Kd.R_own RT.out).choose_spec b e.symm; omega⟩⟩
      have HL8 : Aside0 (((turns.take k).length + 1) * 32 ≤ 140737488355328) := ⟨by have := HS.out; have := HLN.out; rw [List.length_take]; omega⟩
      have NE4 : Aside0 (some pb ≠ (Value.slice At k ct).ownBlock) := ⟨Kd.R_ne RT.out HY.out (by decide)⟩
      have HL9 : Aside0 ((turns.take k ++ [x]).length = k + 1) := ⟨by have := HLN.out; rw [List.length_append, List.length_take, List.length_singleton]; omega⟩
      have HT9 : Aside0 (turns.take (k + 1) = turns.take k ++ [x]) := ⟨by
        have hkl : k < turns.length := by have := HLN.out; omega
        rw [List.take_succ_eq_append_getElem hkl, ← HX.out]
        simp [rd_T26, List.getD_eq_getElem?_getD, List.getElem?_eq_getElem hkl]⟩
      refine start_ (n := 12) (S := fun w' => w'.cell? ⟨pb, 0, none⟩ = some (.slice At k ct) ∧ w'.cell? ⟨bx, 0, none⟩ = some (.bool x.f0) ∧ w'.cell? ⟨bx, 1, none⟩ = some (.bool x.f1) ∧ w'.cell? ⟨bx, 2, none⟩ = some (.slice A2 x.f2.length c2)) (ds := [8, 11]) #[F,F,F,F,F,F,F,F,F,F,F,F] (by kernel_rfl) rfl rfl (⟨y0, z0, z1, z2⟩) (fun hHeld => ?_)
      refine pure_ (i := 0) (N := some 14) (v := ?_) (a' := ?_) #[T,F,F,F,F,F,F,F,F,F,F,F] rfl rfl (by kernel_rfl) (fun _ _ _ h => h) (Or.inl ⟨by rfl, ?_⟩) ?_ ?_
      rotate_left
      · intro w'
        go_simp
        with_reducible rfl
      rotate_left
      · simp only [Act.put, sA, s0_, sS, i64_w, i32_w]
        rfl
      refine pure_ (i := 1) (N := some 15) (v := ?_) (a' := ?_) #[T,T,F,F,F,F,F,F,F,F,F,F] rfl rfl (by kernel_rfl) (fun _ _ _ h => h) (Or.inl ⟨by rfl, ?_⟩) ?_ ?_
      rotate_left
      · intro w'
        go_simp
        with_reducible rfl
      rotate_left
      · simp only [Act.put, sA, s0_, sS, i64_w, i32_w]
        rfl
      refine pure_ (i := 2) (N := some 16) (v := ?_) (a' := ?_) #[T,T,T,F,F,F,F,F,F,F,F,F] rfl rfl (by kernel_rfl) (fun _ _ _ h => h) (Or.inl ⟨by rfl, ?_⟩) ?_ ?_
      rotate_left
      · intro w'
        go_simp
        with_reducible rfl
      rotate_left
      · simp only [Act.put, sA, s0_, sS, i64_w, i32_w]
        rfl
      refine pure_ (i := 3) (N := some 17) (v := ?_) (a' := ?_) #[T,T,T,T,F,F,F,F,F,F,F,F] rfl rfl (by kernel_rfl) (fun _ _ _ h => h) (Or.inl ⟨by rfl, ?_⟩) ?_ ?_
      rotate_left
      · intro w'
        go_simp
        with_reducible rfl
      rotate_left
      · simp only [Act.put, sA, s0_, sS, i64_w, i32_w]
        rfl
      refine take_ (i := 4) (N := some 18) (v := ?_) (a' := ?_) #[T,T,T,T,T,F,F,F,F,F,F,F] rfl rfl (by kernel_rfl) (fun _ _ _ h => h) (Or.inl ⟨by rfl, ?_⟩) hHeld ?_ ?_
      rotate_left
      · intro w' s0
        obtain ⟨s1, s2, s3, s4⟩ := s0
        go_simp
        with_reducible rfl
      rotate_left
      · simp only [Act.put, sA, s0_, sS, i64_w, i32_w]
        rfl
      refine take_ (i := 5) (N := some 19) (v := ?_) (a' := ?_) #[T,T,T,T,T,T,F,F,F,F,F,F] rfl rfl (by kernel_rfl) (fun _ _ _ h => h) (Or.inl ⟨by rfl, ?_⟩) hHeld ?_ ?_
      rotate_left
      · intro w' s0
        obtain ⟨s1, s2, s3, s4⟩ := s0
        go_simp
        with_reducible rfl
      rotate_left
      · simp only [Act.put, sA, s0_, sS, i64_w, i32_w]
        rfl
      refine one_ (i := 6) (N := some 20) #[T,T,T,T,T,T,T,F,F,F,F,F] rfl rfl (by kernel_rfl) (by decide) (fun K hK => ?_)
      refine goes_ Try.func33 (by kernel_rfl) rfl #[.agg #[.bool x.f0, .bool x.f1, .slice A2 x.f2.length c2]] (by rfl) rfl rfl (by (try simp only [List.map_toArray, List.map_cons, List.map_nil]); first | done | rfl) ?_
      with_reducible refine (copied_walk (x := x) HC2.out HLx.out HWx.out).mono ?_
      rintro e w3 ⟨v, rfl, hR3, hb3⟩
      refine ⟨_, rfl, ?_⟩
      obtain ⟨A3, c3, rfl⟩ := Kd.R_slice hR3
      have R3 := Aside0.mk hR3
      have B3 := Aside0.mk hb3
      clear hR3 hb3
      refine hK.out _ _ (by exact ⟨pw_cell_below B3.out y0, pw_cell_below B3.out z0, pw_cell_below B3.out z1, pw_cell_below B3.out z2⟩) (fun hHeld => ?_)
      clear hK K
      refine norm_ (a' := ?_) ?_ ?_
      rotate_left
      · show Act.put _ (some 20) _ = _
        simp only [Act.put, sA, s0_, sS, i64_w, i32_w]
        rfl
      refine one_ (i := 7) (N := some 21) #[T,T,T,T,T,T,T,T,F,F,F,F] rfl rfl (by kernel_rfl) (by decide) (fun K hK => ?_)
      refine value_ (w1 := ?_) (v := ?_) (by rfl) rfl ?_ ?_
      rotate_left 2
      · go_simp
        constructor
        · rfl
        · rfl
      refine hK.out _ _ (by exact ⟨pw_cell_below (B3.out.alloc B3.out.size _) y0, pw_cell_below (B3.out.alloc B3.out.size _) z0, pw_cell_below (B3.out.alloc B3.out.size _) z1, pw_cell_below (B3.out.alloc B3.out.size _) z2⟩) (fun hHeld => ?_)
      clear hK K
      refine norm_ (a' := ?_) ?_ ?_
      rotate_left
      · show Act.put _ (some 21) _ = _
        simp only [Act.put, sA, s0_, sS, i64_w, i32_w]
        rfl
      refine last_ (i := 8) (N := some 22) #[T,T,T,T,T,T,T,T,T,F,F,F] rfl rfl (by kernel_rfl) (by decide) (fun K hK => ?_)
      refine Kd.R_append_step k26 (w0 := w3) pb (by rfl) (.tmp 18) (.tmp 21) 22 26 (.agg #[.bool false, .bool false, .slice none 0 0]) 32 rfl Try.underlying22 info26 rfl (by decide) (by decide) (.slice At k ct) (turns.take k) x [.bool x.f0, .bool x.f1, .slice A3 x.f2.length c3] (fun b => pb ≤ b) (fun b => wb.drew.heap.size ≤ b) rfl rfl (k26_mkM _ _ _ _ (Kd.R_lower R3.out SZ.out)) HOK.out (fun b hb => by have := SZ.out; have := B3.out.size; simp at hb ⊢; omega) (Kd.R_below RT.out B3.out) (Below.refl _ _) (Nat.le_trans SZ.out B3.out.size) HL8.out ?_
      intro v1 w4 hR4 hb4 hg4 hat4
      obtain ⟨A4, c4, hv4⟩ := Kd.R_slice hR4
      rw [HL9.out] at hv4
      subst hv4
      have R4 := Aside0.mk hR4
      have B4 := Aside0.mk hb4
      have G4 := Aside0.mk hg4
      clear hR4 hb4 hg4 hat4
      refine hK.out _ _ ?_
      clear hK K
      refine norm_ (a' := ?_) ?_ ?_
      rotate_left
      · show Act.put _ (some 22) _ = _
        simp only [Act.put, sA, s0_, sS, i64_w, i32_w]
        rfl
      refine pure_ (i := 9) (N := some 23) (v := ?_) (a' := ?_) #[T,T,T,T,T,T,T,T,T,T,F,F] rfl rfl (by kernel_rfl) (fun _ _ _ h => h) (Or.inl ⟨by rfl, ?_⟩) ?_ ?_
      rotate_left
      · intro w'
        go_simp
        with_reducible rfl
      rotate_left
      · simp only [Act.put, sA, s0_, sS, i64_w, i32_w]
        rfl
      refine pure_ (i := 10) (N := some 24) (v := ?_) (a' := ?_) #[T,T,T,T,T,T,T,T,T,T,T,F] rfl rfl (by kernel_rfl) (fun _ _ _ h => h) (Or.inl ⟨by rfl, ?_⟩) ?_ ?_
      rotate_left
      · intro w'
        go_simp
        with_reducible rfl
      rotate_left
      · simp only [Act.put, sA, s0_, sS, i64_w, i32_w]
        rfl
      have b4 := blk_grown (blk_below HY.out B3.out) G4.out NE4.out
      have y4 := blk_cell b4 0
      have f4 := blk_frozen b4 0
      refine last_ (i := 11) (N := none) #[T,T,T,T,T,T,T,T,T,T,T,T] rfl rfl (by kernel_rfl) (by decide) (fun K hK => ?_)
      refine skip_ (w1 := ?_) (by rfl) rfl ?_ ?_
      rotate_left
      · go_simp
        rfl
      refine hK.out _ _ ?_
      clear hK K
      refine done_ (by kernel_rfl) ?_
      try go_wp2
      have E : Aside0 (NPSt w (w4.setCell ⟨pb, 0, none⟩ (.slice A4 (k + 1) c4)) turns (k + 1)) := ⟨by
        have hp := HN.out.2.2
        refine ⟨_, by rw [hp]; exact blk_put b4 0 _ rfl, ?_, ?_⟩
        · rw [hp, HT9.out]; exact Kd.R_set R4.out b4 (by decide) 0 _
        · have h1 : Below w.heap.size w wb.drew := HBl.out.trans (BW.out.mono HBl.out.size)
          have h2 : Below w.heap.size w w3 := h1.trans (B3.out.mono h1.size)
          exact (h2.trans (by rw [hp]; exact B4.out)).setCell (show w.heap.size ≤ pb by omega) _⟩
      clear y4 f4 b4
      have hp := HN.out.2.2
      subst hp
      go_roundw
      case rel => exact ⟨k + 1, by omega, by go_num, E⟩
      case measure => simp [intOf]; omega
    · have hkl : k = ln := by omega
      subst hkl
      go_wp2
      go_ret
      exact ⟨rfl, by rw [HLN.out]; exact SK.out⟩
end Go.Proofs.Ytkigbgabnbjomaa.Sched
