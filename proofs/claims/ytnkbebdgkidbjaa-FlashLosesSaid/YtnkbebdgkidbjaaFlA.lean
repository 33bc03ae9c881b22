/- A flash device, plain and in memory; blank pages, what it is asked.
   No condition. -/
import Derived.Test.YtnkbebdgkidbjaaQFlashPlaysx0
import Derived.Test.YtnkbebdgkidbjaaQFlashPlaysx1
import Derived.Test.YtnkbebdgkidbjaaQFlashPlaysx2
import Derived.Test.YtnkbebdgkidbjaaQFlashPlaysx3
import Derived.Test.YtnkbebdgkidbjaaGeo
import Derived.ArgAppend
import Derived.BigRegion
import Derived.Deep.QuietTactic
import Derived.BigQuiet
import Derived.Deep.RegionHeld3
import Derived.ChangeAlike
import Derived.RegionTactic
import Derived.Deep.DeepCutAuto
import Derived.Deep.CutBlock
import Derived.Deep.RegionLaw
import Derived.StillTailTactics
import Derived.WalkSpells
import Derived.Lib.SliceRun
import Derived.Laws.CopyRow
import Derived.Lib.SlBuf
import Derived.Lib.MakeNoZero
import Derived.Laws.BitsLemmas
import Derived.Lib.Bytes
import Derived.Lib.SlBytesConst
namespace Go.Proofs.Ytnkbebdgkidbjaa.Flash
open Go.Proofs.Ytnkbebdgkidbjaa.QFlashPlays
open Go.RowKit Go.Proofs.YtnkbebdgkidbjaaW.PrintWords Go.Proofs.YtnkbebdgkidbjaaW.PrintLast Go.Proofs.YtnkbebdgkidbjaaW.PrintMore
attribute [local go_sem] max2_int min2_int max_two min_two   -- for this text's walks alone
set_option linter.unusedVariables false
set_option linter.unusedSimpArgs false
abbrev Fa := S85
abbrev Ft := S88
/-! ### A flash device, plain -/
/-- Are bytes all erased? -/
def isFF (l : List Int) : Bool := l.all fun x => x == 255
theorem isFF_iff (l : List Int) : isFF l = true ↔ l = List.replicate l.length 255 := by
  induction l with
  | nil => simp [isFF]
  | cons x l ih =>
    unfold isFF at ih ⊢
    rw [List.all_cons, Bool.and_eq_true, ih, List.length_cons, List.replicate_succ, List.cons.injEq, beq_iff_eq]
theorem isFF_rep (n : Nat) : isFF (List.replicate n 255) = true := by rw [isFF_iff, List.length_replicate]
/-- Of so many, how many up to the last one of which f is false. -/
def lastD (f : Nat → Bool) : Nat → Nat
  | 0 => 0
  | n + 1 => if f n then lastD f n else n + 1
theorem lastD_le (f : Nat → Bool) : ∀ n, lastD f n ≤ n
  | 0 => Nat.le_refl _
  | n + 1 => by
    unfold lastD
    have := lastD_le f n
    split <;> omega
theorem lastD_clean (f : Nat → Bool) : ∀ n i, lastD f n ≤ i → i < n → f i = true
  | 0, i, _, h => absurd h (by omega)
  | n + 1, i, h, hi => by
    unfold lastD at h
    by_cases hf : f n = true
    · rw [if_pos hf] at h
      by_cases e : i = n
      · subst e; exact hf
      · exact lastD_clean f n i h (by omega)
    · rw [if_neg hf] at h; omega
theorem lastD_dirty (f : Nat → Bool) : ∀ n m, lastD f n = m + 1 → f m = false
  | 0, m, h => by cases h
  | n + 1, m, h => by
    unfold lastD at h
    by_cases hf : f n = true
    · rw [if_pos hf] at h; exact lastD_dirty f n m h
    · rw [if_neg hf] at h
      injection h with h
      subst h
      rwa [Bool.not_eq_true] at hf
theorem lastD_congr (f g : Nat → Bool) : ∀ n, (∀ i, i < n → f i = g i) → lastD f n = lastD g n
  | 0, _ => rfl
  | n + 1, h => by
    unfold lastD
    rw [h n (by omega), lastD_congr f g n (fun i hi => h i (by omega))]
/-- Down from the end: it stops where all behind are clean and the one ahead is not. -/
theorem lastD_is {f : Nat → Bool} {n m : Nat} (hm : m ≤ n) (hc : ∀ i, m ≤ i → i < n → f i = true) (hd : m = 0 ∨ f (m - 1) = false) : lastD f n = m := by
  induction n with
  | zero => unfold lastD; omega
  | succ n ih =>
    unfold lastD
    by_cases e : m = n + 1
    · subst e
      rcases hd with hd | hd
      · omega
      · rw [Nat.add_sub_cancel] at hd
        rw [if_neg (by rw [hd]; decide)]
    · rw [if_pos (hc n (by omega) (by omega))]
      exact ih (by omega) (fun i h1 h2 => hc i h1 (by omega))
/-- These bytes from a place on. -/
def putAt (b : List Int) (i : Nat) (l : List Int) : List Int := b.take i ++ l ++ b.drop (i + l.length)
theorem putAt_length (b : List Int) (i : Nat) (l : List Int) (h : i + l.length ≤ b.length) : (putAt b i l).length = b.length := by
  unfold putAt
  rw [List.length_append, List.length_append, List.length_take, List.length_drop]
  omega
theorem putAt_get (b : List Int) (i : Nat) (l : List Int) (h : i + l.length ≤ b.length) (j : Nat) : (putAt b i l)[j]? = if i ≤ j ∧ j < i + l.length then l[j - i]? else b[j]? := by
  unfold putAt
  rw [List.append_assoc, List.getElem?_append, List.length_take, Nat.min_eq_left (by omega)]
  by_cases h1 : j < i
  · rw [if_pos h1, if_neg (by omega), List.getElem?_take_of_lt h1]
  · rw [if_neg h1, List.getElem?_append]
    by_cases h2 : j - i < l.length
    · rw [if_pos h2, if_pos (by omega)]
    · rw [if_neg h2, if_neg (by omega), List.getElem?_drop]
      congr 1
      omega
/-- The bytes of a cut. -/
def cutOf (b : List Int) (i n : Nat) : List Int := (b.drop i).take n
theorem cutOf_length (b : List Int) (i n : Nat) (h : i + n ≤ b.length) : (cutOf b i n).length = n := by
  unfold cutOf
  rw [List.length_take, List.length_drop]
  omega
theorem cutOf_get (b : List Int) (i n j : Nat) (h : j < n) : (cutOf b i n)[j]? = b[i + j]? := by
  unfold cutOf
  rw [List.getElem?_take_of_lt h, List.getElem?_drop]
theorem cut_put_same (b l : List Int) (i : Nat) (h : i + l.length ≤ b.length) : cutOf (putAt b i l) i l.length = l := by
  apply List.ext_getElem?
  intro j
  by_cases hj : j < l.length
  · rw [cutOf_get _ _ _ _ hj, putAt_get b i l h, if_pos (by omega)]
    congr 1
    omega
  · rw [List.getElem?_eq_none (by rw [cutOf_length _ _ _ (by rw [putAt_length b i l h]; exact h)]; omega), List.getElem?_eq_none (by omega)]
theorem cut_put_far (b l : List Int) (i j n : Nat) (h : i + l.length ≤ b.length) (hj : j + n ≤ b.length) (hf : j + n ≤ i ∨ i + l.length ≤ j) : cutOf (putAt b i l) j n = cutOf b j n := by
  apply List.ext_getElem?
  intro k
  by_cases hk : k < n
  · rw [cutOf_get _ _ _ _ hk, cutOf_get _ _ _ _ hk, putAt_get b i l h, if_neg (by omega)]
  · rw [List.getElem?_eq_none (by rw [cutOf_length _ _ _ (by rw [putAt_length b i l h]; exact hj)]; omega), List.getElem?_eq_none (by rw [cutOf_length _ _ _ hj]; omega)]
def updF {α : Type} (f : Nat → α) (t : Nat) (v : α) : Nat → α := fun u => if u = t then v else f u
/-- The device. -/
structure Dv where
  p : Nat
  s : Nat
  r : Nat
  a : Int
  b : List Int
  un : List Int
  fl : List Fa
  c : Nat → Int
  failed : Int
  wear : List Int
def Dv.pages (d : Dv) : Nat := d.s * d.r
def Dv.page (d : Dv) (n : Nat) : List Int := cutOf d.b (n * d.p) d.p
def Dv.clean (d : Dv) (n : Nat) : Bool := isFF (d.page n)
/-- How many pages of a region up to the last that is not clean. -/
def Dv.nxt (d : Dv) (g : Nat) : Nat := lastD (fun i => d.clean (g * d.s + i)) d.s
def Dv.next (d : Dv) (g : Int) : Int := if g < 0 ∨ (d.r : Int) ≤ g then -1 else if d.nxt g.toNat = d.s then -1 else ((g.toNat * d.s + d.nxt g.toNat : Nat) : Int)
/-- The first fault of an operation. -/
def findF (l : List Fa) (op nth : Int) : Option Fa := l.find? fun f => f.f0 == op && f.f1 == nth
def Dv.count (d : Dv) (op : Nat) : Dv := { d with c := updF d.c op (wrap64 (d.c op + 1)) }
/-- The fault of the operation that is counted next: its kind; 0: none. -/
def Dv.fault (d : Dv) (op : Nat) : Int := match findF d.fl op (wrap64 (d.c op + 1)) with
  | some f => f.f2
  | none => 0
def Dv.flop (d : Dv) : Dv := { d with failed := wrap64 (d.failed + 1) }
/-- An operation: counted, done but for a clean fault; what it tells. -/
def Dv.op (d : Dv) (op : Nat) (act : Dv → Dv) : Dv × Int :=
  if d.fault op = 0 then (act (d.count op), 0) else if d.fault op = 1 then ((d.count op).flop, 5) else ((act (d.count op)).flop, 5)
def Dv.lay (x : List Int) (n : Nat) (d : Dv) : Dv := { d with b := putAt d.b (n * d.p) x, un := if isFF x then d.un else d.un ++ [(n : Int)] }
def Dv.program (d : Dv) (n : Int) (x : List Int) : Dv × Int :=
  if n < 0 ∨ (d.pages : Int) ≤ n ∨ x.length ≠ d.p then (d, 30) else
  if d.next (n.toNat / d.s : Nat) < 0 ∨ n < d.next (n.toNat / d.s : Nat) then (d, 31) else d.op 2 (Dv.lay x n.toNat)
def Dv.read (d : Dv) (n : Int) : Dv × List Int × Int :=
  if n < 0 ∨ (d.pages : Int) ≤ n then (d, [], 30) else ((d.op 1 id).1, if (d.op 1 id).2 = 0 then d.page n.toNat else [], (d.op 1 id).2)
/-- A region wiped. -/
def Dv.wipe (g : Nat) (d : Dv) : Dv :=
  { d with b := putAt d.b (g * d.s * d.p) (List.replicate (d.s * d.p) 255), un := d.un.filter (fun q => q < ((g * d.s : Nat) : Int) || ((g * d.s + d.s : Nat) : Int) ≤ q), wear := d.wear.set g (wrap64 (d.wear.getD g 0 + 1)) }
def Dv.erase (d : Dv) (g : Int) : Dv × Int := if g < 0 ∨ (d.r : Int) ≤ g then (d, 30) else d.op 3 (Dv.wipe g.toNat)
def Dv.sync (d : Dv) : Dv × Int := d.op 4 fun d => { d with un := [] }
/-- May faults be asked for? -/
def faultOk (f : Fa) : Prop := 1 ≤ f.f0 ∧ f.f0 ≤ 4 ∧ 1 ≤ f.f1 ∧ f.f1 ≤ 2147483647 ∧ 1 ≤ f.f2 ∧ f.f2 ≤ 2
instance (f : Fa) : Decidable (faultOk f) := by unfold faultOk; infer_instance
def risesF : List Fa → Prop
  | [] => True
  | [_] => True
  | x :: y :: l => (x.f0 < y.f0 ∨ x.f0 = y.f0 ∧ x.f1 < y.f1) ∧ risesF (y :: l)
/-- May a crash be? -/
structure Dv.Ok (d : Dv) : Prop where
  p1 : 16 ≤ d.p
  p2 : d.p ≤ 4096
  s1 : 1 ≤ d.s
  s2 : d.s ≤ 64
  r1 : 2 ≤ d.r
  r2 : d.r ≤ 256
  sz : d.p * d.s * d.r ≤ 1048576
  len : d.b.length = d.p * d.s * d.r
  byte : ∀ x ∈ d.b, 0 ≤ x ∧ x < 256
  wl : d.wear.length = d.r
  unr : ∀ q ∈ d.un, 0 ≤ q ∧ q < (d.pages : Int)
  flk : ∀ f ∈ d.fl, f.f2 = 1 ∨ f.f2 = 2
  fll : d.fl.length ≤ 64
/-! ### Short names, for the printed walks -/
abbrev T : Bool := true
abbrev F : Bool := false
theorem sA {α : Type} {xs : List α} {i : Nat} {x : α} : xs.toArray.setIfInBounds i x = (xs.set i x).toArray := List.setIfInBounds_toArray xs i x
theorem s0_ {α : Type} {x y : α} {xs : List α} : (x :: xs).set 0 y = y :: xs := List.set_cons_zero
theorem sS {α : Type} {x y : α} {xs : List α} {i : Nat} : (x :: xs).set (i + 1) y = x :: xs.set i y := List.set_cons_succ
/-! ### Bytes at the head of a block -/
abbrev by8 (l : List Int) : List Value := l.map (Value.int .u8)
theorem by8_length (l : List Int) : (by8 l).length = l.length := List.length_map ..
theorem by8_one (l : List Int) : ∀ v ∈ by8 l, v.oneCell' = true := fun v hv => by obtain ⟨x, _, rfl⟩ := List.mem_map.1 hv; rfl
/-- A block whose first cells are these bytes. -/
def Im (w : World) (g cap : Nat) (b : List Int) : Prop := ∃ cs : List Value, w.heap[g]? = some (.cells cs.toArray 5 (0, 0)) ∧ b.length ≤ cap ∧ cap ≤ cs.length ∧ cs.take b.length = by8 b
theorem Im.lt {w : World} {g cap : Nat} {b : List Int} (h : Im w g cap b) : g < w.heap.size := by
  obtain ⟨cs, h1, _⟩ := h
  exact blk_lt h1
theorem Im.keep {w w' : World} {g cap : Nat} {b : List Int} (h : Im w g cap b) (hk : w'.heap[g]? = w.heap[g]?) : Im w' g cap b := by
  obtain ⟨cs, h1, h2, h3, h4⟩ := h
  exact ⟨cs, by rw [hk]; exact h1, h2, h3, h4⟩
theorem Im.below {w w' : World} {g cap : Nat} {b : List Int} (h : Im w g cap b) (hb : Below w.heap.size w w') : Im w' g cap b := by
  obtain ⟨cs, h1, h2, h3, h4⟩ := h
  exact ⟨cs, blk_below h1 hb, h2, h3, h4⟩
theorem Im.get {w : World} {g cap : Nat} {b : List Int} (h : Im w g cap b) (i : Nat) (x : Int) (hx : b[i]? = some x) : w.cell? ⟨g, i, none⟩ = some (.int .u8 x) := by
  obtain ⟨cs, h1, h2, h3, h4⟩ := h
  have hi := (List.getElem?_eq_some_iff.1 hx).1
  rw [blk_cell h1, List.getElem?_toArray, ← List.getElem?_take_of_lt hi, h4, List.getElem?_map, hx]
  rfl
theorem add_off (b o j : Nat) : (⟨b, o, none⟩ : Addr).add j = ⟨b, o + j, none⟩ := by unfold Addr.add; split <;> simp_all
/-- A cut of it, read. -/
theorem Im.cut {w : World} {g cap : Nat} {b : List Int} (h : Im w g cap b) (i n : Nat) (hi : i + n ≤ b.length) (hm : b.length ≤ 9223372036854775807) : (Kd.int .u8).C w (some ⟨g, i, none⟩) n (cutOf b i n) := by
  refine ⟨cutOf_length b i n hi, by omega, fun hn => ⟨⟨g, i, none⟩, rfl, fun j p hp => ?_⟩⟩
  have hj : j < n := by have := (List.getElem?_eq_some_iff.1 hp).1; rwa [cutOf_length b i n hi] at this
  rw [cutOf_get b i n j hj] at hp
  refine ⟨[.int .u8 p], rfl, rfl, fun q u hu => ?_⟩
  have hq : q = 0 := by have := (List.getElem?_eq_some_iff.1 hu).1; simp at this; omega
  subst hq
  injection hu with hu
  subst hu
  have := h.get (i + j) p hp
  rw [show j * (Kd.int .u8).sz + 0 = j from Nat.mul_one j, add_off]
  exact this
theorem C_src {w : World} {A : Option Addr} {n : Nat} {xs : List Int} (h : (Kd.int .u8).C w A n xs) (h0 : 0 < n) : ∃ a, A = some a ∧ ∀ j x, xs[j]? = some x → w.cell? (a.add j) = some (.int .u8 x) := by
  obtain ⟨ad, e, hc⟩ := h.2.2 (by have := h.1; omega)
  refine ⟨ad, e, fun j x hx => ?_⟩
  obtain ⟨c, _, hK, hcc⟩ := hc j x hx
  have hK' : c = [Value.int .u8 x] := hK
  subst hK'
  have := hcc 0 (.int .u8 x) rfl
  have e : j * (Kd.int .u8).sz + 0 = j := Nat.mul_one j
  rw [e] at this
  exact this
/-- A list laid over another, both as values. -/
def overV (cs : List Value) (i : Nat) (l : List Int) : List Value := cs.take i ++ by8 l ++ cs.drop (i + (by8 l).length)
theorem overV_length (cs : List Value) (i : Nat) (l : List Int) (h : i + l.length ≤ cs.length) : (overV cs i l).length = cs.length := by
  unfold overV
  rw [List.length_append, List.length_append, List.length_take, List.length_drop, by8_length]
  omega
theorem overV_take {cs : List Value} {b l : List Int} {i : Nat} (h : cs.take b.length = by8 b) (hc : b.length ≤ cs.length) (hi : i + l.length ≤ b.length) : (overV cs i l).take b.length = by8 (putAt b i l) := by
  have hb : ∀ j, j < b.length → cs[j]? = (b[j]?).map (Value.int .u8) := fun j hj => by
    rw [← List.getElem?_take_of_lt hj, h, List.getElem?_map]
  apply List.ext_getElem?
  intro j
  by_cases hj : j < b.length
  · rw [List.getElem?_take_of_lt hj, List.getElem?_map, putAt_get b i l hi j]
    unfold overV
    rw [List.append_assoc, List.getElem?_append, List.length_take, Nat.min_eq_left (by omega)]
    by_cases h1 : j < i
    · rw [if_pos h1, if_neg (by omega), List.getElem?_take_of_lt h1, hb j hj]
    · rw [if_neg h1, List.getElem?_append, by8_length]
      by_cases h2 : j - i < l.length
      · rw [if_pos h2, if_pos (by omega), List.getElem?_map]
      · rw [if_neg h2, if_neg (by omega), List.getElem?_drop, show i + l.length + (j - i - l.length) = j by omega, hb j hj]
  · rw [List.getElem?_eq_none (by rw [List.length_take]; omega), List.getElem?_eq_none (by rw [by8_length, putAt_length b i l hi]; omega)]
theorem Im.over {w w' : World} {g cap : Nat} {b : List Int} {cs : List Value} (h1 : b.length ≤ cap) (h2 : cap ≤ cs.length) (h3 : cs.take b.length = by8 b) (i : Nat) (l : List Int) (hi : i + l.length ≤ b.length) (hg : w'.heap[g]? = some (.cells (overV cs i l).toArray 5 (0, 0))) : Im w' g cap (putAt b i l) :=
  ⟨overV cs i l, hg, by rw [putAt_length b i l hi]; exact h1, by rw [overV_length _ _ _ (by omega)]; exact h2, by rw [putAt_length b i l hi]; exact overV_take h3 (by omega) hi⟩
/-- Only that row has been written. -/
theorem grown_row {w : World} {g : Nat} (cs : Array Value) : w.grownBy (w.setRow g cs) (some g) := ⟨rfl, rfl, rfl, by simp, fun k hk hne => setRow_other w g k cs (fun e => hne (by rw [e]))⟩
/-- Bytes are copied onto it. -/
theorem Im.copy {w : World} {g cap : Nat} {b : List Int} (h : Im w g cap b) (i : Nat) (l : List Int) (hi : i + l.length ≤ b.length) {dLen dCap sLen sCap : Nat} {A : Option Addr} (hn : l.length = Nat.min sLen dLen) (h0 : 0 < l.length) (hC : ∃ xs, (Kd.int .u8).C w A sLen xs ∧ xs.take l.length = l) (ty : TypeId) :
    ∃ w', (Builtin.copy_ #[24, 24] ty #[.slice (some ⟨g, i, none⟩) dLen dCap, .slice A sLen sCap]).run Try.prog w = .ok (goInt l.length) w' ∧ Im w' g cap (putAt b i l) ∧ w.grownBy w' (some g) ∧ w'.heap.size = w.heap.size := by
  obtain ⟨cs, h1, h2, h3, h4⟩ := h
  obtain ⟨xs, hC, hx⟩ := hC
  have hm : l.length ≤ sLen := by rw [hn]; exact Nat.min_le_left _ _
  obtain ⟨a, rfl, hs⟩ := C_src hC (by omega)
  have hr := run_copy_row (P := Try.prog) w 24 24 ty 5 g i dLen dCap a sLen sCap cs.toArray 5 (by8 l) Try.underlying24 (by kernel_rfl) h1 (by rw [by8_length]; exact hn) (fun j v hj => by
    rw [List.getElem?_map] at hj
    obtain ⟨x, hx2, rfl⟩ := Option.map_eq_some_iff.1 hj
    refine hs j x ?_
    have hjl := (List.getElem?_eq_some_iff.1 hx2).1
    rw [← List.getElem?_take_of_lt hjl, hx]
    exact hx2) (by rw [by8_length]; simp; omega) (by8_one l)
  rw [by8_length] at hr
  refine ⟨_, hr, Im.over (w := w) h2 h3 h4 i l hi ?_, grown_row _, by simp⟩
  rw [setRow_heap w g _ _ 5 (0, 0) h1]
  unfold overV
  rw [by8_length]
/-! ### bytes.Repeat of one byte FF -/
/-- A block of which the first are FF. -/
def Fill (w : World) (g n k : Nat) : Prop := ∃ cs : List Value, w.heap[g]? = some (.cells cs.toArray 5 (0, 0)) ∧ n ≤ cs.length ∧ k ≤ n ∧ ∀ j, j < k → cs[j]? = some (.int .u8 255)
theorem Fill.im {w : World} {g n : Nat} (h : Fill w g n n) : Im w g n (List.replicate n 255) := by
  obtain ⟨cs, h1, h2, h3, h4⟩ := h
  refine ⟨cs, h1, by rw [List.length_replicate]; exact Nat.le_refl _, h2, ?_⟩
  rw [List.length_replicate]
  apply List.ext_getElem?
  intro j
  by_cases hj : j < n
  · rw [List.getElem?_take_of_lt hj, h4 j hj, List.getElem?_map, List.getElem?_replicate, if_pos hj]; rfl
  · rw [List.getElem?_eq_none (by rw [List.length_take]; omega), List.getElem?_eq_none (by rw [by8_length, List.length_replicate]; omega)]
/-- What is filled is laid behind it, as much as there is room. -/
theorem Fill.copy {w : World} {g n k : Nat} (h : Fill w g n k) (ch : Nat) (hch : ch ≤ k) (h0 : 0 < ch) (hk : k < n) (ty : TypeId) :
    ∃ w', (Builtin.copy_ #[24, 24] ty #[.slice (some ⟨g, k, none⟩) (n - k) (n - k), .slice (some ⟨g, 0, none⟩) ch n]).run Try.prog w = .ok (goInt (Nat.min ch (n - k) : Nat)) w' ∧ Fill w' g n (k + Nat.min ch (n - k)) ∧ w.grownBy w' (some g) ∧ w'.heap.size = w.heap.size := by
  obtain ⟨cs, h1, h2, h3, h4⟩ := h
  obtain ⟨m, hm⟩ : ∃ m, Nat.min ch (n - k) = m := ⟨_, rfl⟩
  have hm1 : m ≤ ch ∧ m ≤ n - k ∧ 0 < m := by rw [← hm]; exact ⟨Nat.min_le_left _ _, Nat.min_le_right _ _, by simp only [Nat.min_def]; split <;> omega⟩
  have hr := run_copy_row (P := Try.prog) w 24 24 ty 5 g k (n - k) (n - k) ⟨g, 0, none⟩ ch n cs.toArray 5 (List.replicate m (.int .u8 255)) Try.underlying24 (by kernel_rfl) h1 (by rw [List.length_replicate]; exact hm.symm) (fun j v hj => by
    rw [List.getElem?_replicate] at hj
    by_cases hjm : j < m
    · rw [if_pos hjm] at hj
      rw [add_plain, blk_cell h1, List.getElem?_toArray, h4 j (by omega)]
      exact hj
    · rw [if_neg hjm] at hj; cases hj) (by rw [List.length_replicate]; simp; omega) (fun v hv => by rw [List.eq_of_mem_replicate hv]; rfl)
  rw [List.length_replicate] at hr
  rw [hm]
  refine ⟨_, hr, ⟨cs.take k ++ List.replicate m (.int .u8 255) ++ cs.drop (k + m), ?_, by simp; omega, by omega, fun j hj => ?_⟩, grown_row _, by simp⟩
  · rw [setRow_heap w g _ _ 5 (0, 0) h1]
  · rw [List.append_assoc, List.getElem?_append, List.length_take, Nat.min_eq_left (by omega)]
    by_cases hjk : j < k
    · rw [if_pos hjk, List.getElem?_take_of_lt hjk, h4 j hjk]
    · rw [if_neg hjk, List.getElem?_append_left (by rw [List.length_replicate]; omega), List.getElem?_replicate, if_pos (by omega)]
/-- One byte, at the start. -/
theorem Fill.one {w : World} {g n gb : Nat} {cs : List Value} (h : w.heap[g]? = some (.cells cs.toArray 5 (0, 0))) (hn : n ≤ cs.length) (h1 : 1 ≤ n) (hb : w.cell? ⟨gb, 0, none⟩ = some (.int .u8 255)) (c ty : Nat) :
    ∃ w', (Builtin.copy_ #[24, 24] ty #[.slice (some ⟨g, 0, none⟩) n n, .slice (some ⟨gb, 0, none⟩) 1 c]).run Try.prog w = .ok (goInt 1) w' ∧ Fill w' g n 1 ∧ w.grownBy w' (some g) ∧ w'.heap.size = w.heap.size := by
  have hr := run_copy_row (P := Try.prog) w 24 24 ty 5 g 0 n n ⟨gb, 0, none⟩ 1 c cs.toArray 5 [.int .u8 255] Try.underlying24 (by kernel_rfl) h (by simp only [List.length_singleton, Nat.min_def]; split <;> omega) (fun j v hj => by
    have : j = 0 := by have := (List.getElem?_eq_some_iff.1 hj).1; simp at this; omega
    subst this
    injection hj with hj
    subst hj
    rw [add_plain]; exact hb) (by simp; omega) (fun v hv => by rw [List.mem_singleton.1 hv]; rfl)
  refine ⟨_, hr, ⟨[.int .u8 255] ++ cs.drop 1, ?_, by simp; omega, h1, fun j hj => ?_⟩, grown_row _, by simp⟩
  · rw [setRow_heap w g _ _ 5 (0, 0) h]
    simp
  · have : j = 0 := by omega
    subst this
    rfl
theorem mul1 (n : Nat) (hn : n ≤ 1048576) : bits_Mul.f 1 (n : Int) = some (0, (n : Int)) := by
  have w : ∀ x : Int, 0 ≤ x → x ≤ 18446744073709551615 → IntKind.u64.wrap x = x := fun x h0 h1 => by rw [IntKind.wrap_u64]; omega
  have b1 : Go.bits .and .u64 1 4294967295 = 1 := by decide +kernel
  have b0 : Go.bits .and .u64 0 4294967295 = 0 := by decide +kernel
  have bn : Go.bits .and .u64 (n : Int) 4294967295 = (n : Int) := by
    have h := bits_mask .u64 64 (by decide) (fun m h0 h1 => by rw [IntKind.wrap_u64]; omega) 32 (by decide) (n : Int) (by omega) (by omega)
    have e : (2 : Int) ^ 32 - 1 = 4294967295 := by decide
    rw [e] at h
    rw [h]
    omega
  have e1 : (1 : Int) / 4294967296 = 0 := by decide
  have e2 : (n : Int) / 4294967296 = 0 := by omega
  have z : IntKind.u64.wrap 0 = 0 := w 0 (by omega) (by omega)
  have wn : IntKind.u64.wrap (n : Int) = (n : Int) := w _ (by omega) (by omega)
  unfold bits_Mul.f bits_Mul64.f
  simp only [b1, bn, e1, e2, Int.zero_mul, Int.mul_zero, Int.one_mul, Int.zero_add, Int.add_zero, z, wn, b0, Int.zero_ediv, Option.bind_some]
theorem run_cut_lo {W : World} {g n k : Nat} (hk : k < n) : (Instr.slice 24 (.slice (some ⟨g, 0, none⟩) n n) (some (.int .i64 (k : Int))) none none).run Try.prog W = .ok (.slice (some ⟨g, k, none⟩) (n - k) (n - k)) W := by
  have h := Lib.run_slice_tailV (P := Try.prog) W 24 5 Try.underlying24 (fun w => by kernel_rfl) g n k (by omega)
  unfold Lib.tailV at h
  rw [if_neg (by omega)] at h
  exact h
def Blanked (w : World) (n : Nat) (en : Ending) (w' : World) : Prop := ∃ g, en = .returned (.slice (some ⟨g, 0, none⟩) n n) ∧ Im w' g n (List.replicate n 255) ∧ w.heap.size ≤ g ∧ Below w.heap.size w w'
set_option maxHeartbeats 4000000 in
set_option maxRecDepth 100000 in
theorem repeat_walk {w : World} {gb n : Nat} (hb : w.heap[gb]? = some (.cells #[.int .u8 255] 5 (0, 0))) (h1 : 1 ≤ n) (hn : n ≤ 1048576) :
    Calls Try.prog 64 #[.slice (some ⟨gb, 0, none⟩) 1 1, .int .i64 (n : Int)] w (Blanked w n) := by
  have HB := Aside0.mk hb
  have HM := Aside0.mk (fun w' => bits_Mul.calls 1 (n : Int) 0 (n : Int) w' (mul1 n hn))
  have i1 : ((n : Int) == 0) = false := by rw [beq_eq_false_iff_ne]; omega
  have i2 : decide ((n : Int) < 0) = false := decide_eq_false (by omega)
  have i3 : decide ((9223372036854775807 : Int) < (n : Int)) = false := decide_eq_false (by omega)
  have i4 : IntKind.u64.wrap (n : Int) = (n : Int) := by rw [IntKind.wrap_u64]; omega
  have i5 : IntKind.i64.wrap (n : Int) = (n : Int) := IntWalk.i64_in _ (by omega)
  clear hb
  go_enter Try.func64, Try.ntmps64
  go_upto_region 11 with (go_at_call 79; refine (HM.out _).mono ?_; rintro e w1 ⟨rfl, ⟨q, rfl⟩⟩)
  obtain ⟨wq, hwq⟩ : ∃ wq, w.drewN q = wq := ⟨_, rfl⟩
  have BQ : Aside0 (Below w.heap.size w wq) := ⟨by rw [← hwq]; exact pw_below_drewN (Below.refl _ _) _⟩
  rw [hwq]
  clear hwq i1 i2 i3 i4
  obtain ⟨cs, hrunM, hle, _⟩ := Lib.run_makeNoZero (P := Try.prog) wq #[3] 24 5 Try.underlying24 n (by omega)
  obtain ⟨w2, hw2⟩ : ∃ w2, wq.drew.drew.alloc (.cells cs 5) = w2 := ⟨_, rfl⟩
  obtain ⟨g, hg⟩ : ∃ g, wq.heap.size = g := ⟨_, rfl⟩
  have hcall : (callFunc 80 #[.int .i64 (n : Int)]).run Try.prog wq = .ok (.value (.slice (some ⟨g, 0, none⟩) n cs.size)) w2 := by
    rw [run_callFunc_extern Try.func80 (by kernel_rfl) (by kernel_rfl) (by kernel_rfl) (e := Extern.BytealgMakeNoZero.makeNoZero #[3] #[24]) (by kernel_rfl), hrunM, hw2, hg]
    rfl
  have B2 : Aside0 (Below w.heap.size w w2) := ⟨by
    rw [← hw2]
    exact BQ.out.trans ((below_alloc (below_drew (below_drew (Below.refl wq.heap.size wq))) _).mono BQ.out.size)⟩
  have HG : Aside0 (w.heap.size ≤ g) := ⟨by rw [← hg]; exact BQ.out.size⟩
  have hg2 : w2.heap[g]? = some (.cells cs 5 (0, 0)) := by
    rw [← hw2, ← hg]
    exact blk_new wq.drew.drew _
  obtain ⟨ls, rfl⟩ : ∃ ls : List Value, cs = ls.toArray := ⟨cs.toList, by simp⟩
  have hle2 : n ≤ ls.length := by simpa using hle
  obtain ⟨w3, hr3, hF3, hG3, hS3⟩ := Fill.one hg2 hle2 h1 (pw_cell_below B2.out (blk_cell HB.out 0)) 1 3
  have F3 := Aside0.mk hF3
  have B3 := Aside0.mk (B2.out.grown hG3 B2.out.size (fun k hk => by injection hk with hk; rw [← hk]; exact HG.out))
  have j0 : (0 : Int) ≤ (n : Int) := by omega
  have j1 : (n : Int) ≤ ((ls.toArray.size : Nat) : Int) := by omega
  clear hrunM hw2 hg hg2 hle hF3 hG3 hS3
  obtain ⟨M, hM⟩ : ∃ M : Nat, (if 8192 < n then 8192 else n) = M := ⟨_, rfl⟩
  have hM0 : 0 < M := by rw [← hM]; split <;> omega
  by_cases hbig : 8192 < n
  · rw [if_pos hbig] at hM
    have k1 : decide ((8192 : Int) < (n : Int)) = true := decide_eq_true (by omega)
    go_upto_region 17 with (fail)
    rw [show (8192 : Int) = ((M : Nat) : Int) by rw [← hM]; rfl]
    go_upto_region 18 with (at_builtin; refine Lib.wpList_copy_run _ rfl _ _ 24 24 rfl _ _ rfl rfl hr3 ?_)
    clear hr3 hcall
    go_wp2
    go_loopw [10] (fun v wr => ∃ bp : Nat, 1 ≤ bp ∧ bp ≤ n ∧ v = .int .i64 (bp : Int) ∧ Aside0 (Fill wr g n bp) ∧ Aside0 (Below w.heap.size w wr)) (fun v _ => n - (intOf v).toNat)
    case atStart => exact ⟨1, by omega, h1, rfl, F3, B3⟩
    case round =>
      clear F3 B3
      obtain ⟨bp, hbp1, hbp2, rfl, FK, BK⟩ := hrel
      by_cases hbp : bp < n
      · have ix : decide ((bp : Int) < (n : Int)) = true := decide_eq_true (by omega)
        by_cases hm : ¬ M < bp
        · have im : decide ((M : Int) < (bp : Int)) = false := decide_eq_false (by omega)
          go_upto_region 20 with (fail)
          have hch : bp ≤ bp := by omega
          have hch0 : 0 < bp := by omega
          have hchn : bp ≤ n := by omega
          have s1 : ∀ W, (Instr.slice 24 (.slice (some ⟨g, 0, none⟩) n n) (some (.int .i64 (bp : Int))) none none).run Try.prog W = .ok (.slice (some ⟨g, bp, none⟩) (n - bp) (n - bp)) W := fun W => run_cut_lo hbp
          have s2 : (0 : Int) ≤ (bp : Int) := by omega
          have s3 : (bp : Int) ≤ (n : Int) := by omega
          have hmin : Nat.min bp (n - bp) ≤ n - bp ∧ 0 < Nat.min bp (n - bp) := ⟨Nat.min_le_right _ _, by simp only [Nat.min_def]; split <;> omega⟩
          clear hm im
          refine start_ (n := 10) (S := fun w' => True) (ds := []) #[F,F,F,F,F,F,F,F,F,F] (by kernel_rfl) rfl rfl (trivial) (fun hHeld => ?_)
          generalize hwd : wr.drew = wd at hHeld ⊢
          have BD : Aside0 (Below wr.heap.size wr wd) := ⟨by rw [← hwd]; exact below_drew (Below.refl _ _)⟩
          have FD : Aside0 (Fill wd g n bp) := ⟨by rw [← hwd]; exact FK.out⟩
          clear hwd
          refine pure_ (i := 0) (N := some 67) (v := ?_) (a' := ?_) #[T,F,F,F,F,F,F,F,F,F] rfl rfl (by kernel_rfl) (fun _ _ _ h => h) (Or.inl ⟨by rfl, ?_⟩) ?_ ?_
          rotate_left
          · intro w'
            go_simp
            with_reducible rfl
          rotate_left
          · simp only [Act.put, sA, s0_, sS, i64_w, i32_w]
            rfl
          refine pure_ (i := 1) (N := some 68) (v := ?_) (a' := ?_) #[T,T,F,F,F,F,F,F,F,F] rfl rfl (by kernel_rfl) (fun _ _ _ h => h) (Or.inl ⟨by rfl, ?_⟩) ?_ ?_
          rotate_left
          · intro w'
            go_simp
            with_reducible rfl
          rotate_left
          · simp only [Act.put, sA, s0_, sS, i64_w, i32_w]
            rfl
          refine pure_ (i := 2) (N := some 69) (v := ?_) (a' := ?_) #[T,T,T,F,F,F,F,F,F,F] rfl rfl (by kernel_rfl) (fun _ _ _ h => h) (Or.inl ⟨by rfl, ?_⟩) ?_ ?_
          rotate_left
          · intro w'
            go_simp
            with_reducible rfl
          rotate_left
          · simp only [Act.put, sA, s0_, sS, i64_w, i32_w]
            rfl
          refine pure_ (i := 3) (N := some 70) (v := ?_) (a' := ?_) #[T,T,T,T,F,F,F,F,F,F] rfl rfl (by kernel_rfl) (fun _ _ _ h => h) (Or.inl ⟨by rfl, ?_⟩) ?_ ?_
          rotate_left
          · intro w'
            go_simp
            with_reducible rfl
          rotate_left
          · simp only [Act.put, sA, s0_, sS, i64_w, i32_w]
            rfl
          refine pure_ (i := 4) (N := some 71) (v := ?_) (a' := ?_) #[T,T,T,T,T,F,F,F,F,F] rfl rfl (by kernel_rfl) (fun _ _ _ h => h) (Or.inl ⟨by rfl, ?_⟩) ?_ ?_
          rotate_left
          · intro w'
            go_simp
            with_reducible rfl
          rotate_left
          · simp only [Act.put, sA, s0_, sS, i64_w, i32_w]
            rfl
          refine pure_ (i := 5) (N := some 72) (v := ?_) (a' := ?_) #[T,T,T,T,T,T,F,F,F,F] rfl rfl (by kernel_rfl) (fun _ _ _ h => h) (Or.inl ⟨by rfl, ?_⟩) ?_ ?_
          rotate_left
          · intro w'
            go_simp
            with_reducible rfl
          rotate_left
          · simp only [Act.put, sA, s0_, sS, i64_w, i32_w]
            rfl
          refine pure_ (i := 6) (N := some 73) (v := ?_) (a' := ?_) #[T,T,T,T,T,T,T,F,F,F] rfl rfl (by kernel_rfl) (fun _ _ _ h => h) (Or.inl ⟨by rfl, ?_⟩) ?_ ?_
          rotate_left
          · intro w'
            go_simp
            with_reducible rfl
          rotate_left
          · simp only [Act.put, sA, s0_, sS, i64_w, i32_w]
            rfl
          obtain ⟨wf, hrun, hF, hG, hS⟩ := FD.out.copy bp hch hch0 hbp 3
          have F1 := Aside0.mk hF
          have G1 := Aside0.mk hG
          have S1 := Aside0.mk hS
          clear hF hG hS
          refine one_ (i := 7) (N := some 74) #[T,T,T,T,T,T,T,T,F,F] rfl rfl (by kernel_rfl) (by decide) (fun K hK => ?_)
          refine value_ (w1 := wf) (v := .int .i64 ((Nat.min bp (n - bp) : Nat) : Int)) (by rfl) rfl (by simp [execOp, resolve, invoke, builtin, Act.eval, hrun, Result.andThen, goInt]) ?_
          refine hK.out _ _ (trivial) (fun hHeld => ?_)
          clear hK K
          refine norm_ (a' := ?_) ?_ ?_
          rotate_left
          · show Act.put _ (some 74) _ = _
            simp only [Act.put, sA, s0_, sS, i64_w, i32_w]
            rfl
          clear hrun
          refine pure_ (i := 8) (N := some 75) (v := ?_) (a' := ?_) #[T,T,T,T,T,T,T,T,T,F] rfl rfl (by kernel_rfl) (fun _ _ _ h => h) (Or.inl ⟨by rfl, ?_⟩) ?_ ?_
          rotate_left
          · intro w'
            go_simp
            with_reducible rfl
          rotate_left
          · simp only [Act.put, sA, s0_, sS, i64_w, i32_w]
            rfl
          refine pure_ (i := 9) (N := some 10) (v := ?_) (a' := ?_) #[T,T,T,T,T,T,T,T,T,T] rfl rfl (by kernel_rfl) (fun _ _ _ h => h) (Or.inl ⟨by rfl, ?_⟩) ?_ ?_
          rotate_left
          · intro w'
            go_simp
            with_reducible rfl
          rotate_left
          · simp only [Act.put, sA, s0_, sS, i64_w, i32_w]
            rfl
          refine done_ (by kernel_rfl) ?_
          obtain ⟨mm, hmm⟩ : ∃ mm, Nat.min bp (n - bp) = mm := ⟨_, rfl⟩
          rw [hmm] at F1 hmin
          rw [hmm]
          have hw := Aside0.mk (show wrap64 ((bp : Int) + (mm : Int)) = ((bp + mm : Nat) : Int) by unfold wrap64; omega)
          have HMIN := Aside0.mk hmin
          have BF := Aside0.mk ((BK.out.trans (BD.out.mono BK.out.size)).grown G1.out (Nat.le_trans BK.out.size BD.out.size) (fun k hk => by injection hk with hk; rw [← hk]; exact HG.out))
          clear hmm s1 s2 s3 hmin ix hch hch0 hchn
          go_wp2
          go_roundw
          case rel => exact ⟨bp + mm, by omega, by have := HMIN.out; omega, by rw [hw.out], F1, BF⟩
          case measure =>
            have h2 := HMIN.out
            show n - (intOf (.int .i64 (wrap64 ((bp : Int) + (mm : Int))))).toNat < n - (intOf (.int .i64 (bp : Int))).toNat
            rw [hw.out]
            simp only [intOf, Int.toNat_natCast]
            omega
        · have hm : M < bp := by omega
          have im : decide ((M : Int) < (bp : Int)) = true := decide_eq_true (by omega)
          go_upto_region 20 with (fail)
          have hch : M ≤ bp := by omega
          have hch0 : 0 < M := by omega
          have hchn : M ≤ n := by omega
          have s1 : ∀ W, (Instr.slice 24 (.slice (some ⟨g, 0, none⟩) n n) (some (.int .i64 (bp : Int))) none none).run Try.prog W = .ok (.slice (some ⟨g, bp, none⟩) (n - bp) (n - bp)) W := fun W => run_cut_lo hbp
          have s2 : (0 : Int) ≤ (M : Int) := by omega
          have s3 : (M : Int) ≤ (n : Int) := by omega
          have hmin : Nat.min M (n - bp) ≤ n - bp ∧ 0 < Nat.min M (n - bp) := ⟨Nat.min_le_right _ _, by simp only [Nat.min_def]; split <;> omega⟩
          clear hm im
          refine start_ (n := 10) (S := fun w' => True) (ds := []) #[F,F,F,F,F,F,F,F,F,F] (by kernel_rfl) rfl rfl (trivial) (fun hHeld => ?_)
          generalize hwd : wr.drew = wd at hHeld ⊢
          have BD : Aside0 (Below wr.heap.size wr wd) := ⟨by rw [← hwd]; exact below_drew (Below.refl _ _)⟩
          have FD : Aside0 (Fill wd g n bp) := ⟨by rw [← hwd]; exact FK.out⟩
          clear hwd
          refine pure_ (i := 0) (N := some 67) (v := ?_) (a' := ?_) #[T,F,F,F,F,F,F,F,F,F] rfl rfl (by kernel_rfl) (fun _ _ _ h => h) (Or.inl ⟨by rfl, ?_⟩) ?_ ?_
          rotate_left
          · intro w'
            go_simp
            with_reducible rfl
          rotate_left
          · simp only [Act.put, sA, s0_, sS, i64_w, i32_w]
            rfl
          refine pure_ (i := 1) (N := some 68) (v := ?_) (a' := ?_) #[T,T,F,F,F,F,F,F,F,F] rfl rfl (by kernel_rfl) (fun _ _ _ h => h) (Or.inl ⟨by rfl, ?_⟩) ?_ ?_
          rotate_left
          · intro w'
            go_simp
            with_reducible rfl
          rotate_left
          · simp only [Act.put, sA, s0_, sS, i64_w, i32_w]
            rfl
          refine pure_ (i := 2) (N := some 69) (v := ?_) (a' := ?_) #[T,T,T,F,F,F,F,F,F,F] rfl rfl (by kernel_rfl) (fun _ _ _ h => h) (Or.inl ⟨by rfl, ?_⟩) ?_ ?_
          rotate_left
          · intro w'
            go_simp
            with_reducible rfl
          rotate_left
          · simp only [Act.put, sA, s0_, sS, i64_w, i32_w]
            rfl
          refine pure_ (i := 3) (N := some 70) (v := ?_) (a' := ?_) #[T,T,T,T,F,F,F,F,F,F] rfl rfl (by kernel_rfl) (fun _ _ _ h => h) (Or.inl ⟨by rfl, ?_⟩) ?_ ?_
          rotate_left
          · intro w'
            go_simp
            with_reducible rfl
          rotate_left
          · simp only [Act.put, sA, s0_, sS, i64_w, i32_w]
            rfl
          refine pure_ (i := 4) (N := some 71) (v := ?_) (a' := ?_) #[T,T,T,T,T,F,F,F,F,F] rfl rfl (by kernel_rfl) (fun _ _ _ h => h) (Or.inl ⟨by rfl, ?_⟩) ?_ ?_
          rotate_left
          · intro w'
            go_simp
            with_reducible rfl
          rotate_left
          · simp only [Act.put, sA, s0_, sS, i64_w, i32_w]
            rfl
          refine pure_ (i := 5) (N := some 72) (v := ?_) (a' := ?_) #[T,T,T,T,T,T,F,F,F,F] rfl rfl (by kernel_rfl) (fun _ _ _ h => h) (Or.inl ⟨by rfl, ?_⟩) ?_ ?_
          rotate_left
          · intro w'
            go_simp
            with_reducible rfl
          rotate_left
          · simp only [Act.put, sA, s0_, sS, i64_w, i32_w]
            rfl
          refine pure_ (i := 6) (N := some 73) (v := ?_) (a' := ?_) #[T,T,T,T,T,T,T,F,F,F] rfl rfl (by kernel_rfl) (fun _ _ _ h => h) (Or.inl ⟨by rfl, ?_⟩) ?_ ?_
          rotate_left
          · intro w'
            go_simp
            with_reducible rfl
          rotate_left
          · simp only [Act.put, sA, s0_, sS, i64_w, i32_w]
            rfl
          obtain ⟨wf, hrun, hF, hG, hS⟩ := FD.out.copy M hch hch0 hbp 3
          have F1 := Aside0.mk hF
          have G1 := Aside0.mk hG
          have S1 := Aside0.mk hS
          clear hF hG hS
          refine one_ (i := 7) (N := some 74) #[T,T,T,T,T,T,T,T,F,F] rfl rfl (by kernel_rfl) (by decide) (fun K hK => ?_)
          refine value_ (w1 := wf) (v := .int .i64 ((Nat.min M (n - bp) : Nat) : Int)) (by rfl) rfl (by simp [execOp, resolve, invoke, builtin, Act.eval, hrun, Result.andThen, goInt]) ?_
          refine hK.out _ _ (trivial) (fun hHeld => ?_)
          clear hK K
          refine norm_ (a' := ?_) ?_ ?_
          rotate_left
          · show Act.put _ (some 74) _ = _
            simp only [Act.put, sA, s0_, sS, i64_w, i32_w]
            rfl
          clear hrun
          refine pure_ (i := 8) (N := some 75) (v := ?_) (a' := ?_) #[T,T,T,T,T,T,T,T,T,F] rfl rfl (by kernel_rfl) (fun _ _ _ h => h) (Or.inl ⟨by rfl, ?_⟩) ?_ ?_
          rotate_left
          · intro w'
            go_simp
            with_reducible rfl
          rotate_left
          · simp only [Act.put, sA, s0_, sS, i64_w, i32_w]
            rfl
          refine pure_ (i := 9) (N := some 10) (v := ?_) (a' := ?_) #[T,T,T,T,T,T,T,T,T,T] rfl rfl (by kernel_rfl) (fun _ _ _ h => h) (Or.inl ⟨by rfl, ?_⟩) ?_ ?_
          rotate_left
          · intro w'
            go_simp
            with_reducible rfl
          rotate_left
          · simp only [Act.put, sA, s0_, sS, i64_w, i32_w]
            rfl
          refine done_ (by kernel_rfl) ?_
          obtain ⟨mm, hmm⟩ : ∃ mm, Nat.min M (n - bp) = mm := ⟨_, rfl⟩
          rw [hmm] at F1 hmin
          rw [hmm]
          have hw := Aside0.mk (show wrap64 ((bp : Int) + (mm : Int)) = ((bp + mm : Nat) : Int) by unfold wrap64; omega)
          have HMIN := Aside0.mk hmin
          have BF := Aside0.mk ((BK.out.trans (BD.out.mono BK.out.size)).grown G1.out (Nat.le_trans BK.out.size BD.out.size) (fun k hk => by injection hk with hk; rw [← hk]; exact HG.out))
          clear hmm s1 s2 s3 hmin ix hch hch0 hchn
          go_wp2
          go_roundw
          case rel => exact ⟨bp + mm, by omega, by have := HMIN.out; omega, by rw [hw.out], F1, BF⟩
          case measure =>
            have h2 := HMIN.out
            show n - (intOf (.int .i64 (wrap64 ((bp : Int) + (mm : Int))))).toNat < n - (intOf (.int .i64 (bp : Int))).toNat
            rw [hw.out]
            simp only [intOf, Int.toNat_natCast]
            omega
      · obtain rfl : bp = n := by omega
        have ix : decide ((bp : Int) < (bp : Int)) = false := decide_eq_false (by omega)
        go_wp2
        go_ret
        exact ⟨g, rfl, FK.out.im, HG.out, BK.out⟩
  · rw [if_neg hbig] at hM
    subst hM
    have k1 : decide ((8192 : Int) < (n : Int)) = false := decide_eq_false (by omega)
    go_upto_region 17 with (fail)
    go_upto_region 18 with (at_builtin; refine Lib.wpList_copy_run _ rfl _ _ 24 24 rfl _ _ rfl rfl hr3 ?_)
    clear hr3 hcall
    go_wp2
    go_loopw [10] (fun v wr => ∃ bp : Nat, 1 ≤ bp ∧ bp ≤ n ∧ v = .int .i64 (bp : Int) ∧ Aside0 (Fill wr g n bp) ∧ Aside0 (Below w.heap.size w wr)) (fun v _ => n - (intOf v).toNat)
    case atStart => exact ⟨1, by omega, h1, rfl, F3, B3⟩
    case round =>
      clear F3 B3
      obtain ⟨bp, hbp1, hbp2, rfl, FK, BK⟩ := hrel
      by_cases hbp : bp < n
      · have ix : decide ((bp : Int) < (n : Int)) = true := decide_eq_true (by omega)
        by_cases hm : ¬ n < bp
        · have im : decide ((n : Int) < (bp : Int)) = false := decide_eq_false (by omega)
          go_upto_region 20 with (fail)
          have hch : bp ≤ bp := by omega
          have hch0 : 0 < bp := by omega
          have hchn : bp ≤ n := by omega
          have s1 : ∀ W, (Instr.slice 24 (.slice (some ⟨g, 0, none⟩) n n) (some (.int .i64 (bp : Int))) none none).run Try.prog W = .ok (.slice (some ⟨g, bp, none⟩) (n - bp) (n - bp)) W := fun W => run_cut_lo hbp
          have s2 : (0 : Int) ≤ (bp : Int) := by omega
          have s3 : (bp : Int) ≤ (n : Int) := by omega
          have hmin : Nat.min bp (n - bp) ≤ n - bp ∧ 0 < Nat.min bp (n - bp) := ⟨Nat.min_le_right _ _, by simp only [Nat.min_def]; split <;> omega⟩
          clear hm im
          refine start_ (n := 10) (S := fun w' => True) (ds := []) #[F,F,F,F,F,F,F,F,F,F] (by kernel_rfl) rfl rfl (trivial) (fun hHeld => ?_)
          generalize hwd : wr.drew = wd at hHeld ⊢
          have BD : Aside0 (Below wr.heap.size wr wd) := ⟨by rw [← hwd]; exact below_drew (Below.refl _ _)⟩
          have FD : Aside0 (Fill wd g n bp) := ⟨by rw [← hwd]; exact FK.out⟩
          clear hwd
          refine pure_ (i := 0) (N := some 67) (v := ?_) (a' := ?_) #[T,F,F,F,F,F,F,F,F,F] rfl rfl (by kernel_rfl) (fun _ _ _ h => h) (Or.inl ⟨by rfl, ?_⟩) ?_ ?_
          rotate_left
          · intro w'
            go_simp
            with_reducible rfl
          rotate_left
          · simp only [Act.put, sA, s0_, sS, i64_w, i32_w]
            rfl
          refine pure_ (i := 1) (N := some 68) (v := ?_) (a' := ?_) #[T,T,F,F,F,F,F,F,F,F] rfl rfl (by kernel_rfl) (fun _ _ _ h => h) (Or.inl ⟨by rfl, ?_⟩) ?_ ?_
          rotate_left
          · intro w'
            go_simp
            with_reducible rfl
          rotate_left
          · simp only [Act.put, sA, s0_, sS, i64_w, i32_w]
            rfl
          refine pure_ (i := 2) (N := some 69) (v := ?_) (a' := ?_) #[T,T,T,F,F,F,F,F,F,F] rfl rfl (by kernel_rfl) (fun _ _ _ h => h) (Or.inl ⟨by rfl, ?_⟩) ?_ ?_
          rotate_left
          · intro w'
            go_simp
            with_reducible rfl
          rotate_left
          · simp only [Act.put, sA, s0_, sS, i64_w, i32_w]
            rfl
          refine pure_ (i := 3) (N := some 70) (v := ?_) (a' := ?_) #[T,T,T,T,F,F,F,F,F,F] rfl rfl (by kernel_rfl) (fun _ _ _ h => h) (Or.inl ⟨by rfl, ?_⟩) ?_ ?_
          rotate_left
          · intro w'
            go_simp
            with_reducible rfl
          rotate_left
          · simp only [Act.put, sA, s0_, sS, i64_w, i32_w]
            rfl
          refine pure_ (i := 4) (N := some 71) (v := ?_) (a' := ?_) #[T,T,T,T,T,F,F,F,F,F] rfl rfl (by kernel_rfl) (fun _ _ _ h => h) (Or.inl ⟨by rfl, ?_⟩) ?_ ?_
          rotate_left
          · intro w'
            go_simp
            with_reducible rfl
          rotate_left
          · simp only [Act.put, sA, s0_, sS, i64_w, i32_w]
            rfl
          refine pure_ (i := 5) (N := some 72) (v := ?_) (a' := ?_) #[T,T,T,T,T,T,F,F,F,F] rfl rfl (by kernel_rfl) (fun _ _ _ h => h) (Or.inl ⟨by rfl, ?_⟩) ?_ ?_
          rotate_left
          · intro w'
            go_simp
            with_reducible rfl
          rotate_left
          · simp only [Act.put, sA, s0_, sS, i64_w, i32_w]
            rfl
          refine pure_ (i := 6) (N := some 73) (v := ?_) (a' := ?_) #[T,T,T,T,T,T,T,F,F,F] rfl rfl (by kernel_rfl) (fun _ _ _ h => h) (Or.inl ⟨by rfl, ?_⟩) ?_ ?_
          rotate_left
          · intro w'
            go_simp
            with_reducible rfl
          rotate_left
          · simp only [Act.put, sA, s0_, sS, i64_w, i32_w]
            rfl
          obtain ⟨wf, hrun, hF, hG, hS⟩ := FD.out.copy bp hch hch0 hbp 3
          have F1 := Aside0.mk hF
          have G1 := Aside0.mk hG
          have S1 := Aside0.mk hS
          clear hF hG hS
          refine one_ (i := 7) (N := some 74) #[T,T,T,T,T,T,T,T,F,F] rfl rfl (by kernel_rfl) (by decide) (fun K hK => ?_)
          refine value_ (w1 := wf) (v := .int .i64 ((Nat.min bp (n - bp) : Nat) : Int)) (by rfl) rfl (by simp [execOp, resolve, invoke, builtin, Act.eval, hrun, Result.andThen, goInt]) ?_
          refine hK.out _ _ (trivial) (fun hHeld => ?_)
          clear hK K
          refine norm_ (a' := ?_) ?_ ?_
          rotate_left
          · show Act.put _ (some 74) _ = _
            simp only [Act.put, sA, s0_, sS, i64_w, i32_w]
            rfl
          clear hrun
          refine pure_ (i := 8) (N := some 75) (v := ?_) (a' := ?_) #[T,T,T,T,T,T,T,T,T,F] rfl rfl (by kernel_rfl) (fun _ _ _ h => h) (Or.inl ⟨by rfl, ?_⟩) ?_ ?_
          rotate_left
          · intro w'
            go_simp
            with_reducible rfl
          rotate_left
          · simp only [Act.put, sA, s0_, sS, i64_w, i32_w]
            rfl
          refine pure_ (i := 9) (N := some 10) (v := ?_) (a' := ?_) #[T,T,T,T,T,T,T,T,T,T] rfl rfl (by kernel_rfl) (fun _ _ _ h => h) (Or.inl ⟨by rfl, ?_⟩) ?_ ?_
          rotate_left
          · intro w'
            go_simp
            with_reducible rfl
          rotate_left
          · simp only [Act.put, sA, s0_, sS, i64_w, i32_w]
            rfl
          refine done_ (by kernel_rfl) ?_
          obtain ⟨mm, hmm⟩ : ∃ mm, Nat.min bp (n - bp) = mm := ⟨_, rfl⟩
          rw [hmm] at F1 hmin
          rw [hmm]
          have hw := Aside0.mk (show wrap64 ((bp : Int) + (mm : Int)) = ((bp + mm : Nat) : Int) by unfold wrap64; omega)
          have HMIN := Aside0.mk hmin
          have BF := Aside0.mk ((BK.out.trans (BD.out.mono BK.out.size)).grown G1.out (Nat.le_trans BK.out.size BD.out.size) (fun k hk => by injection hk with hk; rw [← hk]; exact HG.out))
          clear hmm s1 s2 s3 hmin ix hch hch0 hchn
          go_wp2
          go_roundw
          case rel => exact ⟨bp + mm, by omega, by have := HMIN.out; omega, by rw [hw.out], F1, BF⟩
          case measure =>
            have h2 := HMIN.out
            show n - (intOf (.int .i64 (wrap64 ((bp : Int) + (mm : Int))))).toNat < n - (intOf (.int .i64 (bp : Int))).toNat
            rw [hw.out]
            simp only [intOf, Int.toNat_natCast]
            omega
        · exact absurd hbp (by omega)
      · obtain rfl : bp = n := by omega
        have ix : decide ((bp : Int) < (bp : Int)) = false := decide_eq_false (by omega)
        go_wp2
        go_ret
        exact ⟨g, rfl, FK.out.im, HG.out, BK.out⟩
set_option maxHeartbeats 1000000 in
theorem blank_walk {w : World} {n : Nat} (h1 : 1 ≤ n) (hn : n ≤ 1048576) : Calls Try.prog 37 #[.int .i64 (n : Int)] w (Blanked w n) := by
  have K := Aside0.mk (repeat_walk (w := w.alloc (.cells #[.int .u8 255] 5)) (gb := w.heap.size) (blk_new w _) h1 hn)
  clear h1 hn
  go_enter Try.func37, Try.ntmps37
  go_wp2_with (go_at_call 64; refine K.out.mono ?_; rintro e w1 ⟨g, rfl, hI, hg, hb⟩; have HI := Aside0.mk hI; have HG := Aside0.mk hg; have HB := Aside0.mk hb; clear hI hg hb)
  go_ret
  exact ⟨g, rfl, HI.out, by have := HG.out; simp at this; omega, (below_alloc (Below.refl w.heap.size w) _).trans (HB.out.mono (by simp))⟩
/-! ### Who a block belongs to -/
abbrev Owner := Nat → Nat
/-- From w to w1: what o does not let in is as it was; elder blocks keep their owners. -/
structure Mv (B : Nat) (o : Nat → Prop) (f : Owner) (w : World) (f1 : Owner) (w1 : World) : Prop where
  below : Below B w w1
  keep : ∀ k, k < w.heap.size → ¬ o (f k) → w1.heap[k]? = w.heap[k]?
  old : ∀ k, k < w.heap.size → f1 k = f k
theorem Mv.refl (B : Nat) (o : Nat → Prop) (f : Owner) (w : World) : Mv B o f w f w := ⟨Below.refl _ _, fun _ _ _ => rfl, fun _ _ => rfl⟩
theorem Mv.trans {B : Nat} {o : Nat → Prop} {f f1 f2 : Owner} {w w1 w2 : World} (h : Mv B o f w f1 w1) (k : Mv B o f1 w1 f2 w2) : Mv B o f w f2 w2 :=
  ⟨h.below.trans k.below, fun i hi ho => (k.keep i (Nat.lt_of_lt_of_le hi h.below.size) (by rw [h.old i hi]; exact ho)).trans (h.keep i hi ho), fun i hi => (k.old i (Nat.lt_of_lt_of_le hi h.below.size)).trans (h.old i hi)⟩
theorem Mv.mono {B : Nat} {o o' : Nat → Prop} {f f1 : Owner} {w w1 : World} (h : Mv B o f w f1 w1) (ho : ∀ i, o i → o' i) : Mv B o' f w f1 w1 := ⟨h.below, fun k hk hn => h.keep k hk (fun e => hn (ho _ e)), h.old⟩
theorem Mv.lower {B B' : Nat} {o : Nat → Prop} {f f1 : Owner} {w w1 : World} (h : Mv B o f w f1 w1) (hB : B' ≤ B) : Mv B' o f w f1 w1 := ⟨h.below.mono hB, h.keep, h.old⟩
/-- New memory alone: the new blocks may be whosever. -/
theorem Mv.of_below {B : Nat} {o : Nat → Prop} {f f1 : Owner} {w w1 : World} (h : Below w.heap.size w w1) (hB : B ≤ w.heap.size) (hf : ∀ k, k < w.heap.size → f1 k = f k) : Mv B o f w f1 w1 := ⟨h.mono hB, fun k hk _ => h.block k hk, hf⟩
theorem Mv.drewN {B : Nat} {o : Nat → Prop} {f f1 : Owner} {w w1 : World} (h : Mv B o f w f1 w1) (n : Nat) : Mv B o f w f1 (w1.drewN n) := ⟨pw_below_drewN h.below n, h.keep, h.old⟩
theorem Mv.set {B : Nat} {o : Nat → Prop} {f f1 : Owner} {w w1 : World} (h : Mv B o f w f1 w1) (p : Addr) (u : Value) (hB : B ≤ p.block) (hp : p.block < w.heap.size → o (f p.block)) : Mv B o f w f1 (w1.setCell p u) :=
  ⟨h.below.setCell hB u, fun k hk ho => by
    rw [Below.heap_setCell _ _ _ _ (fun e => ho (by rw [e]; exact hp (by rw [← e]; exact hk)))]
    exact h.keep k hk ho, h.old⟩
theorem Mv.alloc {B : Nat} {o : Nat → Prop} {f f1 : Owner} {w w1 : World} (h : Mv B o f w f1 w1) (hB : B ≤ w.heap.size) (x : Obj) : Mv B o f w f1 (w1.alloc x) :=
  ⟨h.below.alloc (Nat.le_trans hB h.below.size) x, fun k hk ho => (Below.heap_alloc w1 x k (Nat.lt_of_lt_of_le hk h.below.size)).trans (h.keep k hk ho), h.old⟩
/-- A row of some owner's has been written. -/
theorem Mv.grown {B : Nat} {o : Nat → Prop} {f f1 : Owner} {w w1 w2 : World} {row : Option Nat} (h : Mv B o f w f1 w1) (hB : B ≤ w.heap.size) (hg : w1.grownBy w2 row) (hr : ∀ k, row = some k → B ≤ k ∧ (k < w.heap.size → o (f k))) : Mv B o f w f1 w2 :=
  ⟨h.below.grown hg (Nat.le_trans hB h.below.size) (fun k hk => (hr k hk).1), fun k hk ho => by
    refine (hg.block k (Nat.lt_of_lt_of_le hk h.below.size) (fun e => ho ((hr k e.symm).2 hk))).trans (h.keep k hk ho), h.old⟩
/-- New blocks get this owner. -/
def owns (f : Owner) (n id : Nat) : Owner := fun k => if k < n then f k else id
theorem owns_old (f : Owner) (n id k : Nat) (h : k < n) : owns f n id k = f k := if_pos h
theorem owns_new (f : Owner) (n id k : Nat) (h : n ≤ k) : owns f n id k = id := if_neg (by omega)
theorem Mv.own {B : Nat} {o : Nat → Prop} {f f1 f2 : Owner} {w w1 : World} (h : Mv B o f w f1 w1) (hf : ∀ k, k < w.heap.size → f2 k = f1 k) : Mv B o f w f2 w1 := ⟨h.below, h.keep, fun k hk => (hf k hk).trans (h.old k hk)⟩
theorem Mv.blk {B : Nat} {o : Nat → Prop} {f f1 : Owner} {w w1 : World} (h : Mv B o f w f1 w1) {g : Nat} {x : Obj} (hb : w.heap[g]? = some x) (hn : ¬ o (f g)) : w1.heap[g]? = some x := (h.keep g (blk_lt hb) hn).trans hb
theorem Mv.own_at {B : Nat} {o : Nat → Prop} {f f1 : Owner} {w w1 : World} (h : Mv B o f w f1 w1) {g : Nat} {x : Obj} (hb : w.heap[g]? = some x) : f1 g = f g := h.old g (blk_lt hb)
/-- A row of another's stays. -/
theorem Mv.row {B b e : Nat} {o ok ok1 : Nat → Prop} {f f1 : Owner} {w w1 : World} {α : Type} {d : Kd α} {v : Value} {xs : List α} (h : Mv B o f w f1 w1) (hr : d.R e w b ok v xs) (hn : ∀ k, ok k → k < w.heap.size → ¬ o (f k)) (hk : ∀ k, ok k → k < w.heap.size → ok1 k) : d.R e w1 b ok1 v xs :=
  Kd.R_mono (Kd.R_step (Kd.R_mono (Kd.R_bound hr) (fun k hk => (⟨hk.1, hk.2.2.1⟩ : ok k ∧ k < w.heap.size))) (fun k hk _ => h.keep k hk.2 (hn k hk.1 hk.2))) (fun k hx => hk k hx.1 hx.2)
/-! ### The device in memory -/
structure DevG (B : Nat) (f : Owner) (w : World) (db : Nat) (d : Dv) (im imc : Nat) (vu vf vw : Value) : Prop where
  blk : w.heap[db]? = some (.cells #[.int .i64 d.p, .int .i64 d.s, .int .i64 d.r, .int .i64 d.a, .slice (some ⟨im, 0, none⟩) d.b.length imc, vu, vf, .int .i64 (d.c 0), .int .i64 (d.c 1), .int .i64 (d.c 2), .int .i64 (d.c 3), .int .i64 (d.c 4), .int .i64 d.failed, vw] 78 (0, 0))
  own : f db = db
  base : B ≤ db
  img : Im w im imc d.b
  imo : f im = db
  imb : B ≤ im
  un : (Kd.int .i64).R 3 w B (fun k => f k = db) vu d.un
  fl : k85.R 85 w B (fun k => f k = db) vf d.fl
  wr : (Kd.int .i64).R 3 w B (fun k => f k = db) vw d.wear
  ne : ∀ k, vu.ownBlock = some k → vw.ownBlock ≠ some k
section
variable {B : Nat} {f : Owner} {w : World} {db : Nat} {d : Dv} {im imc : Nat} {vu vf vw : Value}
theorem DevG.mv {B' : Nat} {o : Nat → Prop} {f1 : Owner} {w1 : World} (h : DevG B f w db d im imc vu vf vw) (m : Mv B' o f w f1 w1) (hn : ¬ o db) : DevG B f1 w1 db d im imc vu vf vw :=
  { blk := m.blk h.blk (by rw [h.own]; exact hn)
    own := (m.own_at h.blk).trans h.own
    base := h.base
    img := h.img.keep (m.keep im h.img.lt (by rw [h.imo]; exact hn))
    imo := (m.old im h.img.lt).trans h.imo
    imb := h.imb
    un := m.row h.un (fun k hk _ => by rw [hk]; exact hn) (fun k hk hl => (m.old k hl).trans hk)
    fl := m.row h.fl (fun k hk _ => by rw [hk]; exact hn) (fun k hk hl => (m.old k hl).trans hk)
    wr := m.row h.wr (fun k hk _ => by rw [hk]; exact hn) (fun k hk hl => (m.old k hl).trans hk)
    ne := h.ne }
theorem DevG.below {w1 : World} (h : DevG B f w db d im imc vu vf vw) (hb : Below w.heap.size w w1) : DevG B f w1 db d im imc vu vf vw :=
  h.mv (o := fun _ => False) (Mv.of_below (B := w.heap.size) hb (Nat.le_refl _) (fun _ _ => rfl)) (fun e => e)
theorem DevG.imdb (h : DevG B f w db d im imc vu vf vw) : im ≠ db := by
  rintro rfl
  obtain ⟨cs, h1, _⟩ := h.img
  exact blk_ne h1 h.blk (by decide) rfl
theorem DevG.at_ (h : DevG B f w db d im imc vu vf vw) (i : Nat) : w.cell? ⟨db, i, none⟩ = (#[Value.int .i64 d.p, .int .i64 d.s, .int .i64 d.r, .int .i64 d.a, .slice (some ⟨im, 0, none⟩) d.b.length imc, vu, vf, .int .i64 (d.c 0), .int .i64 (d.c 1), .int .i64 (d.c 2), .int .i64 (d.c 3), .int .i64 (d.c 4), .int .i64 d.failed, vw] : Array Value)[i]? := blk_cell h.blk i
theorem DevG.imrow (h : DevG B f w db d im imc vu vf vw) {e : Nat} {α : Type} {k : Kd α} {ok : Nat → Prop} {v : Value} {xs : List α} (hr : k.R e w B ok v xs) (he : ∀ q, q ∈ e :: k.E → q ≠ 5) : k.R e w B (fun q => ok q ∧ q ≠ im) v xs := by
  obtain ⟨cs, h1, _⟩ := h.img
  refine Kd.R_mono (Kd.R_bound hr) (fun q hq => ⟨hq.1, ?_⟩)
  rintro rfl
  obtain ⟨_, _, _, t, ht, cells, hc⟩ := hq
  exact blk_ne hc h1 (he t ht) rfl
/-- The struct's cells are written: the rows stay. -/
theorem DevG.put (h : DevG B f w db d im imc vu vf vw) (i : Nat) (v : Value) {cs' : Array Value} (hcs : (#[Value.int .i64 d.p, .int .i64 d.s, .int .i64 d.r, .int .i64 d.a, .slice (some ⟨im, 0, none⟩) d.b.length imc, vu, vf, .int .i64 (d.c 0), .int .i64 (d.c 1), .int .i64 (d.c 2), .int .i64 (d.c 3), .int .i64 (d.c 4), .int .i64 d.failed, vw] : Array Value).setIfInBounds i v = cs') :
    (w.setCell ⟨db, i, none⟩ v).heap[db]? = some (.cells cs' 78 (0, 0)) ∧ Im (w.setCell ⟨db, i, none⟩ v) im imc d.b ∧ (Kd.int .i64).R 3 (w.setCell ⟨db, i, none⟩ v) B (fun k => f k = db) vu d.un ∧ k85.R 85 (w.setCell ⟨db, i, none⟩ v) B (fun k => f k = db) vf d.fl ∧ (Kd.int .i64).R 3 (w.setCell ⟨db, i, none⟩ v) B (fun k => f k = db) vw d.wear ∧ Mv B (· = db) f w f (w.setCell ⟨db, i, none⟩ v) :=
  ⟨blk_put h.blk i v hcs, h.img.keep (Below.heap_setCell w ⟨db, i, none⟩ v im h.imdb), Kd.R_set h.un h.blk (by decide) i v, Kd.R_set h.fl h.blk (by decide) i v, Kd.R_set h.wr h.blk (by decide) i v, Mv.set (Mv.refl _ _ _ _) ⟨db, i, none⟩ _ h.base (fun _ => h.own)⟩
/-- A count is written. -/
theorem DevG.setC (h : DevG B f w db d im imc vu vf vw) (op : Nat) (ho : op ≤ 4) (v : Int) :
    DevG B f (w.setCell ⟨db, 7 + op, none⟩ (.int .i64 v)) db { d with c := updF d.c op v } im imc vu vf vw ∧ Mv B (· = db) f w f (w.setCell ⟨db, 7 + op, none⟩ (.int .i64 v)) := by
  obtain ⟨h1, h2, h3, h4, h5, h6⟩ := h.put (7 + op) (.int .i64 v) (cs' := #[Value.int .i64 d.p, .int .i64 d.s, .int .i64 d.r, .int .i64 d.a, .slice (some ⟨im, 0, none⟩) d.b.length imc, vu, vf, .int .i64 (updF d.c op v 0), .int .i64 (updF d.c op v 1), .int .i64 (updF d.c op v 2), .int .i64 (updF d.c op v 3), .int .i64 (updF d.c op v 4), .int .i64 d.failed, vw]) (by
    have : op = 0 ∨ op = 1 ∨ op = 2 ∨ op = 3 ∨ op = 4 := by omega
    rcases this with rfl | rfl | rfl | rfl | rfl <;> rfl)
  exact ⟨⟨h1, h.own, h.base, h2, h.imo, h.imb, h3, h4, h5, h.ne⟩, h6⟩
theorem DevG.setFailed (h : DevG B f w db d im imc vu vf vw) (v : Int) :
    DevG B f (w.setCell ⟨db, 12, none⟩ (.int .i64 v)) db { d with failed := v } im imc vu vf vw ∧ Mv B (· = db) f w f (w.setCell ⟨db, 12, none⟩ (.int .i64 v)) := by
  obtain ⟨h1, h2, h3, h4, h5, h6⟩ := h.put 12 (.int .i64 v) rfl
  exact ⟨⟨h1, h.own, h.base, h2, h.imo, h.imb, h3, h4, h5, h.ne⟩, h6⟩
/-- The image is written. -/
theorem DevG.setImg (h : DevG B f w db d im imc vu vf vw) {w' : World} {b' : List Int} (hl : b'.length = d.b.length) (hi : Im w' im imc b') (hg : w.grownBy w' (some im)) :
    DevG B f w' db { d with b := b' } im imc vu vf vw ∧ Mv B (· = db) f w f w' := by
  have hlt := blk_lt h.blk
  have m : Mv B (· = db) f w f w' := Mv.grown (Mv.refl _ _ _ _) (Nat.le_trans h.base (Nat.le_of_lt hlt)) hg (fun k hk => by injection hk with hk; subst hk; exact ⟨h.imb, fun _ => h.imo⟩)
  have row : ∀ {e : Nat} {α : Type} {k : Kd α} {v : Value} {xs : List α}, k.R e w B (fun q => f q = db) v xs → (∀ q, q ∈ e :: k.E → q ≠ 5) → k.R e w' B (fun q => f q = db) v xs := fun hr he =>
    Kd.R_mono (Kd.R_grown (h.imrow hr he) hg (fun q hq e2 => hq.2 (by injection e2))) (fun q hq => hq.1)
  refine ⟨⟨?_, h.own, h.base, hi, h.imo, h.imb, row h.un (by decide), row h.fl (by decide), row h.wr (by decide), h.ne⟩, m⟩
  rw [show ({ d with b := b' } : Dv).b.length = d.b.length from hl]
  exact blk_grown h.blk hg (fun e => h.imdb (by injection e with e; exact e.symm))
end
/-! ### What the device is asked -/
theorem wN {n : Nat} (h : n ≤ 4611686018427387904) : wrap64 (n : Int) = (n : Int) := by unfold wrap64; omega
theorem run_cut {W : World} {g len cap lo hi n : Nat} (h : lo + n = hi) (h1 : hi ≤ cap) (h2 : lo < cap) : (Instr.slice 24 (.slice (some ⟨g, 0, none⟩) len cap) (some (.int .i64 (lo : Int))) (some (.int .i64 (hi : Int))) none).run Try.prog W = .ok (.slice (some ⟨g, lo, none⟩) n (cap - lo)) W := by
  have hz : ∀ w, (Go.sizeOf 5).run Try.prog w = .ok 1 w := fun w => by kernel_rfl
  have ht' : Try.prog.underlying 24 = some (.slice (Try.prog.elem 24)) := by simp [Program.elem, Try.underlying24]
  have he : Try.prog.elem 24 = 5 := by simp [Program.elem, Try.underlying24]
  rw [run_slice_lh W 24 _ _ _ ht' .i64 .i64 _ _ (by omega) (by omega) (by omega), he, hz]
  have e1 : hi - lo = n := by omega
  have e2 : ¬ cap = lo := by omega
  by_cases h0 : lo = 0
  · subst h0; simp [Result.andThen, sliced, Addr.add, e2]; omega
  · simp [Result.andThen, sliced, Addr.add, h0, e2, e1]
def Told (w : World) (v : Value) (en : Ending) (w' : World) : Prop := en = .returned v ∧ Drawn0 w w'
section
variable {B : Nat} {f : Owner} {w : World} {db : Nat} {d : Dv} {im imc : Nat} {vu vf vw : Value}
theorem made_walk (h : DevG B f w db d im imc vu vf vw) (h0 : 0 < d.b.length) : Calls Try.prog 39 #[.pointer (some ⟨db, 0, none⟩)] w (fun e w' => e = .returned (.bool true) ∧ w = w') := by
  have c4 : w.cell? ⟨db, 4, none⟩ = some (.slice (some ⟨im, 0, none⟩) d.b.length imc) := h.at_ 4
  obtain ⟨n, hn⟩ : ∃ n, d.b.length = n := ⟨_, rfl⟩
  rw [hn] at c4 h0
  have i1 : decide ((0 : Int) < (n : Int)) = true := decide_eq_true (by omega)
  clear h hn
  go_enter Try.func39, Try.ntmps39
  go_wp2
  go_ret
  exact ⟨rfl, rfl⟩
/-- The numbers of a page. -/
theorem page_nums (h : d.Ok) (n : Nat) (hn : n < d.pages) : n * d.p + d.p = (n + 1) * d.p ∧ (n + 1) * d.p ≤ d.b.length ∧ d.b.length ≤ 1048576 ∧ 0 < d.p ∧ n < 65536 := by
  have h1 := h.len
  have h2 := h.sz
  have h3 := h.p1
  have e : d.p * d.s * d.r = d.pages * d.p := by unfold Dv.pages; rw [Nat.mul_comm d.p d.s, Nat.mul_right_comm]
  have h4 : (n + 1) * d.p ≤ d.pages * d.p := Nat.mul_le_mul_right _ hn
  have h5 : d.pages * 16 ≤ d.pages * d.p := Nat.mul_le_mul_left _ h3
  exact ⟨by rw [Nat.add_mul, Nat.one_mul], by omega, by omega, by omega, by omega⟩
set_option maxHeartbeats 1000000 in
set_option maxRecDepth 100000 in
theorem page_walk (h : DevG B f w db d im imc vu vf vw) (ok : d.Ok) (n : Nat) (hn : n < d.pages) : Calls Try.prog 46 #[.pointer (some ⟨db, 0, none⟩), .int .i64 (n : Int)] w (Told w (.slice (some ⟨im, n * d.p, none⟩) d.p (imc - n * d.p))) := by
  obtain ⟨q1, q2, q3, q4, q5⟩ := page_nums ok n hn
  have hcap : d.b.length ≤ imc := by obtain ⟨cs, _, h2, _, _⟩ := h.img; exact h2
  have c0 : w.cell? ⟨db, 0, none⟩ = some (.int .i64 d.p) := h.at_ 0
  have c4 : w.cell? ⟨db, 4, none⟩ = some (.slice (some ⟨im, 0, none⟩) d.b.length imc) := h.at_ 4
  obtain ⟨p, hp⟩ : ∃ p, d.p = p := ⟨_, rfl⟩
  obtain ⟨bl, hbl⟩ : ∃ bl, d.b.length = bl := ⟨_, rfl⟩
  rw [hp] at q1 q2 q4 c0
  rw [hbl] at q2 q3 c4 hcap
  rw [hp]
  obtain ⟨lo, hlo⟩ : ∃ lo, n * p = lo := ⟨_, rfl⟩
  obtain ⟨hi, hhi⟩ : ∃ hi, (n + 1) * p = hi := ⟨_, rfl⟩
  obtain ⟨n1, hn1⟩ : ∃ n1, n + 1 = n1 := ⟨_, rfl⟩
  rw [hlo] at q1
  rw [hhi] at q1 q2
  rw [hlo]
  have l1 : lo ≤ 4611686018427387904 := by omega
  have l2 : hi ≤ 4611686018427387904 := by omega
  have l3 : n1 ≤ 4611686018427387904 := by omega
  have e1 : wrap64 ((n : Int) * (p : Int)) = (lo : Int) := by rw [← Int.natCast_mul, hlo]; exact wN l1
  have e2 : wrap64 ((n : Int) + 1) = (n1 : Int) := by rw [← hn1]; exact wN (n := n + 1) (by rw [hn1]; exact l3)
  have e3 : wrap64 ((n1 : Int) * (p : Int)) = (hi : Int) := by rw [← Int.natCast_mul, ← hn1, hhi]; exact wN l2
  clear l1 l2 l3
  have e4 : ∀ W, (Instr.slice 24 (.slice (some ⟨im, 0, none⟩) bl imc) (some (.int .i64 (lo : Int))) (some (.int .i64 (hi : Int))) none).run Try.prog W = .ok (.slice (some ⟨im, lo, none⟩) p (imc - lo)) W := fun W => run_cut q1 (Nat.le_trans q2 hcap) (Nat.lt_of_lt_of_le (by rw [← q1]; exact Nat.lt_add_of_pos_right q4) (Nat.le_trans q2 hcap))
  clear h ok hn hcap hp hbl hlo hhi hn1 q1 q2 q3 q4 q5
  go_enter Try.func46, Try.ntmps46
  go_upto_region 1 with (fail)
  refine start_ (n := 21) (S := fun w' => w'.cell? ⟨db, 0, none⟩ = some (.int .i64 (p : Int)) ∧ w'.cell? ⟨db, 4, none⟩ = some (.slice (some ⟨im, 0, none⟩) bl imc)) (ds := []) #[F,F,F,F,F,F,F,F,F,F,F,F,F,F,F,F,F,F,F,F,F] (by kernel_rfl) rfl rfl (⟨c0, c4⟩) (fun hHeld => ?_)
  refine pure_ (i := 0) (N := some 5) (v := ?_) (a' := ?_) #[T,F,F,F,F,F,F,F,F,F,F,F,F,F,F,F,F,F,F,F,F] rfl rfl (by kernel_rfl) (fun _ _ _ h => h) (Or.inl ⟨by rfl, ?_⟩) ?_ ?_
  rotate_left
  · intro w'
    go_simp
    with_reducible rfl
  rotate_left
  · simp only [Act.put, sA, s0_, sS, i64_w, i32_w]
    rfl
  refine pure_ (i := 1) (N := some 6) (v := ?_) (a' := ?_) #[T,T,F,F,F,F,F,F,F,F,F,F,F,F,F,F,F,F,F,F,F] rfl rfl (by kernel_rfl) (fun _ _ _ h => h) (Or.inl ⟨by rfl, ?_⟩) ?_ ?_
  rotate_left
  · intro w'
    go_simp
    with_reducible rfl
  rotate_left
  · simp only [Act.put, sA, s0_, sS, i64_w, i32_w]
    rfl
  refine pure_ (i := 2) (N := some 7) (v := ?_) (a' := ?_) #[T,T,T,F,F,F,F,F,F,F,F,F,F,F,F,F,F,F,F,F,F] rfl rfl (by kernel_rfl) (fun _ _ _ h => h) (Or.inl ⟨by rfl, ?_⟩) ?_ ?_
  rotate_left
  · intro w'
    go_simp
    with_reducible rfl
  rotate_left
  · simp only [Act.put, sA, s0_, sS, i64_w, i32_w]
    rfl
  refine take_ (i := 3) (N := some 8) (v := ?_) (a' := ?_) #[T,T,T,T,F,F,F,F,F,F,F,F,F,F,F,F,F,F,F,F,F] rfl rfl (by kernel_rfl) (fun _ _ _ h => h) (Or.inl ⟨by rfl, ?_⟩) hHeld ?_ ?_
  rotate_left
  · intro w' s0
    obtain ⟨s1, s2⟩ := s0
    go_simp
    with_reducible rfl
  rotate_left
  · simp only [Act.put, sA, s0_, sS, i64_w, i32_w]
    rfl
  refine pure_ (i := 4) (N := some 9) (v := ?_) (a' := ?_) #[T,T,T,T,T,F,F,F,F,F,F,F,F,F,F,F,F,F,F,F,F] rfl rfl (by kernel_rfl) (fun _ _ _ h => h) (Or.inl ⟨by rfl, ?_⟩) ?_ ?_
  rotate_left
  · intro w'
    go_simp
    with_reducible rfl
  rotate_left
  · simp only [Act.put, sA, s0_, sS, i64_w, i32_w]
    rfl
  refine pure_ (i := 5) (N := some 10) (v := ?_) (a' := ?_) #[T,T,T,T,T,T,F,F,F,F,F,F,F,F,F,F,F,F,F,F,F] rfl rfl (by kernel_rfl) (fun _ _ _ h => h) (Or.inl ⟨by rfl, ?_⟩) ?_ ?_
  rotate_left
  · intro w'
    go_simp
    with_reducible rfl
  rotate_left
  · simp only [Act.put, sA, s0_, sS, i64_w, i32_w]
    rfl
  refine pure_ (i := 6) (N := some 11) (v := ?_) (a' := ?_) #[T,T,T,T,T,T,T,F,F,F,F,F,F,F,F,F,F,F,F,F,F] rfl rfl (by kernel_rfl) (fun _ _ _ h => h) (Or.inl ⟨by rfl, ?_⟩) ?_ ?_
  rotate_left
  · intro w'
    go_simp
    with_reducible rfl
  rotate_left
  · simp only [Act.put, sA, s0_, sS, i64_w, i32_w]
    rfl
  refine pure_ (i := 7) (N := some 12) (v := ?_) (a' := ?_) #[T,T,T,T,T,T,T,T,F,F,F,F,F,F,F,F,F,F,F,F,F] rfl rfl (by kernel_rfl) (fun _ _ _ h => h) (Or.inl ⟨by rfl, ?_⟩) ?_ ?_
  rotate_left
  · intro w'
    go_simp
    with_reducible rfl
  rotate_left
  · simp only [Act.put, sA, s0_, sS, i64_w, i32_w]
    rfl
  refine pure_ (i := 8) (N := some 13) (v := ?_) (a' := ?_) #[T,T,T,T,T,T,T,T,T,F,F,F,F,F,F,F,F,F,F,F,F] rfl rfl (by kernel_rfl) (fun _ _ _ h => h) (Or.inl ⟨by rfl, ?_⟩) ?_ ?_
  rotate_left
  · intro w'
    go_simp
    with_reducible rfl
  rotate_left
  · simp only [Act.put, sA, s0_, sS, i64_w, i32_w]
    rfl
  refine take_ (i := 9) (N := some 14) (v := ?_) (a' := ?_) #[T,T,T,T,T,T,T,T,T,T,F,F,F,F,F,F,F,F,F,F,F] rfl rfl (by kernel_rfl) (fun _ _ _ h => h) (Or.inl ⟨by rfl, ?_⟩) hHeld ?_ ?_
  rotate_left
  · intro w' s0
    obtain ⟨s1, s2⟩ := s0
    go_simp
    with_reducible rfl
  rotate_left
  · simp only [Act.put, sA, s0_, sS, i64_w, i32_w]
    rfl
  refine pure_ (i := 10) (N := some 15) (v := ?_) (a' := ?_) #[T,T,T,T,T,T,T,T,T,T,T,F,F,F,F,F,F,F,F,F,F] rfl rfl (by kernel_rfl) (fun _ _ _ h => h) (Or.inl ⟨by rfl, ?_⟩) ?_ ?_
  rotate_left
  · intro w'
    go_simp
    with_reducible rfl
  rotate_left
  · simp only [Act.put, sA, s0_, sS, i64_w, i32_w]
    rfl
  refine pure_ (i := 11) (N := some 16) (v := ?_) (a' := ?_) #[T,T,T,T,T,T,T,T,T,T,T,T,F,F,F,F,F,F,F,F,F] rfl rfl (by kernel_rfl) (fun _ _ _ h => h) (Or.inl ⟨by rfl, ?_⟩) ?_ ?_
  rotate_left
  · intro w'
    go_simp
    with_reducible rfl
  rotate_left
  · simp only [Act.put, sA, s0_, sS, i64_w, i32_w]
    rfl
  refine pure_ (i := 12) (N := some 17) (v := ?_) (a' := ?_) #[T,T,T,T,T,T,T,T,T,T,T,T,T,F,F,F,F,F,F,F,F] rfl rfl (by kernel_rfl) (fun _ _ _ h => h) (Or.inl ⟨by rfl, ?_⟩) ?_ ?_
  rotate_left
  · intro w'
    go_simp
    with_reducible rfl
  rotate_left
  · simp only [Act.put, sA, s0_, sS, i64_w, i32_w]
    rfl
  refine pure_ (i := 13) (N := some 18) (v := ?_) (a' := ?_) #[T,T,T,T,T,T,T,T,T,T,T,T,T,T,F,F,F,F,F,F,F] rfl rfl (by kernel_rfl) (fun _ _ _ h => h) (Or.inl ⟨by rfl, ?_⟩) ?_ ?_
  rotate_left
  · intro w'
    go_simp
    with_reducible rfl
  rotate_left
  · simp only [Act.put, sA, s0_, sS, i64_w, i32_w]
    rfl
  refine pure_ (i := 14) (N := some 19) (v := ?_) (a' := ?_) #[T,T,T,T,T,T,T,T,T,T,T,T,T,T,T,F,F,F,F,F,F] rfl rfl (by kernel_rfl) (fun _ _ _ h => h) (Or.inl ⟨by rfl, ?_⟩) ?_ ?_
  rotate_left
  · intro w'
    go_simp
    with_reducible rfl
  rotate_left
  · simp only [Act.put, sA, s0_, sS, i64_w, i32_w]
    rfl
  refine pure_ (i := 15) (N := some 20) (v := ?_) (a' := ?_) #[T,T,T,T,T,T,T,T,T,T,T,T,T,T,T,T,F,F,F,F,F] rfl rfl (by kernel_rfl) (fun _ _ _ h => h) (Or.inl ⟨by rfl, ?_⟩) ?_ ?_
  rotate_left
  · intro w'
    go_simp
    with_reducible rfl
  rotate_left
  · simp only [Act.put, sA, s0_, sS, i64_w, i32_w]
    rfl
  refine pure_ (i := 16) (N := some 21) (v := ?_) (a' := ?_) #[T,T,T,T,T,T,T,T,T,T,T,T,T,T,T,T,T,F,F,F,F] rfl rfl (by kernel_rfl) (fun _ _ _ h => h) (Or.inl ⟨by rfl, ?_⟩) ?_ ?_
  rotate_left
  · intro w'
    go_simp
    with_reducible rfl
  rotate_left
  · simp only [Act.put, sA, s0_, sS, i64_w, i32_w]
    rfl
  refine take_ (i := 17) (N := some 22) (v := ?_) (a' := ?_) #[T,T,T,T,T,T,T,T,T,T,T,T,T,T,T,T,T,T,F,F,F] rfl rfl (by kernel_rfl) (fun _ _ _ h => h) (Or.inl ⟨by rfl, ?_⟩) hHeld ?_ ?_
  rotate_left
  · intro w' s0
    obtain ⟨s1, s2⟩ := s0
    go_simp
    with_reducible rfl
  rotate_left
  · simp only [Act.put, sA, s0_, sS, i64_w, i32_w]
    rfl
  refine pure_ (i := 18) (N := some 23) (v := ?_) (a' := ?_) #[T,T,T,T,T,T,T,T,T,T,T,T,T,T,T,T,T,T,T,F,F] rfl rfl (by kernel_rfl) (fun _ _ _ h => h) (Or.inl ⟨by rfl, ?_⟩) ?_ ?_
  rotate_left
  · intro w'
    go_simp
    with_reducible rfl
  rotate_left
  · simp only [Act.put, sA, s0_, sS, i64_w, i32_w]
    rfl
  refine pure_ (i := 19) (N := some 24) (v := ?_) (a' := ?_) #[T,T,T,T,T,T,T,T,T,T,T,T,T,T,T,T,T,T,T,T,F] rfl rfl (by kernel_rfl) (fun _ _ _ h => h) (Or.inl ⟨by rfl, ?_⟩) ?_ ?_
  rotate_left
  · intro w'
    go_simp
    with_reducible rfl
  rotate_left
  · simp only [Act.put, sA, s0_, sS, i64_w, i32_w]
    rfl
  refine pure_ (i := 20) (N := some 4) (v := ?_) (a' := ?_) #[T,T,T,T,T,T,T,T,T,T,T,T,T,T,T,T,T,T,T,T,T] rfl rfl (by kernel_rfl) (fun _ _ _ h => h) (Or.inl ⟨by rfl, ?_⟩) ?_ ?_
  rotate_left
  · intro w'
    go_simp
    with_reducible rfl
  rotate_left
  · simp only [Act.put, sA, s0_, sS, i64_w, i32_w]
    rfl
  refine done_ (by kernel_rfl) ?_
  go_wp2
  go_ret
  exact ⟨rfl, ⟨1, rfl⟩⟩
set_option maxHeartbeats 1000000 in
set_option maxRecDepth 100000 in
theorem isPage_walk (h : DevG B f w db d im imc vu vf vw) (ok : d.Ok) (n : Int) : Calls Try.prog 47 #[.pointer (some ⟨db, 0, none⟩), .int .i64 n] w (Told w (.bool (decide (0 ≤ n) && decide (n < (d.pages : Int))))) := by
  have c1 : w.cell? ⟨db, 1, none⟩ = some (.int .i64 d.s) := h.at_ 1
  have c2 : w.cell? ⟨db, 2, none⟩ = some (.int .i64 d.r) := h.at_ 2
  have q1 : d.pages ≤ 65536 := by
    unfold Dv.pages
    have h1 : d.s * d.r ≤ 64 * 256 := Nat.mul_le_mul ok.s2 ok.r2
    exact Nat.le_trans h1 (by decide)
  obtain ⟨pg, hpg⟩ : ∃ pg, d.pages = pg := ⟨_, rfl⟩
  rw [hpg] at q1
  rw [hpg]
  unfold Dv.pages at hpg
  obtain ⟨s, hs⟩ : ∃ s, d.s = s := ⟨_, rfl⟩
  obtain ⟨r, hr⟩ : ∃ r, d.r = r := ⟨_, rfl⟩
  rw [hs] at c1 hpg
  rw [hr] at c2 hpg
  have e1 : wrap64 ((s : Int) * (r : Int)) = (pg : Int) := by rw [← Int.natCast_mul, hpg]; exact wN (Nat.le_trans q1 (by decide))
  clear h ok q1 hpg hs hr
  by_cases h0 : 0 ≤ n
  · have g0 : decide (0 ≤ n) = true := decide_eq_true h0
    rw [g0, Bool.true_and]
    obtain ⟨b, hb⟩ : ∃ b, decide (n < (pg : Int)) = b := ⟨_, rfl⟩
    rw [hb]
    clear h0
    go_enter Try.func47, Try.ntmps47
    go_upto_region 1 with (fail)
    refine start_ (n := 18) (S := fun w' => w'.cell? ⟨db, 1, none⟩ = some (.int .i64 (s : Int)) ∧ w'.cell? ⟨db, 2, none⟩ = some (.int .i64 (r : Int))) (ds := []) #[F,F,F,F,F,F,F,F,F,F,F,F,F,F,F,F,F,F] (by kernel_rfl) rfl rfl (⟨c1, c2⟩) (fun hHeld => ?_)
    refine pure_ (i := 0) (N := some 5) (v := ?_) (a' := ?_) #[T,F,F,F,F,F,F,F,F,F,F,F,F,F,F,F,F,F] rfl rfl (by kernel_rfl) (fun _ _ _ h => h) (Or.inl ⟨by rfl, ?_⟩) ?_ ?_
    rotate_left
    · intro w'
      go_simp
      with_reducible rfl
    rotate_left
    · simp only [Act.put, sA, s0_, sS, i64_w, i32_w]
      rfl
    refine pure_ (i := 1) (N := some 6) (v := ?_) (a' := ?_) #[T,T,F,F,F,F,F,F,F,F,F,F,F,F,F,F,F,F] rfl rfl (by kernel_rfl) (fun _ _ _ h => h) (Or.inl ⟨by rfl, ?_⟩) ?_ ?_
    rotate_left
    · intro w'
      go_simp
      with_reducible rfl
    rotate_left
    · simp only [Act.put, sA, s0_, sS, i64_w, i32_w]
      rfl
    refine pure_ (i := 2) (N := some 7) (v := ?_) (a' := ?_) #[T,T,T,F,F,F,F,F,F,F,F,F,F,F,F,F,F,F] rfl rfl (by kernel_rfl) (fun _ _ _ h => h) (Or.inl ⟨by rfl, ?_⟩) ?_ ?_
    rotate_left
    · intro w'
      go_simp
      with_reducible rfl
    rotate_left
    · simp only [Act.put, sA, s0_, sS, i64_w, i32_w]
      rfl
    refine pure_ (i := 3) (N := some 8) (v := ?_) (a' := ?_) #[T,T,T,T,F,F,F,F,F,F,F,F,F,F,F,F,F,F] rfl rfl (by kernel_rfl) (fun _ _ _ h => h) (Or.inl ⟨by rfl, ?_⟩) ?_ ?_
    rotate_left
    · intro w'
      go_simp
      with_reducible rfl
    rotate_left
    · simp only [Act.put, sA, s0_, sS, i64_w, i32_w]
      rfl
    refine pure_ (i := 4) (N := some 9) (v := ?_) (a' := ?_) #[T,T,T,T,T,F,F,F,F,F,F,F,F,F,F,F,F,F] rfl rfl (by kernel_rfl) (fun _ _ _ h => h) (Or.inl ⟨by rfl, ?_⟩) ?_ ?_
    rotate_left
    · intro w'
      go_simp
      with_reducible rfl
    rotate_left
    · simp only [Act.put, sA, s0_, sS, i64_w, i32_w]
      rfl
    refine pure_ (i := 5) (N := some 10) (v := ?_) (a' := ?_) #[T,T,T,T,T,T,F,F,F,F,F,F,F,F,F,F,F,F] rfl rfl (by kernel_rfl) (fun _ _ _ h => h) (Or.inl ⟨by rfl, ?_⟩) ?_ ?_
    rotate_left
    · intro w'
      go_simp
      with_reducible rfl
    rotate_left
    · simp only [Act.put, sA, s0_, sS, i64_w, i32_w]
      rfl
    refine pure_ (i := 6) (N := some 11) (v := ?_) (a' := ?_) #[T,T,T,T,T,T,T,F,F,F,F,F,F,F,F,F,F,F] rfl rfl (by kernel_rfl) (fun _ _ _ h => h) (Or.inl ⟨by rfl, ?_⟩) ?_ ?_
    rotate_left
    · intro w'
      go_simp
      with_reducible rfl
    rotate_left
    · simp only [Act.put, sA, s0_, sS, i64_w, i32_w]
      rfl
    refine pure_ (i := 7) (N := some 12) (v := ?_) (a' := ?_) #[T,T,T,T,T,T,T,T,F,F,F,F,F,F,F,F,F,F] rfl rfl (by kernel_rfl) (fun _ _ _ h => h) (Or.inl ⟨by rfl, ?_⟩) ?_ ?_
    rotate_left
    · intro w'
      go_simp
      with_reducible rfl
    rotate_left
    · simp only [Act.put, sA, s0_, sS, i64_w, i32_w]
      rfl
    refine take_ (i := 8) (N := some 13) (v := ?_) (a' := ?_) #[T,T,T,T,T,T,T,T,T,F,F,F,F,F,F,F,F,F] rfl rfl (by kernel_rfl) (fun _ _ _ h => h) (Or.inl ⟨by rfl, ?_⟩) hHeld ?_ ?_
    rotate_left
    · intro w' s0
      obtain ⟨s1, s2⟩ := s0
      go_simp
      with_reducible rfl
    rotate_left
    · simp only [Act.put, sA, s0_, sS, i64_w, i32_w]
      rfl
    refine pure_ (i := 9) (N := some 14) (v := ?_) (a' := ?_) #[T,T,T,T,T,T,T,T,T,T,F,F,F,F,F,F,F,F] rfl rfl (by kernel_rfl) (fun _ _ _ h => h) (Or.inl ⟨by rfl, ?_⟩) ?_ ?_
    rotate_left
    · intro w'
      go_simp
      with_reducible rfl
    rotate_left
    · simp only [Act.put, sA, s0_, sS, i64_w, i32_w]
      rfl
    refine pure_ (i := 10) (N := some 15) (v := ?_) (a' := ?_) #[T,T,T,T,T,T,T,T,T,T,T,F,F,F,F,F,F,F] rfl rfl (by kernel_rfl) (fun _ _ _ h => h) (Or.inl ⟨by rfl, ?_⟩) ?_ ?_
    rotate_left
    · intro w'
      go_simp
      with_reducible rfl
    rotate_left
    · simp only [Act.put, sA, s0_, sS, i64_w, i32_w]
      rfl
    refine pure_ (i := 11) (N := some 16) (v := ?_) (a' := ?_) #[T,T,T,T,T,T,T,T,T,T,T,T,F,F,F,F,F,F] rfl rfl (by kernel_rfl) (fun _ _ _ h => h) (Or.inl ⟨by rfl, ?_⟩) ?_ ?_
    rotate_left
    · intro w'
      go_simp
      with_reducible rfl
    rotate_left
    · simp only [Act.put, sA, s0_, sS, i64_w, i32_w]
      rfl
    refine pure_ (i := 12) (N := some 17) (v := ?_) (a' := ?_) #[T,T,T,T,T,T,T,T,T,T,T,T,T,F,F,F,F,F] rfl rfl (by kernel_rfl) (fun _ _ _ h => h) (Or.inl ⟨by rfl, ?_⟩) ?_ ?_
    rotate_left
    · intro w'
      go_simp
      with_reducible rfl
    rotate_left
    · simp only [Act.put, sA, s0_, sS, i64_w, i32_w]
      rfl
    refine take_ (i := 13) (N := some 18) (v := ?_) (a' := ?_) #[T,T,T,T,T,T,T,T,T,T,T,T,T,T,F,F,F,F] rfl rfl (by kernel_rfl) (fun _ _ _ h => h) (Or.inl ⟨by rfl, ?_⟩) hHeld ?_ ?_
    rotate_left
    · intro w' s0
      obtain ⟨s1, s2⟩ := s0
      go_simp
      with_reducible rfl
    rotate_left
    · simp only [Act.put, sA, s0_, sS, i64_w, i32_w]
      rfl
    refine pure_ (i := 14) (N := some 19) (v := ?_) (a' := ?_) #[T,T,T,T,T,T,T,T,T,T,T,T,T,T,T,F,F,F] rfl rfl (by kernel_rfl) (fun _ _ _ h => h) (Or.inl ⟨by rfl, ?_⟩) ?_ ?_
    rotate_left
    · intro w'
      go_simp
      with_reducible rfl
    rotate_left
    · simp only [Act.put, sA, s0_, sS, i64_w, i32_w]
      rfl
    refine pure_ (i := 15) (N := some 20) (v := ?_) (a' := ?_) #[T,T,T,T,T,T,T,T,T,T,T,T,T,T,T,T,F,F] rfl rfl (by kernel_rfl) (fun _ _ _ h => h) (Or.inl ⟨by rfl, ?_⟩) ?_ ?_
    rotate_left
    · intro w'
      go_simp
      with_reducible rfl
    rotate_left
    · simp only [Act.put, sA, s0_, sS, i64_w, i32_w]
      rfl
    refine pure_ (i := 16) (N := some 21) (v := ?_) (a' := ?_) #[T,T,T,T,T,T,T,T,T,T,T,T,T,T,T,T,T,F] rfl rfl (by kernel_rfl) (fun _ _ _ h => h) (Or.inl ⟨by rfl, ?_⟩) ?_ ?_
    rotate_left
    · intro w'
      go_simp
      with_reducible rfl
    rotate_left
    · simp only [Act.put, sA, s0_, sS, i64_w, i32_w]
      rfl
    refine pure_ (i := 17) (N := some 4) (v := ?_) (a' := ?_) #[T,T,T,T,T,T,T,T,T,T,T,T,T,T,T,T,T,T] rfl rfl (by kernel_rfl) (fun _ _ _ h => h) (Or.inl ⟨by rfl, ?_⟩) ?_ ?_
    rotate_left
    · intro w'
      go_simp
      with_reducible rfl
    rotate_left
    · simp only [Act.put, sA, s0_, sS, i64_w, i32_w]
      rfl
    refine done_ (by kernel_rfl) ?_
    go_wp2
    go_ret
    exact ⟨rfl, ⟨1, rfl⟩⟩
  · have g0 : decide (0 ≤ n) = false := decide_eq_false h0
    rw [g0, Bool.false_and]
    clear h0 e1
    go_enter Try.func47, Try.ntmps47
    go_upto_region 1 with (fail)
    refine start_ (n := 18) (S := fun w' => w'.cell? ⟨db, 1, none⟩ = some (.int .i64 (s : Int)) ∧ w'.cell? ⟨db, 2, none⟩ = some (.int .i64 (r : Int))) (ds := []) #[F,F,F,F,F,F,F,F,F,F,F,F,F,F,F,F,F,F] (by kernel_rfl) rfl rfl (⟨c1, c2⟩) (fun hHeld => ?_)
    refine pure_ (i := 0) (N := some 5) (v := ?_) (a' := ?_) #[T,F,F,F,F,F,F,F,F,F,F,F,F,F,F,F,F,F] rfl rfl (by kernel_rfl) (fun _ _ _ h => h) (Or.inl ⟨by rfl, ?_⟩) ?_ ?_
    rotate_left
    · intro w'
      go_simp
      with_reducible rfl
    rotate_left
    · simp only [Act.put, sA, s0_, sS, i64_w, i32_w]
      rfl
    refine pure_ (i := 1) (N := some 6) (v := ?_) (a' := ?_) #[T,T,F,F,F,F,F,F,F,F,F,F,F,F,F,F,F,F] rfl rfl (by kernel_rfl) (fun _ _ _ h => h) (Or.inl ⟨by rfl, ?_⟩) ?_ ?_
    rotate_left
    · intro w'
      go_simp
      with_reducible rfl
    rotate_left
    · simp only [Act.put, sA, s0_, sS, i64_w, i32_w]
      rfl
    refine pure_ (i := 2) (N := some 7) (v := ?_) (a' := ?_) #[T,T,T,F,F,F,F,F,F,F,F,F,F,F,F,F,F,F] rfl rfl (by kernel_rfl) (fun _ _ _ h => h) (Or.inl ⟨by rfl, ?_⟩) ?_ ?_
    rotate_left
    · intro w'
      go_simp
      with_reducible rfl
    rotate_left
    · simp only [Act.put, sA, s0_, sS, i64_w, i32_w]
      rfl
    refine pure_ (i := 3) (N := some 8) (v := undef) (a' := ?_) #[T,T,T,T,F,F,F,F,F,F,F,F,F,F,F,F,F,F] rfl rfl (by kernel_rfl) (fun _ _ _ h => h) (Or.inr ⟨by rfl, rfl⟩) ?_ ?_
    rotate_left
    · simp only [Act.put, sA, s0_, sS, i64_w, i32_w]
      rfl
    refine pure_ (i := 4) (N := some 9) (v := undef) (a' := ?_) #[T,T,T,T,T,F,F,F,F,F,F,F,F,F,F,F,F,F] rfl rfl (by kernel_rfl) (fun _ _ _ h => h) (Or.inr ⟨by rfl, rfl⟩) ?_ ?_
    rotate_left
    · simp only [Act.put, sA, s0_, sS, i64_w, i32_w]
      rfl
    refine pure_ (i := 5) (N := some 10) (v := undef) (a' := ?_) #[T,T,T,T,T,T,F,F,F,F,F,F,F,F,F,F,F,F] rfl rfl (by kernel_rfl) (fun _ _ _ h => h) (Or.inr ⟨by rfl, rfl⟩) ?_ ?_
    rotate_left
    · simp only [Act.put, sA, s0_, sS, i64_w, i32_w]
      rfl
    refine pure_ (i := 6) (N := some 11) (v := undef) (a' := ?_) #[T,T,T,T,T,T,T,F,F,F,F,F,F,F,F,F,F,F] rfl rfl (by kernel_rfl) (fun _ _ _ h => h) (Or.inr ⟨by rfl, rfl⟩) ?_ ?_
    rotate_left
    · simp only [Act.put, sA, s0_, sS, i64_w, i32_w]
      rfl
    refine pure_ (i := 7) (N := some 12) (v := undef) (a' := ?_) #[T,T,T,T,T,T,T,T,F,F,F,F,F,F,F,F,F,F] rfl rfl (by kernel_rfl) (fun _ _ _ h => h) (Or.inr ⟨by rfl, rfl⟩) ?_ ?_
    rotate_left
    · simp only [Act.put, sA, s0_, sS, i64_w, i32_w]
      rfl
    refine pure_ (i := 8) (N := some 13) (v := undef) (a' := ?_) #[T,T,T,T,T,T,T,T,T,F,F,F,F,F,F,F,F,F] rfl rfl (by kernel_rfl) (fun _ _ _ h => h) (Or.inr ⟨by rfl, rfl⟩) ?_ ?_
    rotate_left
    · simp only [Act.put, sA, s0_, sS, i64_w, i32_w]
      rfl
    refine pure_ (i := 9) (N := some 14) (v := undef) (a' := ?_) #[T,T,T,T,T,T,T,T,T,T,F,F,F,F,F,F,F,F] rfl rfl (by kernel_rfl) (fun _ _ _ h => h) (Or.inr ⟨by rfl, rfl⟩) ?_ ?_
    rotate_left
    · simp only [Act.put, sA, s0_, sS, i64_w, i32_w]
      rfl
    refine pure_ (i := 10) (N := some 15) (v := undef) (a' := ?_) #[T,T,T,T,T,T,T,T,T,T,T,F,F,F,F,F,F,F] rfl rfl (by kernel_rfl) (fun _ _ _ h => h) (Or.inr ⟨by rfl, rfl⟩) ?_ ?_
    rotate_left
    · simp only [Act.put, sA, s0_, sS, i64_w, i32_w]
      rfl
    refine pure_ (i := 11) (N := some 16) (v := undef) (a' := ?_) #[T,T,T,T,T,T,T,T,T,T,T,T,F,F,F,F,F,F] rfl rfl (by kernel_rfl) (fun _ _ _ h => h) (Or.inr ⟨by rfl, rfl⟩) ?_ ?_
    rotate_left
    · simp only [Act.put, sA, s0_, sS, i64_w, i32_w]
      rfl
    refine pure_ (i := 12) (N := some 17) (v := undef) (a' := ?_) #[T,T,T,T,T,T,T,T,T,T,T,T,T,F,F,F,F,F] rfl rfl (by kernel_rfl) (fun _ _ _ h => h) (Or.inr ⟨by rfl, rfl⟩) ?_ ?_
    rotate_left
    · simp only [Act.put, sA, s0_, sS, i64_w, i32_w]
      rfl
    refine pure_ (i := 13) (N := some 18) (v := undef) (a' := ?_) #[T,T,T,T,T,T,T,T,T,T,T,T,T,T,F,F,F,F] rfl rfl (by kernel_rfl) (fun _ _ _ h => h) (Or.inr ⟨by rfl, rfl⟩) ?_ ?_
    rotate_left
    · simp only [Act.put, sA, s0_, sS, i64_w, i32_w]
      rfl
    refine pure_ (i := 14) (N := some 19) (v := undef) (a' := ?_) #[T,T,T,T,T,T,T,T,T,T,T,T,T,T,T,F,F,F] rfl rfl (by kernel_rfl) (fun _ _ _ h => h) (Or.inr ⟨by rfl, rfl⟩) ?_ ?_
    rotate_left
    · simp only [Act.put, sA, s0_, sS, i64_w, i32_w]
      rfl
    refine pure_ (i := 15) (N := some 20) (v := undef) (a' := ?_) #[T,T,T,T,T,T,T,T,T,T,T,T,T,T,T,T,F,F] rfl rfl (by kernel_rfl) (fun _ _ _ h => h) (Or.inr ⟨by rfl, rfl⟩) ?_ ?_
    rotate_left
    · simp only [Act.put, sA, s0_, sS, i64_w, i32_w]
      rfl
    refine pure_ (i := 16) (N := some 21) (v := ?_) (a' := ?_) #[T,T,T,T,T,T,T,T,T,T,T,T,T,T,T,T,T,F] rfl rfl (by kernel_rfl) (fun _ _ _ h => h) (Or.inl ⟨by rfl, ?_⟩) ?_ ?_
    rotate_left
    · intro w'
      go_simp
      with_reducible rfl
    rotate_left
    · simp only [Act.put, sA, s0_, sS, i64_w, i32_w]
      rfl
    refine pure_ (i := 17) (N := some 4) (v := ?_) (a' := ?_) #[T,T,T,T,T,T,T,T,T,T,T,T,T,T,T,T,T,T] rfl rfl (by kernel_rfl) (fun _ _ _ h => h) (Or.inl ⟨by rfl, ?_⟩) ?_ ?_
    rotate_left
    · intro w'
      go_simp
      with_reducible rfl
    rotate_left
    · simp only [Act.put, sA, s0_, sS, i64_w, i32_w]
      rfl
    refine done_ (by kernel_rfl) ?_
    go_wp2
    go_ret
    exact ⟨rfl, ⟨1, rfl⟩⟩
theorem bytesOf_inj : ∀ (l r : List Int), (∀ x ∈ l, 0 ≤ x ∧ x < 256) → (∀ x ∈ r, 0 ≤ x ∧ x < 256) → Lib.bytesOf l = Lib.bytesOf r → l = r
  | [], [], _, _, _ => rfl
  | [], _ :: _, _, _, h => by cases h
  | _ :: _, [], _, _, h => by cases h
  | x :: l, y :: r, hl, hr, h => by
    unfold Lib.bytesOf at h
    rw [List.map_cons, List.map_cons, List.cons.injEq] at h
    obtain ⟨h1, h2⟩ := h
    have hx := hl x List.mem_cons_self
    have hy := hr y List.mem_cons_self
    have e : x = y := by
      have h3 := congrArg UInt8.toNat h1
      rw [UInt8.toNat_ofNat', UInt8.toNat_ofNat'] at h3
      omega
    rw [e, bytesOf_inj l r (fun z hz => hl z (List.mem_cons_of_mem _ hz)) (fun z hz => hr z (List.mem_cons_of_mem _ hz)) h2]
theorem eqFF (l : List Int) (hl : ∀ x ∈ l, 0 ≤ x ∧ x < 256) : ((strOfNums l).toList == (strOfNums (List.replicate l.length 255)).toList) = isFF l := by
  rw [Lib.strOfNums_toList, Lib.strOfNums_toList, Bool.eq_iff_iff, beq_iff_eq, isFF_iff]
  constructor
  · intro h
    exact bytesOf_inj _ _ hl (fun x hx => by rw [List.eq_of_mem_replicate hx]; omega) h
  · intro h
    exact congrArg Lib.bytesOf h
theorem cut_mem {b : List Int} {i n : Nat} (h : ∀ x ∈ b, 0 ≤ x ∧ x < 256) : ∀ x ∈ cutOf b i n, 0 ≤ x ∧ x < 256 := fun x hx => h x (List.mem_of_mem_drop (List.mem_of_mem_take hx))
set_option maxHeartbeats 1000000 in
set_option maxRecDepth 100000 in
theorem clean_walk (h : DevG B f w db d im imc vu vf vw) (ok : d.Ok) (n : Nat) (hn : n < d.pages) : Calls Try.prog 50 #[.pointer (some ⟨db, 0, none⟩), .int .i64 (n : Int)] w (fun e w' => e = .returned (.bool (d.clean n)) ∧ Below w.heap.size w w') := by
  obtain ⟨q1, q2, q3, q4, q5⟩ := page_nums ok n hn
  have KP := Aside0.mk (fun (w' : World) (hb : Below w.heap.size w w') => page_walk (h.below hb) ok n hn)
  have c0 : w.cell? ⟨db, 0, none⟩ = some (.int .i64 d.p) := h.at_ 0
  have KB := Aside0.mk (fun (w' : World) => blank_walk (w := w') (n := d.p) q4 (Nat.le_trans ok.p2 (by decide)))
  have hcap : d.b.length ≤ imc := by obtain ⟨cs, _, h2, _, _⟩ := h.img; exact h2
  have hcl : d.clean n = isFF (cutOf d.b (n * d.p) d.p) := rfl
  have hlen : (cutOf d.b (n * d.p) d.p).length = d.p := cutOf_length _ _ _ (by rw [q1]; exact q2)
  have KE := Aside0.mk (fun (w' : World) (gb : Nat) (hb : Below w.heap.size w w') (hI : Im w' gb d.p (List.replicate d.p 255)) => (show Calls Try.prog 68 #[.slice (some ⟨im, n * d.p, none⟩) d.p (imc - n * d.p), .slice (some ⟨gb, 0, none⟩) d.p d.p] w' (fun e w2 => e = .returned (.bool (d.clean n)) ∧ Drawn0 w' w2) from by
    have h1 := (h.img.below hb).cut (n * d.p) d.p (by rw [q1]; exact q2) (Nat.le_trans q3 (by decide))
    have h2 := hI.cut 0 d.p (by rw [List.length_replicate, Nat.zero_add]; exact Nat.le_refl _) (by rw [List.length_replicate]; exact Nat.le_trans ok.p2 (by decide))
    have e2 : cutOf (List.replicate d.p (255 : Int)) 0 d.p = List.replicate d.p 255 := by unfold cutOf; rw [List.drop_zero, List.take_of_length_le (by rw [List.length_replicate]; exact Nat.le_refl _)]
    rw [e2] at h2
    have hle : d.p ≤ imc - n * d.p := by
      have := Nat.le_trans (by rw [q1]; exact q2 : n * d.p + d.p ≤ d.b.length) hcap
      omega
    have h3 := bytes_Equal.calls (some ⟨im, n * d.p, none⟩) (imc - n * d.p) (cutOf d.b (n * d.p) d.p) (some ⟨gb, 0, none⟩) d.p (List.replicate d.p 255) (d.clean n) w' (by rw [hlen]; exact h1) (by rw [hlen]; exact hle) (by rw [List.length_replicate]; exact h2) (by rw [List.length_replicate]; exact Nat.le_refl _) (by
      unfold bytes_Equal.f
      have := eqFF (cutOf d.b (n * d.p) d.p) (cut_mem ok.byte)
      rw [hlen] at this
      rw [this, hcl])
    rw [hlen, List.length_replicate] at h3
    exact h3))
  obtain ⟨b, hb⟩ : ∃ b, d.clean n = b := ⟨_, rfl⟩
  rw [hb] at KE
  rw [hb]
  obtain ⟨p, hp⟩ : ∃ p, d.p = p := ⟨_, rfl⟩
  rw [hp] at KE KB KP c0
  clear q1 q2 q3 q4 q5 hcap hcl hlen hb h ok hn
  go_enter Try.func50, Try.ntmps50
  go_upto_region 1 with (fail)
  refine start_ (n := 11) (S := fun w' => w'.cell? ⟨db, 0, none⟩ = some (.int .i64 (p : Int))) (ds := []) #[F,F,F,F,F,F,F,F,F,F,F] (by kernel_rfl) rfl rfl (c0) (fun hHeld => ?_)
  generalize hwd : w.drew = wd at hHeld ⊢
  have BD : Aside0 (Below w.heap.size w wd) := ⟨by rw [← hwd]; exact below_drew (Below.refl _ _)⟩
  clear hwd
  refine pure_ (i := 0) (N := some 5) (v := ?_) (a' := ?_) #[T,F,F,F,F,F,F,F,F,F,F] rfl rfl (by kernel_rfl) (fun _ _ _ h => h) (Or.inl ⟨by rfl, ?_⟩) ?_ ?_
  rotate_left
  · intro w'
    go_simp
    with_reducible rfl
  rotate_left
  · simp only [Act.put, sA, s0_, sS, i64_w, i32_w]
    rfl
  refine pure_ (i := 1) (N := some 6) (v := ?_) (a' := ?_) #[T,T,F,F,F,F,F,F,F,F,F] rfl rfl (by kernel_rfl) (fun _ _ _ h => h) (Or.inl ⟨by rfl, ?_⟩) ?_ ?_
  rotate_left
  · intro w'
    go_simp
    with_reducible rfl
  rotate_left
  · simp only [Act.put, sA, s0_, sS, i64_w, i32_w]
    rfl
  refine pure_ (i := 3) (N := some 8) (v := ?_) (a' := ?_) #[T,T,F,T,F,F,F,F,F,F,F] rfl rfl (by kernel_rfl) (fun _ _ _ h => h) (Or.inl ⟨by rfl, ?_⟩) ?_ ?_
  rotate_left
  · intro w'
    go_simp
    with_reducible rfl
  rotate_left
  · simp only [Act.put, sA, s0_, sS, i64_w, i32_w]
    rfl
  refine pure_ (i := 4) (N := some 9) (v := ?_) (a' := ?_) #[T,T,F,T,T,F,F,F,F,F,F] rfl rfl (by kernel_rfl) (fun _ _ _ h => h) (Or.inl ⟨by rfl, ?_⟩) ?_ ?_
  rotate_left
  · intro w'
    go_simp
    with_reducible rfl
  rotate_left
  · simp only [Act.put, sA, s0_, sS, i64_w, i32_w]
    rfl
  refine pure_ (i := 5) (N := some 10) (v := ?_) (a' := ?_) #[T,T,F,T,T,T,F,F,F,F,F] rfl rfl (by kernel_rfl) (fun _ _ _ h => h) (Or.inl ⟨by rfl, ?_⟩) ?_ ?_
  rotate_left
  · intro w'
    go_simp
    with_reducible rfl
  rotate_left
  · simp only [Act.put, sA, s0_, sS, i64_w, i32_w]
    rfl
  refine pure_ (i := 6) (N := some 11) (v := ?_) (a' := ?_) #[T,T,F,T,T,T,T,F,F,F,F] rfl rfl (by kernel_rfl) (fun _ _ _ h => h) (Or.inl ⟨by rfl, ?_⟩) ?_ ?_
  rotate_left
  · intro w'
    go_simp
    with_reducible rfl
  rotate_left
  · simp only [Act.put, sA, s0_, sS, i64_w, i32_w]
    rfl
  refine take_ (i := 7) (N := some 12) (v := ?_) (a' := ?_) #[T,T,F,T,T,T,T,T,F,F,F] rfl rfl (by kernel_rfl) (fun _ _ _ h => h) (Or.inl ⟨by rfl, ?_⟩) hHeld ?_ ?_
  rotate_left
  · intro w' s0
    go_simp
    with_reducible rfl
  rotate_left
  · simp only [Act.put, sA, s0_, sS, i64_w, i32_w]
    rfl
  refine one_ (i := 2) (N := some 7) #[T,T,T,T,T,T,T,T,F,F,F] rfl rfl (by kernel_rfl) (by decide) (fun K hK => ?_)
  refine goes_ Try.func46 (by kernel_rfl) rfl #[.pointer (some ⟨db, 0, none⟩), .int .i64 (n : Int)] (by rfl) rfl rfl (by (try simp only [List.map_toArray, List.map_cons, List.map_nil]); first | done | rfl) ?_
  with_reducible refine (KP.out wd BD.out).mono ?_
  rintro e w1 ⟨rfl, ⟨q, rfl⟩⟩
  refine ⟨_, rfl, ?_⟩
  generalize hw1 : wd.drewN q = w1
  have B1 : Aside0 (Below w.heap.size w w1) := ⟨by rw [← hw1]; exact pw_below_drewN BD.out _⟩
  clear hw1 BD
  refine hK.out _ _ (by exact pw_cell_below B1.out c0) (fun hHeld => ?_)
  clear hK K
  refine norm_ (a' := ?_) ?_ ?_
  rotate_left
  · show Act.put _ (some 7) _ = _
    simp only [Act.put, sA, s0_, sS, i64_w, i32_w]
    rfl
  refine one_ (i := 8) (N := some 13) #[T,T,T,T,T,T,T,T,T,F,F] rfl rfl (by kernel_rfl) (by decide) (fun K hK => ?_)
  refine goes_ Try.func37 (by kernel_rfl) rfl #[.int .i64 (p : Int)] (by rfl) rfl rfl (by (try simp only [List.map_toArray, List.map_cons, List.map_nil]); first | done | rfl) ?_
  with_reducible refine (KB.out w1).mono ?_
  rintro e w2 ⟨gb, rfl, hI, hg, hb⟩
  refine ⟨_, rfl, ?_⟩
  have HI := Aside0.mk hI
  have B2 := Aside0.mk (B1.out.trans (hb.mono B1.out.size))
  clear hI hg hb B1
  refine hK.out _ _ (by exact pw_cell_below B2.out c0) (fun hHeld => ?_)
  clear hK K
  refine norm_ (a' := ?_) ?_ ?_
  rotate_left
  · show Act.put _ (some 13) _ = _
    simp only [Act.put, sA, s0_, sS, i64_w, i32_w]
    rfl
  refine one_ (i := 9) (N := some 14) #[T,T,T,T,T,T,T,T,T,T,F] rfl rfl (by kernel_rfl) (by decide) (fun K hK => ?_)
  refine goes_ Try.func68 (by kernel_rfl) rfl #[.slice (some ⟨im, n * p, none⟩) p (imc - n * p), .slice (some ⟨gb, 0, none⟩) p p] (by rfl) rfl rfl (by (try simp only [List.map_toArray, List.map_cons, List.map_nil]); first | done | rfl) ?_
  with_reducible refine (KE.out w2 gb B2.out HI.out).mono ?_
  rintro e w3 ⟨rfl, hd⟩
  refine ⟨_, rfl, ?_⟩
  have B3 := Aside0.mk (B2.out.trans (hd.below.mono B2.out.size))
  clear hd HI B2
  refine hK.out _ _ (by exact pw_cell_below B3.out c0) (fun hHeld => ?_)
  clear hK K
  refine norm_ (a' := ?_) ?_ ?_
  rotate_left
  · show Act.put _ (some 14) _ = _
    simp only [Act.put, sA, s0_, sS, i64_w, i32_w]
    rfl
  refine pure_ (i := 10) (N := some 4) (v := ?_) (a' := ?_) #[T,T,T,T,T,T,T,T,T,T,T] rfl rfl (by kernel_rfl) (fun _ _ _ h => h) (Or.inl ⟨by rfl, ?_⟩) ?_ ?_
  rotate_left
  · intro w'
    go_simp
    with_reducible rfl
  rotate_left
  · simp only [Act.put, sA, s0_, sS, i64_w, i32_w]
    rfl
  refine done_ (by kernel_rfl) ?_
  go_wp2
  go_ret
  exact ⟨rfl, B3.out⟩
end
/-! ### Next -/
theorem page_in {d : Dv} {g i : Nat} (hg : g < d.r) (hi : i < d.s) : g * d.s + i < d.pages := by
  have h1 : (g + 1) * d.s ≤ d.r * d.s := Nat.mul_le_mul_right _ hg
  rw [Nat.add_mul, Nat.one_mul] at h1
  unfold Dv.pages
  rw [Nat.mul_comm d.s d.r]
  omega
theorem pages_le {d : Dv} (ok : d.Ok) : d.pages ≤ 65536 := by
  unfold Dv.pages
  have h1 : d.s * d.r ≤ 64 * 256 := Nat.mul_le_mul ok.s2 ok.r2
  exact Nat.le_trans h1 (by decide)
section
variable {B : Nat} {f : Owner} {w : World} {db : Nat} {d : Dv} {im imc : Nat} {vu vf vw : Value}
theorem wI {n : Int} (h0 : -9223372036854775808 ≤ n) (h1 : n < 9223372036854775808) : wrap64 n = n := by unfold wrap64; omega
theorem DevG.pos (ok : d.Ok) : 0 < d.b.length := by
  have h0 : 0 < d.pages := by
    have h := page_in (d := d) (g := 0) (i := 0) (Nat.lt_of_lt_of_le (by decide) ok.r1) (Nat.lt_of_lt_of_le (by decide) ok.s1)
    rw [Nat.zero_mul, Nat.zero_add] at h
    exact h
  obtain ⟨h1, h2, h3, h4, h5⟩ := page_nums ok 0 h0
  rw [Nat.zero_add, Nat.one_mul] at h2
  exact Nat.lt_of_lt_of_le h4 h2
set_option maxHeartbeats 2000000 in
set_option maxRecDepth 100000 in
theorem next_walk (h : DevG B f w db d im imc vu vf vw) (ok : d.Ok) (g : Int) : Calls Try.prog 28 #[.pointer (some ⟨db, 0, none⟩), .int .i64 g] w (fun e w' => e = .returned (.int .i64 (d.next g)) ∧ Below w.heap.size w w') := by
  have KM := Aside0.mk (made_walk h (DevG.pos ok))
  have H := Aside0.mk h
  have c2 : w.cell? ⟨db, 2, none⟩ = some (.int .i64 d.r) := h.at_ 2
  have OK := Aside0.mk ok
  have hpl := pages_le ok
  obtain ⟨r, hr⟩ : ∃ r, d.r = r := ⟨_, rfl⟩
  have HR := Aside0.mk hr
  rw [hr] at c2
  unfold Dv.next
  rw [hr]
  by_cases h0 : g < 0
  · rw [if_pos (.inl h0)]
    have g0 : decide (g < 0) = true := decide_eq_true h0
    clear h ok hr hpl h0
    go_enter Try.func28, Try.ntmps28
    go_wp2_with (go_at_call 39; refine KM.out.mono ?_; rintro e w' ⟨rfl, rfl⟩)
    go_ret
    exact ⟨rfl, Below.refl _ _⟩
  · by_cases h1 : (r : Int) ≤ g
    · rw [if_pos (.inr h1)]
      have g0 : decide (g < 0) = false := decide_eq_false h0
      have g1 : decide ((r : Int) ≤ g) = true := decide_eq_true h1
      clear h ok hr hpl h0 h1
      go_enter Try.func28, Try.ntmps28
      go_wp2_with (go_at_call 39; refine KM.out.mono ?_; rintro e w' ⟨rfl, rfl⟩)
      go_ret
      exact ⟨rfl, Below.refl _ _⟩
    · rw [if_neg (by omega)]
      obtain ⟨gn, rfl⟩ : ∃ gn : Nat, g = (gn : Int) := ⟨g.toNat, by omega⟩
      rw [Int.toNat_natCast]
      have hgr : gn < d.r := by rw [hr]; omega
      have hs64 := ok.s2
      have hs1 := ok.s1
      have c1 : w.cell? ⟨db, 1, none⟩ = some (.int .i64 d.s) := h.at_ 1
      have g0 : decide ((gn : Int) < 0) = false := decide_eq_false h0
      have g1 : decide ((r : Int) ≤ (gn : Int)) = false := decide_eq_false h1
      have KC := Aside0.mk (fun (w' : World) (hb : Below w.heap.size w w') (i : Nat) (hi : i < d.s) => clean_walk (h.below hb) ok (gn * d.s + i) (page_in hgr hi))
      have C1 := Aside0.mk (fun (w' : World) (hb : Below w.heap.size w w') => (show w'.cell? ⟨db, 1, none⟩ = some (.int .i64 d.s) from (h.below hb).at_ 1))
      have hF : gn * d.s ≤ 65536 := Nat.le_trans (by have := page_in (d := d) hgr (Nat.lt_of_lt_of_le (by decide) ok.s1 : 0 < d.s); rw [Nat.add_zero] at this; exact Nat.le_of_lt this) hpl
      have HN : Aside0 (∀ m, m ≤ d.s → (∀ i, m ≤ i → i < d.s → d.clean (gn * d.s + i) = true) → (m = 0 ∨ d.clean (gn * d.s + (m - 1)) = false) → d.nxt gn = m) := ⟨fun m h1 h2 h3 => lastD_is h1 h2 h3⟩
      obtain ⟨s, hs⟩ : ∃ s, d.s = s := ⟨_, rfl⟩
      rw [hs] at c1 KC C1 hF HN hs64 hs1
      rw [hs]
      obtain ⟨F, hFF⟩ : ∃ F, gn * s = F := ⟨_, rfl⟩
      rw [hFF] at KC hF HN
      rw [hFF]
      obtain ⟨res, hres⟩ : ∃ res, (if d.nxt gn = s then (-1 : Int) else ((F + d.nxt gn : Nat) : Int)) = res := ⟨_, rfl⟩
      rw [hres]
      have HRES := Aside0.mk hres
      clear hres
      have g2 : decide (r ≤ gn) = false := decide_eq_false (by omega)
      have g3 : ¬ r ≤ gn := by omega
      have e1 : wrap64 ((gn : Int) * (s : Int)) = (F : Int) := by rw [← Int.natCast_mul, hFF]; exact wN (Nat.le_trans hF (by decide))
      clear h ok hr hpl h0 h1 hgr hs hFF
      go_enter Try.func28, Try.ntmps28
      go_wp2_with (go_at_call 39; refine KM.out.mono ?_; rintro e w' ⟨rfl, rfl⟩)
      rw [e1]
      clear e1
      go_loopw [6] (fun v wr => ∃ m : Nat, m ≤ s ∧ v = .int .i64 (m : Int) ∧ Aside0 (∀ i, m ≤ i → i < s → d.clean (F + i) = true) ∧ Aside0 (Below w.heap.size w wr)) (fun v _ => (intOf v).toNat)
      case atStart => exact ⟨s, Nat.le_refl _, rfl, ⟨fun i h1 h2 => by omega⟩, ⟨Below.refl _ _⟩⟩
      case round =>
        clear c1 c2 KM
        obtain ⟨m, hm, rfl, SC, BK⟩ := hrel
        have c1 := C1.out wr BK.out
        rcases Nat.eq_zero_or_pos m with h0 | h0
        · subst h0
          have HE : Aside0 (res = (F : Int)) := ⟨by rw [← HRES.out, HN.out 0 (Nat.zero_le _) SC.out (.inl rfl), if_neg (by omega)]; rfl⟩
          have i0 : ((0 : Int) == (s : Int)) = false := by rw [beq_eq_false_iff_ne]; omega
          have i1 : (0 : Int) ≠ (s : Int) := by omega
          have w0 : wrap64 (F : Int) = (F : Int) := wN (Nat.le_trans hF (by decide))
          go_wp2
          go_ret
          exact ⟨by rw [HE.out]; rfl, BK.out⟩
        · obtain ⟨j, hj⟩ : ∃ j, j + 1 = m := ⟨m - 1, by omega⟩
          have KJ := Aside0.mk (KC.out wr BK.out j (by omega))
          obtain ⟨b, hb⟩ : ∃ b, d.clean (F + j) = b := ⟨_, rfl⟩
          have HB := Aside0.mk hb
          rw [hb] at KJ
          obtain ⟨n, hn⟩ : ∃ n, F + j = n := ⟨_, rfl⟩
          obtain ⟨fm, hfm⟩ : ∃ fm, F + m = fm := ⟨_, rfl⟩
          rw [hn] at KJ
          have eN : ((n : Nat) : Int) = (F : Int) + (m : Int) - 1 := by omega
          rw [eN] at KJ
          clear eN
          have i0 : decide ((0 : Int) < (m : Int)) = true := decide_eq_true (by omega)
          have HJ := Aside0.mk hj
          have HM := Aside0.mk (And.intro hm (And.intro hn hfm))
          cases b with
          | true =>
            have SC2 : Aside0 (∀ i, j ≤ i → i < s → d.clean (F + i) = true) := ⟨fun i h1 h2 => by
              by_cases e : i = j
              · subst e; exact HB.out
              · exact SC.out i (by omega) h2⟩
            clear hb hn hfm hj
            go_wp2_with (go_at_call 50; refine KJ.out.mono ?_; rintro e w2 ⟨rfl, hh⟩; have B2 := Aside0.mk (BK.out.trans (hh.mono BK.out.size)); clear hh)
            go_roundw
            case rel => exact ⟨j, by have := HJ.out; omega, by have := HJ.out; congr 1; omega, SC2, B2⟩
            case measure =>
              have := HJ.out
              simp [intOf]
              omega
          | false =>
            have HX := Aside0.mk (HN.out m hm SC.out (.inr (by rw [← hj, Nat.add_sub_cancel]; exact hb)))
            by_cases hms : m = s
            · have HE : Aside0 (res = -1) := ⟨by rw [← HRES.out, HX.out, if_pos hms]⟩
              have i2 : ((m : Int) == (s : Int)) = true := by rw [beq_iff_eq]; omega
              have HMS := Aside0.mk hms
              clear hb hn hfm hj hms
              go_wp2_with (go_at_call 50; refine KJ.out.mono ?_; rintro e w2 ⟨rfl, hh⟩; have B2 := Aside0.mk (BK.out.trans (hh.mono BK.out.size)); clear hh; have c1 := C1.out _ B2.out)
              go_ret
              exact ⟨by rw [HE.out]; rfl, B2.out⟩
            · have HE : Aside0 (res = (F : Int) + (m : Int)) := ⟨by rw [← HRES.out, HX.out, if_neg hms]; rfl⟩
              have i2 : ((m : Int) == (s : Int)) = false := by rw [beq_eq_false_iff_ne]; omega
              have i3 : ¬ (m : Int) = (s : Int) := by omega
              clear hb hn hfm hj
              go_wp2_with (go_at_call 50; refine KJ.out.mono ?_; rintro e w2 ⟨rfl, hh⟩; have B2 := Aside0.mk (BK.out.trans (hh.mono BK.out.size)); clear hh; have c1 := C1.out _ B2.out)
              go_ret
              exact ⟨by rw [HE.out]; rfl, B2.out⟩
end
/-! ### slices.Clone -/
/-- A new row of the call's own is handed back. -/
def Made {α : Type} (d : Kd α) (e : Nat) (w : World) (xs : List α) (en : Ending) (w' : World) : Prop := ∃ v, en = .returned v ∧ d.R e w' w.heap.size (fun k => w.heap.size ≤ k) v xs ∧ Below w.heap.size w w'
theorem info5 : (Try.prog.info? 5).map (fun i => (i.zero, i.size, i.bytes)) = some (some (.int .u8 0), 1, 1) := by kernel_rfl
theorem info85 : (Try.prog.info? 85).map (fun i => (i.zero, i.size, i.bytes)) = some (some (.agg #[.int .i64 0, .int .i64 0, .int .i64 0]), 3, 24) := by kernel_rfl
/-- An empty literal. -/
theorem made0 {α : Type} (d : Kd α) (e : Nat) (w : World) : d.R e (w.alloc (.cells #[] e)) w.heap.size (fun k => w.heap.size ≤ k) (.slice (some ⟨w.heap.size, 0, none⟩) 0 0) [] :=
  ⟨fun k hk => by simp [Value.ownBlock] at hk; omega, [], World.ownsRow_made w #[] 0 (Nat.le_refl _) (by simp [maxLen]) (by simp), Reps.none _ _⟩
set_option maxHeartbeats 1000000 in
theorem clone40 {A : Option Addr} {n c : Nat} {xs : List Int} {w : World} (hC : (Kd.int .u8).C w A n xs) (hc : n ≤ c) (hl : n * 1 ≤ 140737488355328) :
    Calls Try.prog 40 #[.slice A n c] w (Made (Kd.int .u8) 5 w xs) := by
  have qT : ∀ (w : World) (a : Option Addr) (n c n' c' : Nat), (binOp .eql 24 (.slice a n c) (.slice none n' c')).run Try.prog w = .ok (.bool a.isNone) w := fun w a n c n' c' => Go.Lib.run_eql_slice_nil w _ _ a n c n' c' Try.underlying24
  have HC := Aside0.mk hC
  cases A with
  | none =>
    have hn : n = 0 := by
      rcases Nat.eq_zero_or_pos n with h | h
      · exact h
      · obtain ⟨ad, e, _⟩ := hC.2.2 h; simp at e
    subst hn
    have hx : xs = [] := List.length_eq_zero_iff.1 hC.1
    subst hx
    clear hC
    go_enter Try.func40, Try.ntmps40
    go_wp2
    go_ret
    exact ⟨_, rfl, Kd.R_nil _ _ _ _ _, Below.refl _ _⟩
  | some ad =>
    clear hC
    go_enter Try.func40, Try.ntmps40
    go_wp2_with (at_builtin; refine Kd.R_append_rows (Kd.int .u8) (w0 := w) w.heap.size rfl (.tmp 5) (.tmp 6) 24 5 (.int .u8 0) 1 rfl Try.underlying24 info5 rfl (by decide) (by decide) (.slice (some ⟨w.heap.size, 0, none⟩) 0 0) [] xs (some ad) n c (fun k => w.heap.size ≤ k) (fun _ => False) rfl rfl (made0 _ _ w) (Kd.C_below HC.out (below_alloc (Below.refl _ _) _)) (fun x cs h => h) (fun k h => h.elim) (fun k h => by simp at h; omega) (below_alloc (Below.refl _ _) _) (by simp) (by simpa using hl) ?_; intro v1 w1 hR hb hg hat; have HR := Aside0.mk hR; have HB := Aside0.mk hb; clear hR hb hg hat)
    go_ret
    exact ⟨_, rfl, HR.out, HB.out⟩
set_option maxHeartbeats 1000000 in
theorem clone41 {A : Option Addr} {n c : Nat} {xs : List Int} {w : World} (hC : (Kd.int .i64).C w A n xs) (hc : n ≤ c) (hl : n * 8 ≤ 140737488355328) :
    Calls Try.prog 41 #[.slice A n c] w (Made (Kd.int .i64) 3 w xs) := by
  have qT : ∀ (w : World) (a : Option Addr) (n c n' c' : Nat), (binOp .eql 35 (.slice a n c) (.slice none n' c')).run Try.prog w = .ok (.bool a.isNone) w := fun w a n c n' c' => Go.Lib.run_eql_slice_nil w _ _ a n c n' c' Try.underlying35
  have HC := Aside0.mk hC
  cases A with
  | none =>
    have hn : n = 0 := by
      rcases Nat.eq_zero_or_pos n with h | h
      · exact h
      · obtain ⟨ad, e, _⟩ := hC.2.2 h; simp at e
    subst hn
    have hx : xs = [] := List.length_eq_zero_iff.1 hC.1
    subst hx
    clear hC
    go_enter Try.func41, Try.ntmps41
    go_wp2
    go_ret
    exact ⟨_, rfl, Kd.R_nil _ _ _ _ _, Below.refl _ _⟩
  | some ad =>
    clear hC
    go_enter Try.func41, Try.ntmps41
    go_wp2_with (at_builtin; refine Kd.R_append_rows (Kd.int .i64) (w0 := w) w.heap.size rfl (.tmp 5) (.tmp 6) 35 3 (.int .i64 0) 8 rfl Try.underlying35 info3 rfl (by decide) (by decide) (.slice (some ⟨w.heap.size, 0, none⟩) 0 0) [] xs (some ad) n c (fun k => w.heap.size ≤ k) (fun _ => False) rfl rfl (made0 _ _ w) (Kd.C_below HC.out (below_alloc (Below.refl _ _) _)) (fun x cs h => h) (fun k h => h.elim) (fun k h => by simp at h; omega) (below_alloc (Below.refl _ _) _) (by simp) (by simpa using hl) ?_; intro v1 w1 hR hb hg hat; have HR := Aside0.mk hR; have HB := Aside0.mk hb; clear hR hb hg hat)
    go_ret
    exact ⟨_, rfl, HR.out, HB.out⟩
set_option maxHeartbeats 1000000 in
theorem clone43 {A : Option Addr} {n c : Nat} {xs : List S85} {w : World} (hC : k85.C w A n xs) (hc : n ≤ c) (hl : n * 24 ≤ 140737488355328) :
    Calls Try.prog 43 #[.slice A n c] w (Made k85 85 w xs) := by
  have qT : ∀ (w : World) (a : Option Addr) (n c n' c' : Nat), (binOp .eql 36 (.slice a n c) (.slice none n' c')).run Try.prog w = .ok (.bool a.isNone) w := fun w a n c n' c' => Go.Lib.run_eql_slice_nil w _ _ a n c n' c' Try.underlying36
  have HC := Aside0.mk hC
  cases A with
  | none =>
    have hn : n = 0 := by
      rcases Nat.eq_zero_or_pos n with h | h
      · exact h
      · obtain ⟨ad, e, _⟩ := hC.2.2 h; simp at e
    subst hn
    have hx : xs = [] := List.length_eq_zero_iff.1 hC.1
    subst hx
    clear hC
    go_enter Try.func43, Try.ntmps43
    go_wp2
    go_ret
    exact ⟨_, rfl, Kd.R_nil _ _ _ _ _, Below.refl _ _⟩
  | some ad =>
    clear hC
    go_enter Try.func43, Try.ntmps43
    go_wp2_with (at_builtin; refine Kd.R_append_rows k85 (w0 := w) w.heap.size rfl (.tmp 5) (.tmp 6) 36 85 (.agg #[.int .i64 0, .int .i64 0, .int .i64 0]) 24 rfl Try.underlying36 info85 rfl (by decide) (by decide) (.slice (some ⟨w.heap.size, 0, none⟩) 0 0) [] xs (some ad) n c (fun k => w.heap.size ≤ k) (fun _ => False) rfl rfl (made0 _ _ w) (Kd.C_below HC.out (below_alloc (Below.refl _ _) _)) (fun x cs h => h) (fun k h => h.elim) (fun k h => by simp at h; omega) (below_alloc (Below.refl _ _) _) (by simp) (by simpa using hl) ?_; intro v1 w1 hR hb hg hat; have HR := Aside0.mk hR; have HB := Aside0.mk hb; clear hR hb hg hat)
    go_ret
    exact ⟨_, rfl, HR.out, HB.out⟩
/-- A row of bytes lies at the head of its block. -/
theorem im_of_R {w : World} {B g n cap : Nat} {ok : Nat → Prop} {xs : List Int} (h : (Kd.int .u8).R 5 w B ok (.slice (some ⟨g, 0, none⟩) n cap) xs) : Im w g cap xs ∧ ok g ∧ B ≤ g ∧ n = xs.length := by
  have hb := (Kd.R_bound h).1 g rfl
  have hn := (Kd.R_reads' h).1
  obtain ⟨ho1, ho2⟩ := Kd.own_of_R (enc := Value.int .u8) (h1 := fun _ => rfl) h
  refine ⟨?_, hb.1, hb.2.1, hn⟩
  rcases ho2 with ⟨e, _⟩ | ⟨g', cap', cur, e, h1, h2, h3, h4, h5, h6⟩
  · cases e
  · injection e with e1 e2 e3
    injection e1 with e1
    injection e1 with e1
    subst e1 e3
    refine ⟨cur.toList, by rw [show cur.toList.toArray = cur by simp]; exact h2, h3, by rw [Array.length_toList, h5, Nat.mul_one]; exact Nat.le_refl _, ?_⟩
    rw [Nat.mul_one] at h6
    exact h6
end Go.Proofs.Ytnkbebdgkidbjaa.Flash
