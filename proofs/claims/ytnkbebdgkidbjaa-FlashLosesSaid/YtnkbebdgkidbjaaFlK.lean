/- Crash.
   No condition. -/
import Derived.Test.YtnkbebdgkidbjaaFlJ
import Derived.Test.YtnkbebdgkidbjaaQFlashPlaysx5
import Derived.ArgAppend
import Derived.BigRegion
import Derived.Deep.QuietTactic
import Derived.BigQuiet
import Derived.Deep.RegionHeld3
import Derived.ChangeAlike
import Derived.RegionTactic
import Derived.Deep.DeepCutAuto
import Derived.Deep.CutBlock
import Derived.Deep.RegionLaw
import Derived.StillTailTactics
import Derived.WalkSpells
import Derived.Lib.SliceRun
import Derived.Laws.CopyRow
import Derived.Lib.SlBuf
import Derived.Lib.MakeNoZero
import Derived.Laws.BitsLemmas
import Derived.Lib.Bytes
import Derived.Lib.SlBytesConst
import Derived.Maps.Own
import Derived.Maps.OwnSet
import Derived.Maps.Keyed
import Derived.Maps.Views
import Derived.Maps.OwnOps
namespace Go.Proofs.Ytnkbebdgkidbjaa.Flash
open Go.Proofs.Ytnkbebdgkidbjaa.QFlashPlays
open Go.RowKit Go.Proofs.YtnkbebdgkidbjaaW.PrintWords Go.Proofs.YtnkbebdgkidbjaaW.PrintLast Go.Proofs.YtnkbebdgkidbjaaW.PrintMore
attribute [local go_sem] max2_int min2_int max_two min_two   -- for this text's walks alone
set_option linter.unusedVariables false
set_option linter.unusedSimpArgs false
def fateSaid (page rest : Int) : Option Ft → Int × Int × Int
  | some f => (f.f0, f.f1, f.f2)
  | none => (page, rest, 0)
theorem fate_loop (l : List Ft) (p s r : Int) (hl : l.length < 4611686018427387904) (d : Nat) : ∀ (k i : Nat), i + d = l.length → d < k → flash_fate.l0 k p l (l.length : Int) (i : Int) s r l = some (fateSaid p r ((l.drop i).find? fun f => f.f0 == p)) := by
  induction d with
  | zero =>
    intro k i hi hk
    obtain ⟨k, rfl⟩ : ∃ m, k = m + 1 := ⟨k - 1, by omega⟩
    rw [flash_fate.l0, if_neg (by omega), List.drop_of_length_le (by omega)]
    rfl
  | succ d ih =>
    intro k i hi hk
    obtain ⟨k, rfl⟩ : ∃ m, k = m + 1 := ⟨k - 1, by omega⟩
    rw [flash_fate.l0, if_pos (by omega), if_pos (by omega), if_pos (by omega), wS (by omega), drop_cons hi z88]
    have e : rd_T88 l (i : Int) = l.getD i z88 := by simp only [rd_T88, Int.toNat_natCast]
    rw [e]
    generalize l.getD i z88 = x
    rw [List.find?_cons]
    by_cases h1 : x.f0 = p
    · rw [if_pos h1, show (x.f0 == p) = true by simp [h1]]
      rfl
    · rw [if_neg h1, show (x.f0 == p) = false by simp [h1]]
      exact ih k (i + 1) (by omega) (by omega)
theorem fate_eq (l : List Ft) (p s r : Int) (hl : l.length < 4611686018427387904) : flash_fate.f (l.length + 1) s r l p = some (fateSaid p r (l.find? fun f => f.f0 == p)) :=
  fate_loop l p s r hl l.length (l.length + 1) 0 (by omega) (by omega)
theorem same_arg {W w5 w' : World} {B n c5 c : Nat} {ok : Nat → Prop} {A A5 : Option Addr} {l : List Int} (h5 : (Kd.int .u8).R 5 w5 B ok (.slice A5 n c5) l) (hb : Below w5.heap.size w5 w') (hC : (Kd.int .u8).C W A n l) (hc : n ≤ c) (hbl : Below W.heap.size W w') (hn : l.length = n) (hl : n ≤ 140737488355328) :
    Calls Try.prog 14 #[.slice A5 n c5, .slice A n c] w' (Told w' (.bool true)) := by
  subst hn
  obtain ⟨k1, _, k2⟩ := R_C h5
  have h := sameBytes_walk (c := c5) (c' := c) (Kd.C_below k1 hb) k2 (Kd.C_below hC hbl) hc (Nat.lt_of_le_of_lt hl (by decide))
  rw [decide_eq_true rfl] at h
  exact h
/-! ### A map of two entries, laid in either order -/
theorem wf_small {x : Int} (h0 : -9223372036854775808 ≤ x) (h1 : x ≤ 9223372036854775807) : (Lit.int .i64 x).wf = true := by
  simp [Lit.wf, IntKind.min, IntKind.max, IntKind.bits, IntKind.signed]; omega
theorem key3 : Maps.Keyed Try.prog 3 := Maps.int_keyed Try.underlying3
theorem keyOf3 {x : Int} (h : (Lit.int .i64 x).wf = true) : keyOf Try.prog 3 (.int .i64 x) = some (.int .i64 x) := Maps.keyOf_int_mk Try.underlying3 h
/-- The map tells this of the three kinds. -/
def Tells (w : World) (mb : Nat) (p a : Int) : Prop := ∀ r : Int, r = 1 ∨ r = 2 ∨ r = 3 → (Instr.lookup 90 (.map (some mb)) (.int .i64 r) false).run Try.prog w = .ok (.int .i64 (if r = 1 then p else if r = 3 then a else 0)) w
theorem put_one {w : World} {mb n : Nat} {D : DataW Unit} (h : w.ownsMap Try.prog 3 (plainElem Try.prog 3) mb n D) (hn : n ≤ 5) (k v : Int) (hk : (Lit.int .i64 k).wf = true) (hv : (Lit.int .i64 v).wf = true) :
    ∃ w', (Instr.mapUpdate 90 (.map (some mb)) (.int .i64 k) (.int .i64 v)).run Try.prog w = .ok () w' ∧ w'.ownsMap Try.prog 3 (plainElem Try.prog 3) mb (n + 1) (D.put (.int .i64 k) (.lit (.int .i64 v))) ∧ w.grownBy w' (some mb) :=
  h.update key3 Try.underlying90 (Nat.lt_of_le_of_lt hn (by decide)) (keyOf3 hk) (plainElem_int Try.underlying3 hv)
theorem tells_eq {w : World} {x c y : Int} (h : (DataW.lit (.int .i64 x) : DataW Unit) = .lit (.int .i64 c)) (e : y = x) : (Result.ok (Value.int .i64 c) w : Result Value) = .ok (.int .i64 y) w := by
  injection h with h
  injection h with _ h
  rw [e, h]
theorem tells_of {w : World} {mb n : Nat} {D : DataW Unit} (h : w.ownsMap Try.prog 3 (plainElem Try.prog 3) mb n D) {p a : Int} (h1 : D.atKey (.int .i64 1) (.lit (.int .i64 0)) = .lit (.int .i64 p)) (h2 : D.atKey (.int .i64 2) (.lit (.int .i64 0)) = .lit (.int .i64 0)) (h3 : D.atKey (.int .i64 3) (.lit (.int .i64 0)) = .lit (.int .i64 a)) : Tells w mb p a := by
  intro r hr
  have hwf : (Lit.int .i64 r).wf = true := by rcases hr with rfl | rfl | rfl <;> decide
  obtain ⟨c, hrun, hat, _⟩ := h.lookup_int key3 Try.underlying90 Try.underlying3 (by kernel_rfl) (keyOf3 hwf)
  rw [hrun]
  rcases hr with rfl | rfl | rfl
  · rw [h1] at hat; exact tells_eq hat rfl
  · rw [h2] at hat; exact tells_eq hat rfl
  · rw [h3] at hat; exact tells_eq hat rfl
theorem key_ne {x y : Int} (h : x ≠ y) : (Lit.int .i64 x) ≠ .int .i64 y := fun e => h (by injection e)
/-- The two entries, the first one ahead. -/
theorem lit_13 {w : World} {mb : Nat} (h : w.ownsMap Try.prog 3 (plainElem Try.prog 3) mb 0 (.map [] : DataW Unit)) (p a : Int) (hp : (Lit.int .i64 p).wf = true) (ha : (Lit.int .i64 a).wf = true) :
    ∃ w1, (Instr.mapUpdate 90 (.map (some mb)) (.int .i64 1) (.int .i64 p)).run Try.prog w = .ok () w1 ∧ w.grownBy w1 (some mb) ∧ ∃ w2, (Instr.mapUpdate 90 (.map (some mb)) (.int .i64 3) (.int .i64 a)).run Try.prog w1 = .ok () w2 ∧ w1.grownBy w2 (some mb) ∧ Tells w2 mb p a := by
  obtain ⟨w1, r1, o1, g1⟩ := put_one h (by decide) 1 p (by decide) hp
  obtain ⟨w2, r2, o2, g2⟩ := put_one o1 (by decide) 3 a (by decide) ha
  refine ⟨w1, r1, g1, w2, r2, g2, tells_of o2 ?_ ?_ ?_⟩
  · rw [Maps.atKey_put_other (key_ne (by decide)), Maps.atKey_put_same h.isMap (show WideAt.IsKeyLit (.int .i64 1) from trivial)]
  · rw [Maps.atKey_put_other (key_ne (by decide)), Maps.atKey_put_other (key_ne (by decide))]; rfl
  · rw [Maps.atKey_put_same o1.isMap (show WideAt.IsKeyLit (.int .i64 3) from trivial)]
theorem lit_31 {w : World} {mb : Nat} (h : w.ownsMap Try.prog 3 (plainElem Try.prog 3) mb 0 (.map [] : DataW Unit)) (p a : Int) (hp : (Lit.int .i64 p).wf = true) (ha : (Lit.int .i64 a).wf = true) :
    ∃ w1, (Instr.mapUpdate 90 (.map (some mb)) (.int .i64 3) (.int .i64 a)).run Try.prog w = .ok () w1 ∧ w.grownBy w1 (some mb) ∧ ∃ w2, (Instr.mapUpdate 90 (.map (some mb)) (.int .i64 1) (.int .i64 p)).run Try.prog w1 = .ok () w2 ∧ w1.grownBy w2 (some mb) ∧ Tells w2 mb p a := by
  obtain ⟨w1, r1, o1, g1⟩ := put_one h (by decide) 3 a (by decide) ha
  obtain ⟨w2, r2, o2, g2⟩ := put_one o1 (by decide) 1 p (by decide) hp
  refine ⟨w1, r1, g1, w2, r2, g2, tells_of o2 ?_ ?_ ?_⟩
  · rw [Maps.atKey_put_same o1.isMap (show WideAt.IsKeyLit (.int .i64 1) from trivial)]
  · rw [Maps.atKey_put_other (key_ne (by decide)), Maps.atKey_put_other (key_ne (by decide))]; rfl
  · rw [Maps.atKey_put_other (key_ne (by decide)), Maps.atKey_put_same h.isMap (show WideAt.IsKeyLit (.int .i64 3) from trivial)]
theorem lit_start (w : World) : (w.alloc (.map #[] 0)).ownsMap Try.prog 3 (plainElem Try.prog 3) w.heap.size 0 (.map [] : DataW Unit) := World.ownsMap_made w Try.prog 3 _
/-! ### A crash, plain -/
/-- What becomes of a page: its kind and the place from which it is lost. -/
def fateOf (re : Int) (fts : List Ft) (q : Int) : Int × Int := ((fateSaid q re (fts.find? fun f => f.f0 == q)).2.1, (fateSaid q re (fts.find? fun f => f.f0 == q)).2.2)
def keptOf (p : Nat) (k a : Int) : Int := if k = 1 then (p : Int) else if k = 3 then a else 0
def Dv.part (re : Int) (fts : List Ft) (d : Dv) (q : Int) : Dv := { d with b := putAt d.b (q.toNat * d.p + (keptOf d.p (fateOf re fts q).1 (fateOf re fts q).2).toNat) (List.replicate (d.p - (keptOf d.p (fateOf re fts q).1 (fateOf re fts q).2).toNat) 255) }
def Dv.parts (re : Int) (fts : List Ft) (d : Dv) (l : List Int) : Dv := l.foldl (Dv.part re fts) d
def Dv.crash (re : Int) (fts : List Ft) (d : Dv) : Dv := { d.parts re fts d.un with un := [] }
def fateFit (p : Nat) (f : Int × Int) : Prop := (f.1 = 1 ∨ f.1 = 2 ∨ f.1 = 3) ∧ 0 ≤ f.2 ∧ f.2 ≤ (p : Int)
theorem kept_le {p : Nat} {f : Int × Int} (h : fateFit p f) : 0 ≤ keptOf p f.1 f.2 ∧ keptOf p f.1 f.2 ≤ (p : Int) := by
  obtain ⟨_, h1, h2⟩ := h
  unfold keptOf
  split
  · omega
  · split <;> omega
theorem part_ok {d : Dv} (ok : d.Ok) (re : Int) (fts : List Ft) {q : Int} (hq : 0 ≤ q ∧ q < (d.pages : Int)) (hf : fateFit d.p (fateOf re fts q)) : (d.part re fts q).Ok := by
  have hk := kept_le hf
  obtain ⟨n, rfl⟩ : ∃ n : Nat, q = (n : Int) := ⟨q.toNat, by omega⟩
  have hn : n < d.pages := by omega
  have pn := page_nums ok n hn
  obtain ⟨m, hm⟩ : ∃ m : Nat, keptOf d.p (fateOf re fts (n : Int)).1 (fateOf re fts (n : Int)).2 = (m : Int) := ⟨(keptOf d.p (fateOf re fts (n : Int)).1 (fateOf re fts (n : Int)).2).toNat, by omega⟩
  have e : (d.part re fts (n : Int)).b = putAt d.b (n * d.p + m) (List.replicate (d.p - m) 255) := by
    show putAt d.b _ _ = _
    rw [hm, Int.toNat_natCast, Int.toNat_natCast]
  have hfit : n * d.p + m + (List.replicate (d.p - m) (255 : Int)).length ≤ d.b.length := by
    rw [List.length_replicate]
    have := pn.1
    have := pn.2.1
    omega
  refine ⟨ok.p1, ok.p2, ok.s1, ok.s2, ok.r1, ok.r2, ok.sz, ?_, ?_, ok.wl, ok.unr, ok.flk, ok.fll⟩
  · rw [e]; exact (putAt_length d.b _ _ hfit).trans ok.len
  · intro y hy
    rw [e] at hy
    rcases put_mem hy with h | h
    · exact ok.byte y h
    · rw [List.eq_of_mem_replicate h]; decide
theorem parts_same (re : Int) (fts : List Ft) (l : List Int) : ∀ d : Dv, ∃ b, d.parts re fts l = { d with b := b } := by
  induction l with
  | nil => exact fun d => ⟨d.b, rfl⟩
  | cons q l ih =>
    intro d
    obtain ⟨b, hb⟩ := ih (d.part re fts q)
    exact ⟨b, hb⟩
theorem parts_ok (re : Int) (fts : List Ft) (l : List Int) : ∀ d : Dv, d.Ok → (∀ q ∈ l, 0 ≤ q ∧ q < (d.pages : Int)) → (∀ q ∈ l, fateFit d.p (fateOf re fts q)) → (d.parts re fts l).Ok := by
  induction l with
  | nil => exact fun d ok _ _ => ok
  | cons q l ih =>
    intro d ok hq hf
    exact ih (d.part re fts q) (part_ok ok re fts (hq q List.mem_cons_self) (hf q List.mem_cons_self)) (fun x hx => hq x (List.mem_cons_of_mem _ hx)) (fun x hx => hf x (List.mem_cons_of_mem _ hx))
theorem parts_next (re : Int) (fts : List Ft) (d : Dv) (l : List Int) (i : Nat) (q : Int) (h : l[i]? = some q) : d.parts re fts (l.take (i + 1)) = (d.parts re fts (l.take i)).part re fts q := by
  unfold Dv.parts
  rw [List.take_add_one, h, List.foldl_append]
  rfl
theorem crash_ok {d : Dv} (ok : d.Ok) (re : Int) (fts : List Ft) (hf : ∀ q ∈ d.un, fateFit d.p (fateOf re fts q)) : (d.crash re fts).Ok := by
  have h := parts_ok re fts d.un d ok ok.unr hf
  exact ⟨h.p1, h.p2, h.s1, h.s2, h.r1, h.r2, h.sz, h.len, h.byte, h.wl, fun q hq => by simp [Dv.crash] at hq, h.flk, h.fll⟩
/-- Where no fates are told, the rest's. -/
theorem fate_none (re q : Int) : fateOf re [] q = (re, 0) := rfl
theorem part_kept {d : Dv} (ok : d.Ok) {q : Int} : (d.part 1 [] q) = d := by
  unfold Dv.part
  rw [fate_none]
  show ({ d with b := putAt d.b (q.toNat * d.p + (keptOf d.p 1 0).toNat) (List.replicate (d.p - (keptOf d.p 1 0).toNat) 255) } : Dv) = d
  have e : (keptOf d.p 1 0).toNat = d.p := by unfold keptOf; rw [if_pos rfl, Int.toNat_natCast]
  rw [e, Nat.sub_self, show List.replicate 0 (255 : Int) = [] from rfl, put_nil]
theorem crash_kept {d : Dv} (ok : d.Ok) : d.crash 1 [] = { d with un := [] } := by
  unfold Dv.crash
  have h : ∀ l : List Int, d.parts 1 [] l = d := fun l => by
    induction l with
    | nil => rfl
    | cons q l ih =>
      show (d.part 1 [] q).parts 1 [] l = d
      rw [part_kept ok]
      exact ih
  rw [h]
/-! ### Crash -/
theorem run_cutlo {g off n c k : Nat} (hk : k ≤ n) (hc : n ≤ c) : ∃ A : Addr, (∀ W, (Instr.slice 24 (.slice (some ⟨g, off, none⟩) n c) (some (.int .i64 (k : Int))) none none).run Try.prog W = .ok (.slice (some A) (n - k) (c - k)) W) ∧ (k < n → A = ⟨g, off + k, none⟩) := by
  have hz : ∀ w, (Go.sizeOf 5).run Try.prog w = .ok 1 w := fun w => by kernel_rfl
  have ht' : Try.prog.underlying 24 = some (.slice (Try.prog.elem 24)) := by simp [Program.elem, Try.underlying24]
  have he : Try.prog.elem 24 = 5 := by simp [Program.elem, Try.underlying24]
  by_cases e2 : c = k
  · refine ⟨⟨g, off, none⟩, fun W => ?_, fun h => by omega⟩
    rw [run_slice_l W 24 _ _ _ ht' .i64 _ (by omega) (by omega), he, hz]
    simp [Result.andThen, sliced, e2]
  · by_cases h0 : k = 0
    · subst h0
      refine ⟨⟨g, off, none⟩, fun W => ?_, fun _ => rfl⟩
      rw [run_slice_l W 24 _ _ _ ht' .i64 _ (by omega) (by omega), he, hz]
      simp [Result.andThen, sliced, Addr.add, e2]
    · refine ⟨⟨g, off + k, none⟩, fun W => ?_, fun _ => rfl⟩
      rw [run_slice_l W 24 _ _ _ ht' .i64 _ (by omega) (by omega), he, hz]
      simp [Result.andThen, sliced, Addr.add, h0, e2]
section
variable {B : Nat} {f : Owner} {w : World} {db : Nat} {d : Dv} {im imc : Nat} {vu vf vw : Value}
/-- The end of a page lost. -/
theorem DevG.lost (h : DevG B f w db d im imc vu vf vw) (ok : d.Ok) {n m : Nat} (hn : n < d.pages) (hm : m ≤ d.p) {gb : Nat} (hI : Im w gb d.p (List.replicate d.p 255)) {A : Addr} {c : Nat} (hA : m < d.p → A = ⟨im, n * d.p + m, none⟩) (ty : TypeId) :
    ∃ w', (Builtin.copy_ #[24, 24] ty #[.slice (some A) (d.p - m) c, .slice (some ⟨gb, 0, none⟩) d.p d.p]).run Try.prog w = .ok (goInt ((d.p - m : Nat) : Int)) w' ∧ DevG B f w' db { d with b := putAt d.b (n * d.p + m) (List.replicate (d.p - m) 255) } im imc vu vf vw ∧ Mv B (· = db) f w f w' := by
  have q := page_nums ok n hn
  by_cases h0 : m < d.p
  · obtain rfl := hA h0
    have hl : (List.replicate (d.p - m) (255 : Int)).length = d.p - m := List.length_replicate ..
    have hfit : n * d.p + m + (List.replicate (d.p - m) (255 : Int)).length ≤ d.b.length := by
      rw [hl]
      have := q.1
      have := q.2.1
      omega
    have hC : (Kd.int .u8).C w (some ⟨gb, 0, none⟩) d.p (List.replicate d.p 255) := by
      have hc := hI.cut 0 d.p (by rw [List.length_replicate]; omega) (by rw [List.length_replicate]; have := ok.p2; omega)
      have e : cutOf (List.replicate d.p (255 : Int)) 0 d.p = List.replicate d.p 255 := by unfold cutOf; rw [List.drop_zero, List.take_of_length_le (by rw [List.length_replicate]; omega)]
      rw [e] at hc
      exact hc
    obtain ⟨w', hr, hi, hgr, _⟩ := h.img.copy (n * d.p + m) (List.replicate (d.p - m) 255) hfit (dLen := d.p - m) (dCap := c) (sLen := d.p) (sCap := d.p) (A := some ⟨gb, 0, none⟩) (by rw [hl]; exact (Nat.min_eq_right (Nat.sub_le _ _)).symm) (by rw [hl]; omega) ⟨_, hC, by rw [hl, List.take_replicate, Nat.min_eq_left (Nat.sub_le _ _)]⟩ ty
    rw [hl] at hr
    obtain ⟨g1, g2⟩ := h.setImg (putAt_length d.b _ _ hfit) hi hgr
    exact ⟨w', hr, g1, g2⟩
  · have e : d.p - m = 0 := by omega
    have hr := run_copy_none (P := Try.prog) w 24 24 ty 5 (some A) (some ⟨gb, 0, none⟩) (d.p - m) c d.p d.p Try.underlying24 (by kernel_rfl) (by rw [e]; exact Nat.min_eq_right (Nat.zero_le _))
    refine ⟨w, by rw [hr, e]; rfl, ?_, Mv.refl _ _ _ _⟩
    rw [e, show List.replicate 0 (255 : Int) = [] from rfl, put_nil]
    exact h
end
theorem part_is {d : Dv} {re : Int} {fts : List Ft} {n m : Nat} {r2 r3 : Int} (hfo : fateOf re fts (n : Int) = (r2, r3)) (hm : keptOf d.p r2 r3 = (m : Int)) : d.part re fts (n : Int) = { d with b := putAt d.b (n * d.p + m) (List.replicate (d.p - m) 255) } := by
  unfold Dv.part
  rw [hfo]
  show ({ d with b := putAt d.b ((n : Int).toNat * d.p + (keptOf d.p r2 r3).toNat) (List.replicate (d.p - (keptOf d.p r2 r3).toNat) 255) } : Dv) = _
  rw [hm, Int.toNat_natCast, Int.toNat_natCast]
section
variable {B : Nat} {f : Owner} {w : World} {db : Nat} {d : Dv}
set_option maxHeartbeats 8000000 in
set_option maxRecDepth 100000 in
theorem crash_walk (h : DevX B f w db d) (ok : d.Ok) (hul : d.un.length < 17592186044416) {st re : Int} {A : Option Addr} {cc : Nat} {fts : List Ft} (hC : ∀ w', Below B w w' → k88.C w' A fts.length fts) (hcc : fts.length ≤ cc) (hfl : fts.length < 4611686018427387904) (hf : ∀ q ∈ d.un, fateFit d.p (fateOf re fts q))
    (KR : ∀ w', Below w.heap.size w w' → Calls Try.prog 44 #[.agg #[.int .i64 d.p, .int .i64 d.s, .int .i64 d.r, .int .i64 d.a], .agg #[.int .i64 st, .int .i64 re, .slice A fts.length cc]] w' (Near w' (.bool true))) :
    Calls Try.prog 25 #[.pointer (some ⟨db, 0, none⟩), .agg #[.int .i64 st, .int .i64 re, .slice A fts.length cc]] w (fun e w' => e = .returned (.int .i64 0) ∧ DevA B f w db (d.crash re fts) w') := by
  have OK := Aside0.mk ok
  have HF := Aside0.mk (And.intro hf (And.intro hul hfl))
  have HC := Aside0.mk (And.intro hC hcc)
  have KRR := Aside0.mk KR
  obtain ⟨w1, hw1⟩ : ∃ w1, w.alloc (.cells #[.int .i64 st, .int .i64 re, .slice A fts.length cc] 51) = w1 := ⟨_, rfl⟩
  have b1 : Below w.heap.size w w1 := by rw [← hw1]; exact below_alloc (Below.refl _ _) _
  have K1 : w1.heap[w.heap.size]? = some (.cells #[.int .i64 st, .int .i64 re, .slice A fts.length cc] 51 (0, 0)) := by rw [← hw1]; exact blk_new w _
  obtain ⟨hx1, hn1, hm1⟩ := h.boxed b1
  have KM := Aside0.mk (hx1.made ok)
  obtain ⟨f1, hf1⟩ : ∃ f1, owns f w.heap.size w.heap.size = f1 := ⟨_, rfl⟩
  rw [hf1] at hx1 hn1 hm1
  have HM1 := Aside0.mk hm1
  have HN1 := Aside0.mk (hn1 w.heap.size (Nat.le_refl _))
  have B1 := Aside0.mk b1
  obtain ⟨im, imc, vu, vf, vw, hg⟩ := hx1
  have HG := Aside0.mk hg
  obtain ⟨lf, hlf⟩ : ∃ lf, fts.length = lf := ⟨_, rfl⟩
  have HLF := Aside0.mk hlf
  rw [hlf] at K1 hw1 KRR HC
  rw [hlf]
  have g0 : w1.cell? ⟨db, 0, none⟩ = some (.int .i64 d.p) := hg.at_ 0
  have g1 : w1.cell? ⟨db, 1, none⟩ = some (.int .i64 d.s) := hg.at_ 1
  have g2 : w1.cell? ⟨db, 2, none⟩ = some (.int .i64 d.r) := hg.at_ 2
  have g3 : w1.cell? ⟨db, 3, none⟩ = some (.int .i64 d.a) := hg.at_ 3
  have LW : Aside0 (B ≤ w.heap.size) := ⟨h.size.1⟩
  clear h ok hul hC hcc hfl hf KR b1 hn1 hm1 hf1 hg hlf
  go_enter Try.func25, Try.ntmps25
  go_upto_region 1 with (fail)
  clear hw1
  obtain ⟨bx, hbx⟩ : ∃ bx, w.heap.size = bx := ⟨_, rfl⟩
  rw [hbx] at K1 HN1
  rw [hbx]
  have KX := Aside0.mk K1
  have c0 : w1.cell? ⟨bx, 0, none⟩ = some (.int .i64 st) := blk_cell K1 0
  have c1 : w1.cell? ⟨bx, 1, none⟩ = some (.int .i64 re) := blk_cell K1 1
  have c2 : w1.cell? ⟨bx, 2, none⟩ = some (.slice A lf cc) := blk_cell K1 2
  clear K1 hbx
  go_upto_region 3 with (go_at_call 39; refine KM.out.mono ?_; rintro e w' ⟨rfl, rfl⟩)
  refine start_ (n := 7) (S := fun w' => w'.cell? ⟨db, 0, none⟩ = some (.int .i64 d.p) ∧ w'.cell? ⟨db, 1, none⟩ = some (.int .i64 d.s) ∧ w'.cell? ⟨db, 2, none⟩ = some (.int .i64 d.r) ∧ w'.cell? ⟨db, 3, none⟩ = some (.int .i64 d.a) ∧ w'.cell? ⟨bx, 0, none⟩ = some (.int .i64 st) ∧ w'.cell? ⟨bx, 1, none⟩ = some (.int .i64 re) ∧ w'.cell? ⟨bx, 2, none⟩ = some (.slice A lf cc)) (ds := []) #[F,F,F,F,F,F,F] (by kernel_rfl) rfl rfl (⟨g0, g1, g2, g3, c0, c1, c2⟩) (fun hHeld => ?_)
  generalize hwd : w1.drew = wd at hHeld ⊢
  have BD : Aside0 (Below w1.heap.size w1 wd) := ⟨by rw [← hwd]; exact below_drew (Below.refl _ _)⟩
  clear hwd
  refine pure_ (i := 0) (N := some 12) (v := ?_) (a' := ?_) #[T,F,F,F,F,F,F] rfl rfl (by kernel_rfl) (fun _ _ _ h => h) (Or.inl ⟨by rfl, ?_⟩) ?_ ?_
  rotate_left
  · intro w'
    go_simp
    with_reducible rfl
  rotate_left
  · simp only [Act.put, sA, s0_, sS, i64_w, i32_w]
    rfl
  refine pure_ (i := 1) (N := some 13) (v := ?_) (a' := ?_) #[T,T,F,F,F,F,F] rfl rfl (by kernel_rfl) (fun _ _ _ h => h) (Or.inl ⟨by rfl, ?_⟩) ?_ ?_
  rotate_left
  · intro w'
    go_simp
    with_reducible rfl
  rotate_left
  · simp only [Act.put, sA, s0_, sS, i64_w, i32_w]
    rfl
  refine pure_ (i := 2) (N := some 14) (v := ?_) (a' := ?_) #[T,T,T,F,F,F,F] rfl rfl (by kernel_rfl) (fun _ _ _ h => h) (Or.inl ⟨by rfl, ?_⟩) ?_ ?_
  rotate_left
  · intro w'
    go_simp
    with_reducible rfl
  rotate_left
  · simp only [Act.put, sA, s0_, sS, i64_w, i32_w]
    rfl
  refine take_ (i := 3) (N := some 15) (v := ?_) (a' := ?_) #[T,T,T,T,F,F,F] rfl rfl (by kernel_rfl) (fun _ _ _ h => h) (Or.inl ⟨by rfl, ?_⟩) hHeld ?_ ?_
  rotate_left
  · intro w' s0
    obtain ⟨s1, s2, s3, s4, s5, s6, s7⟩ := s0
    go_simp
    with_reducible rfl
  rotate_left
  · simp only [Act.put, sA, s0_, sS, i64_w, i32_w]
    rfl
  refine take_ (i := 4) (N := some 16) (v := ?_) (a' := ?_) #[T,T,T,T,T,F,F] rfl rfl (by kernel_rfl) (fun _ _ _ h => h) (Or.inl ⟨by rfl, ?_⟩) hHeld ?_ ?_
  rotate_left
  · intro w' s0
    obtain ⟨s1, s2, s3, s4, s5, s6, s7⟩ := s0
    go_simp
    with_reducible rfl
  rotate_left
  · simp only [Act.put, sA, s0_, sS, i64_w, i32_w]
    rfl
  refine one_ (i := 5) (N := some 17) #[T,T,T,T,T,T,F] rfl rfl (by kernel_rfl) (by decide) (fun K hK => ?_)
  refine goes_ Try.func44 (by kernel_rfl) rfl #[.agg #[.int .i64 d.p, .int .i64 d.s, .int .i64 d.r, .int .i64 d.a], .agg #[.int .i64 st, .int .i64 re, .slice A lf cc]] (by rfl) rfl rfl (by (try simp only [List.map_toArray, List.map_cons, List.map_nil]); first | done | rfl) ?_
  with_reducible refine (KRR.out wd (B1.out.trans (BD.out.mono B1.out.size))).mono ?_
  rintro e w2 ⟨rfl, hb2⟩
  refine ⟨_, rfl, ?_⟩
  refine hK.out _ _ (by exact ⟨pw_cell_below (BD.out.trans (hb2.mono BD.out.size)) g0, pw_cell_below (BD.out.trans (hb2.mono BD.out.size)) g1, pw_cell_below (BD.out.trans (hb2.mono BD.out.size)) g2, pw_cell_below (BD.out.trans (hb2.mono BD.out.size)) g3, pw_cell_below (BD.out.trans (hb2.mono BD.out.size)) c0, pw_cell_below (BD.out.trans (hb2.mono BD.out.size)) c1, pw_cell_below (BD.out.trans (hb2.mono BD.out.size)) c2⟩) (fun hHeld => ?_)
  clear hK K
  refine norm_ (a' := ?_) ?_ ?_
  rotate_left
  · show Act.put _ (some 17) _ = _
    simp only [Act.put, sA, s0_, sS, i64_w, i32_w]
    rfl
  have B2 := Aside0.mk (BD.out.trans (hb2.mono BD.out.size))
  clear hb2
  refine pure_ (i := 6) (N := some 18) (v := ?_) (a' := ?_) #[T,T,T,T,T,T,T] rfl rfl (by kernel_rfl) (fun _ _ _ h => h) (Or.inl ⟨by rfl, ?_⟩) ?_ ?_
  rotate_left
  · intro w'
    go_simp
    with_reducible rfl
  rotate_left
  · simp only [Act.put, sA, s0_, sS, i64_w, i32_w]
    rfl
  refine done_ (by kernel_rfl) ?_
  clear hHeld g0 g1 g2 g3 c0 c1 c2
  have HG2 := Aside0.mk (HG.out.below B2.out)
  obtain ⟨Au, cu, ev⟩ := Kd.R_slice HG.out.un
  subst ev
  obtain ⟨nu, hnu⟩ : ∃ nu, d.un.length = nu := ⟨_, rfl⟩
  have HNU := Aside0.mk hnu
  have c5 : w2.cell? ⟨db, 5, none⟩ = some (.slice Au nu cu) := by rw [← hnu]; exact HG2.out.at_ 5
  have hnu44 : nu < 17592186044416 := by rw [← hnu]; exact HF.out.2.1
  have SW : Aside0 (DevG B f1 w2 db (d.parts re fts (d.un.take 0)) im imc (.slice Au d.un.length cu) vf vw ∧ Mv B (· = db) f1 w1 f1 w2) := ⟨⟨HG2.out, Mv.of_below B2.out (Nat.le_trans LW.out B1.out.size) (fun _ _ => rfl)⟩⟩
  clear hnu KRR HG2
  go_wp2
  clear c5
  go_loopw [24] (fun v wr => ∃ i : Nat, i ≤ nu ∧ v = .int .i64 (i : Int) ∧ Aside0 (DevG B f1 wr db (d.parts re fts (d.un.take i)) im imc (.slice Au d.un.length cu) vf vw ∧ Mv B (· = db) f1 w1 f1 wr)) (fun v _ => nu - (intOf v).toNat)
  case atStart => exact ⟨0, Nat.zero_le _, rfl, SW⟩
  case round =>
    obtain ⟨i, hi, rfl, S⟩ := hrel
    by_cases hlt : i < nu
    · have m0 : (0 : Int) ≤ (i : Int) := Int.natCast_nonneg i
      have m1 : (i : Int) < (nu : Int) := Int.ofNat_lt.2 hlt
      have g2 : decide ((i : Int) < (nu : Int)) = true := decide_eq_true m1
      have hq := rd_get d.un i (by rw [HNU.out]; exact hlt)
      have hmem := List.mem_of_getElem? hq
      have hr0 := OK.out.unr _ hmem
      have hfit := HF.out.1 _ hmem
      have hnx := parts_next re fts d d.un i _ hq
      have okp := parts_ok re fts (d.un.take i) d OK.out (fun q hq => OK.out.unr q (List.mem_of_mem_take hq)) (fun q hq => HF.out.1 q (List.mem_of_mem_take hq))
      obtain ⟨bi, hbi⟩ := parts_same re fts (d.un.take i) d
      obtain ⟨di, hdi⟩ : ∃ di, d.parts re fts (d.un.take i) = di := ⟨_, rfl⟩
      have HDI : Aside0 (di.un = d.un ∧ di.p = d.p ∧ di.pages = d.pages) := ⟨by rw [← hdi, hbi]; exact ⟨rfl, rfl, rfl⟩⟩
      rw [hdi] at S hnx okp
      have OKI := Aside0.mk okp
      obtain ⟨q, hqq⟩ : ∃ q, rd d.un (i : Int) = q := ⟨_, rfl⟩
      have hrow : (Kd.int .i64).R 3 wr B (fun k => f1 k = db) (.slice Au nu cu) d.un := by
        have h := S.out.1.un
        rw [HDI.out.1, HNU.out] at h
        exact h
      obtain ⟨ad, eA, k0⟩ := Kd.at_int (R_C hrow).1 (i : Int) m0 m1
      subst eA
      rw [Int.toNat_natCast, hqq] at k0
      rw [hqq] at hr0 hfit hnx
      obtain ⟨⟨r1, r2, r3⟩, hsaid⟩ : ∃ x, fateSaid q re (fts.find? fun f => f.f0 == q) = x := ⟨_, rfl⟩
      have hfo : fateOf re fts q = (r2, r3) := by unfold fateOf; rw [hsaid]
      rw [hfo] at hfit
      have hkl : 0 ≤ keptOf d.p r2 r3 ∧ keptOf d.p r2 r3 ≤ (d.p : Int) := kept_le hfit
      obtain ⟨m, hm⟩ : ∃ m : Nat, keptOf d.p r2 r3 = (m : Int) := ⟨(keptOf d.p r2 r3).toNat, by omega⟩
      obtain ⟨n, hn⟩ : ∃ n : Nat, q = (n : Int) := ⟨q.toNat, by omega⟩
      subst hn
      have hmp : m ≤ d.p := by omega
      have hnp : n < d.pages := by omega
      have NX : Aside0 (d.parts re fts (d.un.take (i + 1)) = { di with b := putAt di.b (n * di.p + m) (List.replicate (di.p - m) 255) }) := ⟨by
        rw [hnx]
        exact part_is hfo (by rw [HDI.out.2.1]; exact hm)⟩
      have KF := Aside0.mk (flash_fate.calls (fts.length + 1) st re A cc fts (n : Int) r1 r2 r3 wr (by rw [HLF.out]; exact HC.out.1 wr ((HM1.out.below).trans S.out.2.below)) (by rw [HLF.out]; exact HC.out.2) (by rw [fate_eq fts (n : Int) st re HF.out.2.2, hsaid]))
      rw [HLF.out] at KF
      have bxw := S.out.2.blk KX.out HN1.out
      have c0 := blk_cell bxw 0
      have c1 := blk_cell bxw 1
      have c2 := blk_cell bxw 2
      have HK : Aside0 (fateFit d.p (r2, r3) ∧ keptOf d.p r2 r3 = (m : Int) ∧ m ≤ d.p ∧ n < d.pages) := ⟨⟨hfit, hm, hmp, hnp⟩⟩
      have LT := Aside0.mk hlt
      clear hq hmem hr0 hfit hnx okp hbi hdi hrow hqq hsaid hfo hkl hm hmp hnp bxw
      go_upto_region 9 with (go_at_call 45; refine KF.out.mono ?_; rintro e w3 ⟨rfl, hb3⟩; have B3 := Aside0.mk hb3; clear hb3)
      obtain ⟨w4, hw4⟩ : ∃ w4, w3.alloc (.cells #[.int .i64 r1, .int .i64 r2, .int .i64 r3] 88) = w4 := ⟨_, rfl⟩
      have b4 : Below w3.heap.size w3 w4 := by rw [← hw4]; exact below_alloc (Below.refl _ _) _
      have K4 : w4.heap[w3.heap.size]? = some (.cells #[.int .i64 r1, .int .i64 r2, .int .i64 r3] 88 (0, 0)) := by rw [← hw4]; exact blk_new w3 _
      rw [hw4]
      have B4 := Aside0.mk (B3.out.trans (b4.mono B3.out.size))
      obtain ⟨b7, hb7⟩ : ∃ b7, w3.heap.size = b7 := ⟨_, rfl⟩
      rw [hb7] at K4
      rw [hb7]
      have g0 : w4.cell? ⟨db, 0, none⟩ = some (.int .i64 di.p) := (S.out.1.below B4.out).at_ 0
      rw [HDI.out.2.1] at g0
      have y1 : w4.cell? ⟨b7, 1, none⟩ = some (.int .i64 r2) := blk_cell K4 1
      have y2 : w4.cell? ⟨b7, 2, none⟩ = some (.int .i64 r3) := blk_cell K4 2
      have HLK := Aside0.mk (fun (W : World) (mb : Nat) (h : Tells W mb d.p r3) => (show (Instr.lookup 90 (.map (some mb)) (.int .i64 r2) false).run Try.prog W = .ok (.int .i64 (m : Int)) W from by
        have h2 := h r2 HK.out.1.1
        have e : (if r2 = 1 then (d.p : Int) else if r2 = 3 then r3 else 0) = (m : Int) := HK.out.2.1
        rw [e] at h2
        exact h2))
      have HWF : Aside0 ((Lit.int .i64 (d.p : Int)).wf = true ∧ (Lit.int .i64 r3).wf = true) := ⟨by
        have h1 := OK.out.p2
        obtain ⟨_, h2, h3⟩ := HK.out.1
        exact ⟨wf_small (by omega) (by omega), wf_small (by have h4 : 0 ≤ r3 := h2; omega) (by have h4 : r3 ≤ (d.p : Int) := h3; omega)⟩⟩
      clear hw4 b4 hb7 K4 c0 c1 c2 k0
      refine start_ (n := 15) (S := fun w' => w'.cell? ⟨db, 0, none⟩ = some (.int .i64 d.p) ∧ w'.cell? ⟨b7, 1, none⟩ = some (.int .i64 r2) ∧ w'.cell? ⟨b7, 2, none⟩ = some (.int .i64 r3)) (ds := []) #[F,F,F,F,F,F,F,F,F,F,F,F,F,F,F] (by kernel_rfl) rfl rfl (⟨g0, y1, y2⟩) (fun hHeld => ?_)
      generalize hwd : w4.drew = wd at hHeld ⊢
      have BD : Aside0 (Below w4.heap.size w4 wd) := ⟨by rw [← hwd]; exact below_drew (Below.refl _ _)⟩
      clear hwd g0 y1 y2
      obtain ⟨g0, y1, y2⟩ := hHeld
      have hHeld : wd.cell? ⟨db, 0, none⟩ = some (.int .i64 d.p) ∧ wd.cell? ⟨b7, 1, none⟩ = some (.int .i64 r2) ∧ wd.cell? ⟨b7, 2, none⟩ = some (.int .i64 r3) := ⟨g0, y1, y2⟩
      refine pure_ (i := 1) (N := some 32) (v := ?_) (a' := ?_) #[F,T,F,F,F,F,F,F,F,F,F,F,F,F,F] rfl rfl (by kernel_rfl) (fun _ _ _ h => h) (Or.inl ⟨by rfl, ?_⟩) ?_ ?_
      rotate_left
      · intro w'
        go_simp
        with_reducible rfl
      rotate_left
      · simp only [Act.put, sA, s0_, sS, i64_w, i32_w]
        rfl
      refine pure_ (i := 2) (N := some 33) (v := ?_) (a' := ?_) #[F,T,T,F,F,F,F,F,F,F,F,F,F,F,F] rfl rfl (by kernel_rfl) (fun _ _ _ h => h) (Or.inl ⟨by rfl, ?_⟩) ?_ ?_
      rotate_left
      · intro w'
        go_simp
        with_reducible rfl
      rotate_left
      · simp only [Act.put, sA, s0_, sS, i64_w, i32_w]
        rfl
      refine pure_ (i := 3) (N := some 34) (v := ?_) (a' := ?_) #[F,T,T,T,F,F,F,F,F,F,F,F,F,F,F] rfl rfl (by kernel_rfl) (fun _ _ _ h => h) (Or.inl ⟨by rfl, ?_⟩) ?_ ?_
      rotate_left
      · intro w'
        go_simp
        with_reducible rfl
      rotate_left
      · simp only [Act.put, sA, s0_, sS, i64_w, i32_w]
        rfl
      refine pure_ (i := 4) (N := some 35) (v := ?_) (a' := ?_) #[F,T,T,T,T,F,F,F,F,F,F,F,F,F,F] rfl rfl (by kernel_rfl) (fun _ _ _ h => h) (Or.inl ⟨by rfl, ?_⟩) ?_ ?_
      rotate_left
      · intro w'
        go_simp
        with_reducible rfl
      rotate_left
      · simp only [Act.put, sA, s0_, sS, i64_w, i32_w]
        rfl
      refine take_ (i := 5) (N := some 36) (v := ?_) (a' := ?_) #[F,T,T,T,T,T,F,F,F,F,F,F,F,F,F] rfl rfl (by kernel_rfl) (fun _ _ _ h => h) (Or.inl ⟨by rfl, ?_⟩) hHeld ?_ ?_
      rotate_left
      · intro w' s0
        obtain ⟨s1, s2, s3⟩ := s0
        go_simp
        with_reducible rfl
      rotate_left
      · simp only [Act.put, sA, s0_, sS, i64_w, i32_w]
        rfl
      refine pure_ (i := 7) (N := some 37) (v := ?_) (a' := ?_) #[F,T,T,T,T,T,F,T,F,F,F,F,F,F,F] rfl rfl (by kernel_rfl) (fun _ _ _ h => h) (Or.inl ⟨by rfl, ?_⟩) ?_ ?_
      rotate_left
      · intro w'
        go_simp
        with_reducible rfl
      rotate_left
      · simp only [Act.put, sA, s0_, sS, i64_w, i32_w]
        rfl
      refine take_ (i := 8) (N := some 38) (v := ?_) (a' := ?_) #[F,T,T,T,T,T,F,T,T,F,F,F,F,F,F] rfl rfl (by kernel_rfl) (fun _ _ _ h => h) (Or.inl ⟨by rfl, ?_⟩) hHeld ?_ ?_
      rotate_left
      · intro w' s0
        obtain ⟨s1, s2, s3⟩ := s0
        go_simp
        with_reducible rfl
      rotate_left
      · simp only [Act.put, sA, s0_, sS, i64_w, i32_w]
        rfl
      refine pure_ (i := 11) (N := some 40) (v := ?_) (a' := ?_) #[F,T,T,T,T,T,F,T,T,F,F,T,F,F,F] rfl rfl (by kernel_rfl) (fun _ _ _ h => h) (Or.inl ⟨by rfl, ?_⟩) ?_ ?_
      rotate_left
      · intro w'
        go_simp
        with_reducible rfl
      rotate_left
      · simp only [Act.put, sA, s0_, sS, i64_w, i32_w]
        rfl
      refine take_ (i := 12) (N := some 41) (v := ?_) (a' := ?_) #[F,T,T,T,T,T,F,T,T,F,F,T,T,F,F] rfl rfl (by kernel_rfl) (fun _ _ _ h => h) (Or.inl ⟨by rfl, ?_⟩) hHeld ?_ ?_
      rotate_left
      · intro w' s0
        obtain ⟨s1, s2, s3⟩ := s0
        go_simp
        with_reducible rfl
      rotate_left
      · simp only [Act.put, sA, s0_, sS, i64_w, i32_w]
        rfl
      have hmk : (Instr.makeMap 90 none).run Try.prog wd = .ok (.map (some wd.heap.size)) (wd.alloc (.map #[] 0)) := rfl
      refine one_ (i := 0) (N := some 31) #[T,T,T,T,T,T,F,T,T,F,F,T,T,F,F] rfl rfl (by kernel_rfl) (by decide) (fun K hK => ?_)
      refine value_ (w1 := wd.alloc (.map #[] 0)) (v := .map (some wd.heap.size)) (by rfl) rfl (by simp [execOp, Act.eval, hmk, Result.andThen]) ?_
      refine hK.out _ _ (by exact ⟨pw_cell_below (below_alloc (Below.refl wd.heap.size wd) _) g0, pw_cell_below (below_alloc (Below.refl wd.heap.size wd) _) y1, pw_cell_below (below_alloc (Below.refl wd.heap.size wd) _) y2⟩) (fun hHeld => ?_)
      clear hK K
      refine norm_ (a' := ?_) ?_ ?_
      rotate_left
      · show Act.put _ (some 31) _ = _
        simp only [Act.put, sA, s0_, sS, i64_w, i32_w]
        rfl
      clear hmk
      have OM := Aside0.mk (lit_start wd)
      have BM := Aside0.mk (below_alloc (Below.refl wd.heap.size wd) (.map #[] 0))
      generalize hwm : wd.alloc (.map #[] 0) = wm at OM BM hHeld ⊢
      have LM : Aside0 (wd.heap.size ≤ wd.heap.size) := ⟨Nat.le_refl _⟩
      clear hwm
      obtain ⟨mb, hmb⟩ : ∃ mb, wd.heap.size = mb := ⟨_, rfl⟩
      have HMB := Aside0.mk hmb
      rw [hmb] at OM
      rw [hmb]
      clear hmb LM
      refine join_ (σ := Unit) 3 #[T,T,T,T,T,T,T,T,T,T,F,T,T,F,F] (fun _ => []) (fun _ w' => Below wd.heap.size wd w' ∧ Tells w' mb d.p r3) ?_ ?_
      rotate_left
      · intro hCont
        refine two_ (i := 6) (j := 9) (Ni := none) (Nj := none) #[T,T,T,T,T,T,T,T,T,F,F,T,T,F,F] #[T,T,T,T,T,T,F,T,T,T,F,T,T,F,F] rfl rfl rfl rfl (by kernel_rfl) (by decide) (by decide) (fun K hK => ?_) (fun K hK => ?_)
        · skip
          obtain ⟨wa, ra, ga, wb, rb, gb, hT⟩ := lit_13 OM.out d.p r3 HWF.out.1 HWF.out.2
          have ba := BM.out.grown ga BM.out.size (fun k hk => by injection hk with hk; rw [← hk, ← HMB.out]; exact Nat.le_refl _)
          have bb := ba.grown gb ba.size (fun k hk => by injection hk with hk; rw [← hk, ← HMB.out]; exact Nat.le_refl _)
          refine skip_ (w1 := wa) (by rfl) rfl (by simp [execOp, Act.eval, ra, Result.andThen]) ?_
          refine hK.out _ _ (by exact ⟨pw_cell_below ba g0, pw_cell_below ba y1, pw_cell_below ba y2⟩) (fun hHeld => ?_)
          clear hK K
          refine one_ (i := 9) (N := none) #[T,T,T,T,T,T,T,T,T,T,F,T,T,F,F] rfl rfl (by kernel_rfl) (by decide) (fun K hK => ?_)
          refine skip_ (w1 := wb) (by rfl) rfl (by simp [execOp, Act.eval, rb, Result.andThen]) ?_
          refine hK.out _ _ (by exact ⟨pw_cell_below bb g0, pw_cell_below bb y1, pw_cell_below bb y2⟩) (fun hHeld => ?_)
          clear hK K
          exact norm_ (by simp only [putAll, Act.put, sA, s0_, sS]) (hCont () _ ⟨bb, hT⟩)
        · skip
          obtain ⟨wa, ra, ga, wb, rb, gb, hT⟩ := lit_31 OM.out d.p r3 HWF.out.1 HWF.out.2
          have ba := BM.out.grown ga BM.out.size (fun k hk => by injection hk with hk; rw [← hk, ← HMB.out]; exact Nat.le_refl _)
          have bb := ba.grown gb ba.size (fun k hk => by injection hk with hk; rw [← hk, ← HMB.out]; exact Nat.le_refl _)
          refine skip_ (w1 := wa) (by rfl) rfl (by simp [execOp, Act.eval, ra, Result.andThen]) ?_
          refine hK.out _ _ (by exact ⟨pw_cell_below ba g0, pw_cell_below ba y1, pw_cell_below ba y2⟩) (fun hHeld => ?_)
          clear hK K
          refine one_ (i := 6) (N := none) #[T,T,T,T,T,T,T,T,T,T,F,T,T,F,F] rfl rfl (by kernel_rfl) (by decide) (fun K hK => ?_)
          refine skip_ (w1 := wb) (by rfl) rfl (by simp [execOp, Act.eval, rb, Result.andThen]) ?_
          refine hK.out _ _ (by exact ⟨pw_cell_below bb g0, pw_cell_below bb y1, pw_cell_below bb y2⟩) (fun hHeld => ?_)
          clear hK K
          exact norm_ (by simp only [putAll, Act.put, sA, s0_, sS]) (hCont () _ ⟨bb, hT⟩)
      intro _ wt hF
      obtain ⟨hbt, hT⟩ := hF
      have BT := Aside0.mk (BD.out.trans (hbt.mono BD.out.size))
      have hHeld : wt.cell? ⟨db, 0, none⟩ = some (.int .i64 d.p) ∧ wt.cell? ⟨b7, 1, none⟩ = some (.int .i64 r2) ∧ wt.cell? ⟨b7, 2, none⟩ = some (.int .i64 r3) := ⟨pw_cell_below hbt g0, pw_cell_below hbt y1, pw_cell_below hbt y2⟩
      have hlook := HLK.out wt mb hT
      clear hT hbt g0 y1 y2
      refine norm_ (a' := ?_) ?_ ?_
      rotate_left
      · simp only [putAll, Act.put, sA, s0_, sS]
        rfl
      refine pure_ (i := 10) (N := some 39) (v := ?_) (a' := ?_) #[T,T,T,T,T,T,T,T,T,T,T,T,T,F,F] rfl rfl (by kernel_rfl) (fun _ _ _ h => h) (Or.inl ⟨by rfl, ?_⟩) ?_ ?_
      rotate_left
      · intro w'
        go_simp
        with_reducible rfl
      rotate_left
      · simp only [Act.put, sA, s0_, sS, i64_w, i32_w]
        rfl
      refine one_ (i := 13) (N := some 42) #[T,T,T,T,T,T,T,T,T,T,T,T,T,T,F] rfl rfl (by kernel_rfl) (by decide) (fun K hK => ?_)
      refine value_ (w1 := wt) (v := .int .i64 (m : Int)) (by rfl) rfl (by simp [execOp, Act.eval, hlook, Result.andThen]) ?_
      refine hK.out _ _ (hHeld) (fun hHeld => ?_)
      clear hK K
      refine norm_ (a' := ?_) ?_ ?_
      rotate_left
      · show Act.put _ (some 42) _ = _
        simp only [Act.put, sA, s0_, sS, i64_w, i32_w]
        rfl
      refine pure_ (i := 14) (N := some 8) (v := ?_) (a' := ?_) #[T,T,T,T,T,T,T,T,T,T,T,T,T,T,T] rfl rfl (by kernel_rfl) (fun _ _ _ h => h) (Or.inl ⟨by rfl, ?_⟩) ?_ ?_
      rotate_left
      · intro w'
        go_simp
        with_reducible rfl
      rotate_left
      · simp only [Act.put, sA, s0_, sS, i64_w, i32_w]
        rfl
      refine done_ (by kernel_rfl) ?_
      clear hlook HLK HWF
      obtain ⟨g0, _, _⟩ := hHeld
      have WT : Aside0 (Below wr.heap.size wr wt) := ⟨B4.out.trans (BT.out.mono B4.out.size)⟩
      have GT := Aside0.mk (S.out.1.below WT.out)
      have MT := Aside0.mk (S.out.2.trans (Mv.of_below (B := B) (o := (· = db)) (f := f1) (f1 := f1) WT.out (Nat.le_trans (Nat.le_trans LW.out B1.out.size) S.out.2.below.size) (fun _ _ => rfl)))
      have KP := Aside0.mk (fun (w' : World) (hb : Below wt.heap.size wt w') => (show Calls Try.prog 46 #[.pointer (some ⟨db, 0, none⟩), .int .i64 (n : Int)] w' (fun en w'' => ∃ off cp, en = .returned (.slice (some ⟨im, off, none⟩) d.p cp) ∧ Below w'.heap.size w' w'' ∧ off = n * di.p ∧ d.p ≤ cp) from by
        have hn : n < di.pages := by rw [HDI.out.2.2]; exact HK.out.2.2.2
        refine (page_walk (GT.out.below hb) OKI.out n hn).mono ?_
        rintro e w'' ⟨he, hd⟩
        rw [HDI.out.2.1] at he
        have pn := page_nums OKI.out n hn
        rw [HDI.out.2.1] at pn
        have hcap : di.b.length ≤ imc := by obtain ⟨_, _, h, _, _⟩ := GT.out.img; exact h
        exact ⟨n * d.p, imc - n * d.p, he, hd.below, by rw [HDI.out.2.1], by have := pn.1; have := pn.2.1; omega⟩))
      have KB := Aside0.mk (fun (w' : World) => blank_walk (w := w') (n := d.p) (by have := OK.out.p1; omega) (by have := OK.out.p2; omega))
      go_upto_region 10 with (fail)
      refine start_ (n := 12) (S := fun w' => w'.cell? ⟨db, 0, none⟩ = some (.int .i64 d.p)) (ds := [11]) #[F,F,F,F,F,F,F,F,F,F,F,F] (by kernel_rfl) rfl rfl (g0) (fun hHeld => ?_)
      generalize hwd : wt.drew = wd at hHeld ⊢
      have BD : Aside0 (Below wt.heap.size wt wd) := ⟨by rw [← hwd]; exact below_drew (Below.refl _ _)⟩
      clear hwd g0
      have g0 := hHeld
      have g0' := (S.out.1.below WT.out).at_ 0
      refine pure_ (i := 0) (N := some 43) (v := ?_) (a' := ?_) #[T,F,F,F,F,F,F,F,F,F,F,F] rfl rfl (by kernel_rfl) (fun _ _ _ h => h) (Or.inl ⟨by rfl, ?_⟩) ?_ ?_
      rotate_left
      · intro w'
        go_simp
        with_reducible rfl
      rotate_left
      · simp only [Act.put, sA, s0_, sS, i64_w, i32_w]
        rfl
      refine pure_ (i := 1) (N := some 44) (v := ?_) (a' := ?_) #[T,T,F,F,F,F,F,F,F,F,F,F] rfl rfl (by kernel_rfl) (fun _ _ _ h => h) (Or.inl ⟨by rfl, ?_⟩) ?_ ?_
      rotate_left
      · intro w'
        go_simp
        with_reducible rfl
      rotate_left
      · simp only [Act.put, sA, s0_, sS, i64_w, i32_w]
        rfl
      refine pure_ (i := 3) (N := some 46) (v := ?_) (a' := ?_) #[T,T,F,T,F,F,F,F,F,F,F,F] rfl rfl (by kernel_rfl) (fun _ _ _ h => h) (Or.inl ⟨by rfl, ?_⟩) ?_ ?_
      rotate_left
      · intro w'
        go_simp
        with_reducible rfl
      rotate_left
      · simp only [Act.put, sA, s0_, sS, i64_w, i32_w]
        rfl
      refine pure_ (i := 5) (N := some 48) (v := ?_) (a' := ?_) #[T,T,F,T,F,T,F,F,F,F,F,F] rfl rfl (by kernel_rfl) (fun _ _ _ h => h) (Or.inl ⟨by rfl, ?_⟩) ?_ ?_
      rotate_left
      · intro w'
        go_simp
        with_reducible rfl
      rotate_left
      · simp only [Act.put, sA, s0_, sS, i64_w, i32_w]
        rfl
      refine pure_ (i := 6) (N := some 49) (v := ?_) (a' := ?_) #[T,T,F,T,F,T,T,F,F,F,F,F] rfl rfl (by kernel_rfl) (fun _ _ _ h => h) (Or.inl ⟨by rfl, ?_⟩) ?_ ?_
      rotate_left
      · intro w'
        go_simp
        with_reducible rfl
      rotate_left
      · simp only [Act.put, sA, s0_, sS, i64_w, i32_w]
        rfl
      refine pure_ (i := 7) (N := some 50) (v := ?_) (a' := ?_) #[T,T,F,T,F,T,T,T,F,F,F,F] rfl rfl (by kernel_rfl) (fun _ _ _ h => h) (Or.inl ⟨by rfl, ?_⟩) ?_ ?_
      rotate_left
      · intro w'
        go_simp
        with_reducible rfl
      rotate_left
      · simp only [Act.put, sA, s0_, sS, i64_w, i32_w]
        rfl
      refine pure_ (i := 8) (N := some 51) (v := ?_) (a' := ?_) #[T,T,F,T,F,T,T,T,T,F,F,F] rfl rfl (by kernel_rfl) (fun _ _ _ h => h) (Or.inl ⟨by rfl, ?_⟩) ?_ ?_
      rotate_left
      · intro w'
        go_simp
        with_reducible rfl
      rotate_left
      · simp only [Act.put, sA, s0_, sS, i64_w, i32_w]
        rfl
      refine take_ (i := 9) (N := some 52) (v := ?_) (a' := ?_) #[T,T,F,T,F,T,T,T,T,T,F,F] rfl rfl (by kernel_rfl) (fun _ _ _ h => h) (Or.inl ⟨by rfl, ?_⟩) hHeld ?_ ?_
      rotate_left
      · intro w' s0
        go_simp
        with_reducible rfl
      rotate_left
      · simp only [Act.put, sA, s0_, sS, i64_w, i32_w]
        rfl
      refine one_ (i := 2) (N := some 45) #[T,T,T,T,F,T,T,T,T,T,F,F] rfl rfl (by kernel_rfl) (by decide) (fun K hK => ?_)
      refine goes_ Try.func46 (by kernel_rfl) rfl #[.pointer (some ⟨db, 0, none⟩), .int .i64 (n : Int)] (by rfl) rfl rfl (by (try simp only [List.map_toArray, List.map_cons, List.map_nil]); first | done | rfl) ?_
      with_reducible refine (KP.out wd BD.out).mono ?_
      rintro e w5 ⟨off, cp, rfl, hb5, hoff, hcp⟩
      refine ⟨_, rfl, ?_⟩
      obtain ⟨A5, hcut, hA5⟩ := run_cutlo (g := im) (off := off) (n := d.p) (c := cp) HK.out.2.2.1 hcp
      have HA5 := Aside0.mk (And.intro hA5 hoff)
      have B5 := Aside0.mk (BD.out.trans (hb5.mono BD.out.size))
      clear hA5 hoff hcp
      refine hK.out _ _ (by exact pw_cell_below hb5 g0) (fun hHeld => ?_)
      clear hK K
      refine norm_ (a' := ?_) ?_ ?_
      rotate_left
      · show Act.put _ (some 45) _ = _
        simp only [Act.put, sA, s0_, sS, i64_w, i32_w]
        rfl
      clear hb5
      refine pure_ (i := 4) (N := some 47) (v := ?_) (a' := ?_) #[T,T,T,T,T,T,T,T,T,T,F,F] rfl rfl (by kernel_rfl) (fun _ _ _ h => h) (Or.inl ⟨by rfl, ?_⟩) ?_ ?_
      rotate_left
      · intro w'
        go_simp
        with_reducible rfl
      rotate_left
      · simp only [Act.put, sA, s0_, sS, i64_w, i32_w]
        rfl
      refine one_ (i := 10) (N := some 53) #[T,T,T,T,T,T,T,T,T,T,T,F] rfl rfl (by kernel_rfl) (by decide) (fun K hK => ?_)
      refine goes_ Try.func37 (by kernel_rfl) rfl #[.int .i64 d.p] (by rfl) rfl rfl (by (try simp only [List.map_toArray, List.map_cons, List.map_nil]); first | done | rfl) ?_
      with_reducible refine (KB.out w5).mono ?_
      rintro e w6 ⟨gb, rfl, hI, hgb, hb6⟩
      refine ⟨_, rfl, ?_⟩
      obtain ⟨w7, hrun, hG7, hM7⟩ := DevG.lost (GT.out.below (B5.out.trans (hb6.mono B5.out.size))) OKI.out (n := n) (m := m) (by rw [HDI.out.2.2]; exact HK.out.2.2.2) (by rw [HDI.out.2.1]; exact HK.out.2.2.1) (gb := gb) (by rw [HDI.out.2.1]; exact hI) (A := A5) (c := cp - m) (by rw [HDI.out.2.1]; intro h; rw [HA5.out.1 h, HA5.out.2, HDI.out.2.1]) 3
      rw [HDI.out.2.1] at hrun
      have G5 := Aside0.mk (And.intro hG7 ((Mv.of_below (B := B) (o := (· = db)) (f := f1) (f1 := f1) (B5.out.trans (hb6.mono B5.out.size)) (Nat.le_trans GT.out.base (Nat.le_of_lt (blk_lt GT.out.blk))) (fun _ _ => rfl)).trans hM7))
      have B6 := Aside0.mk (B5.out.trans (hb6.mono B5.out.size))
      clear hG7 hM7 hI hgb hb6
      refine hK.out _ _ (by exact (by have h : w6.cell? ⟨db, 0, none⟩ = some (.int .i64 di.p) := (GT.out.below B6.out).at_ 0; rw [HDI.out.2.1] at h; exact h)) (fun hHeld => ?_)
      clear hK K
      refine norm_ (a' := ?_) ?_ ?_
      rotate_left
      · show Act.put _ (some 53) _ = _
        simp only [Act.put, sA, s0_, sS, i64_w, i32_w]
        rfl
      refine last_ (i := 11) (N := some 54) #[T,T,T,T,T,T,T,T,T,T,T,T] rfl rfl (by kernel_rfl) (by decide) (fun K hK => ?_)
      refine value_ (w1 := w7) (v := .int .i64 ((d.p - m : Nat) : Int)) (by rfl) rfl (by simp [execOp, resolve, invoke, builtin, Act.eval, hrun, Result.andThen, goInt]) ?_
      refine hK.out _ _ ?_
      clear hK K
      refine norm_ (a' := ?_) ?_ ?_
      rotate_left
      · show Act.put _ (some 54) _ = _
        simp only [Act.put, sA, s0_, sS, i64_w, i32_w]
        rfl
      clear hrun hcut
      refine done_ (by kernel_rfl) ?_
      have LT2 := LT.out
      go_wp2
      go_roundw
      case rel => exact ⟨i + 1, LT.out, by congr 1 <;> simp, ⟨by rw [NX.out]; exact G5.out.1, MT.out.trans G5.out.2⟩⟩
      case measure =>
        have := LT.out
        simp [intOf]
        omega
    · have hin : i = nu := Nat.le_antisymm hi (Nat.le_of_not_lt hlt)
      have g2 : decide ((i : Int) < (nu : Int)) = false := decide_eq_false (fun h => hlt (Int.ofNat_lt.1 h))
      have SE : Aside0 (DevG B f1 wr db (d.parts re fts d.un) im imc (.slice Au d.un.length cu) vf vw ∧ Mv B (· = db) f1 w1 f1 wr) := ⟨by
        have h := S.out
        rw [hin, ← HNU.out, List.take_length] at h
        exact h⟩
      obtain ⟨k1, k2, k3, k4, k5, k6⟩ := SE.out.1.put 5 (.slice none 0 0) rfl
      have Z : Aside0 (DevA B f w db (d.crash re fts) (wr.setCell ⟨db, 5, none⟩ (.slice none 0 0))) := ⟨f1, ⟨im, imc, _, vf, vw, ⟨k1, SE.out.1.own, SE.out.1.base, k2, SE.out.1.imo, SE.out.1.imb, Kd.R_nil _ _ _ _ _, k4, k5, fun k hk => by simp [Value.ownBlock] at hk⟩⟩, (HM1.out.trans SE.out.2).trans k6⟩
      have y5 := SE.out.1.at_ 5
      have f5 := blk_frozen SE.out.1.blk 5
      have y5' : wr.cell? ⟨db, 5, none⟩ = some (.slice Au d.un.length cu) := y5
      clear k1 k2 k3 k4 k5 k6 y5 S hin
      go_wp2
      go_ret
      exact ⟨rfl, Z.out⟩
end
/-! ### A crash without fates may be -/
set_option maxHeartbeats 4000000 in
set_option maxRecDepth 100000 in
theorem right_nil (w : World) (p s r a re : Int) (hr : re = 1 ∨ re = 2) : Calls Try.prog 44 #[.agg #[.int .i64 p, .int .i64 s, .int .i64 r, .int .i64 a], .agg #[.int .i64 0, .int .i64 re, .slice none 0 0]] w (Near w (.bool true)) := by
  have KW1 := Aside0.mk (fun (w' : World) => flash_within.calls 0 0 2147483647 true w' (within_eq 0 0 2147483647))
  have KW2 := Aside0.mk (fun (w' : World) => flash_within.calls re 1 2 true w' (by rw [within_eq]; rcases hr with h | h <;> rw [h] <;> rfl))
  obtain ⟨w2, hw2⟩ : ∃ w2, (w.alloc (.cells #[.int .i64 p, .int .i64 s, .int .i64 r, .int .i64 a] 23)).alloc (.cells #[.int .i64 0, .int .i64 re, .slice none 0 0] 51) = w2 := ⟨_, rfl⟩
  have B2 : Aside0 (Below w.heap.size w w2) := ⟨by
    rw [← hw2]
    exact (below_alloc (Below.refl w.heap.size w) _).alloc (below_alloc (Below.refl w.heap.size w) _).size _⟩
  have K2 : w2.heap[w.heap.size + 1]? = some (.cells #[.int .i64 0, .int .i64 re, .slice none 0 0] 51 (0, 0)) := by
    rw [← hw2]
    have h := blk_new (w.alloc (.cells #[.int .i64 p, .int .i64 s, .int .i64 r, .int .i64 a] 23)) (.cells #[.int .i64 0, .int .i64 re, .slice none 0 0] 51)
    rw [show (w.alloc (.cells #[.int .i64 p, .int .i64 s, .int .i64 r, .int .i64 a] 23)).heap.size = w.heap.size + 1 by simp] at h
    exact h
  clear hr
  go_enter Try.func44, Try.ntmps44
  go_upto_region 1 with (fail)
  try rw [hw2]
  clear hw2
  generalize w.heap.size + 1 = b1 at K2 ⊢
  have y0 := blk_cell K2 0
  have y1 := blk_cell K2 1
  have y2 := blk_cell K2 2
  clear K2
  go_wp2
  go_loopw [10] (fun idx wr => idx = .int .i64 0 ∧ wr = w2) (fun _ _ => 0)
  case atStart => exact ⟨rfl, rfl⟩
  case round =>
    obtain ⟨rfl, rfl⟩ := hrel
    go_wp2_with (fail)
    go_at_call 66
    refine (KW1.out _).mono ?_
    rintro e w3 ⟨rfl, h3⟩
    have D3 := Aside0.mk h3.below
    have z1 := pw_cell_below h3.below y1
    have z2 := pw_cell_below h3.below y2
    clear h3 y0 y1 y2
    go_wp2_with (fail)
    go_at_call 66
    refine (KW2.out _).mono ?_
    rintro e w4 ⟨rfl, h4⟩
    have D4 := Aside0.mk (D3.out.trans (h4.below.mono D3.out.size))
    have z3 := pw_cell_below h4.below z2
    clear h4 z1 z2
    go_wp2
    go_ret
    exact ⟨rfl, B2.out.trans (D4.out.mono B2.out.size)⟩
end Go.Proofs.Ytnkbebdgkidbjaa.Flash
