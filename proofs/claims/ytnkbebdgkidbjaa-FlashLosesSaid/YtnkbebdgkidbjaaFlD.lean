/- Counts, Load; what is compared; lives.
   No condition. -/
import Derived.Test.YtnkbebdgkidbjaaFlC
import Derived.ArgAppend
import Derived.BigRegion
import Derived.Deep.QuietTactic
import Derived.BigQuiet
import Derived.Deep.RegionHeld3
import Derived.ChangeAlike
import Derived.RegionTactic
import Derived.Deep.DeepCutAuto
import Derived.Deep.CutBlock
import Derived.Deep.RegionLaw
import Derived.StillTailTactics
import Derived.WalkSpells
import Derived.Lib.SliceRun
import Derived.Laws.CopyRow
import Derived.Lib.SlBuf
import Derived.Lib.MakeNoZero
import Derived.Laws.BitsLemmas
import Derived.Lib.Bytes
import Derived.Lib.SlBytesConst
namespace Go.Proofs.Ytnkbebdgkidbjaa.Flash
open Go.Proofs.Ytnkbebdgkidbjaa.QFlashPlays
open Go.RowKit Go.Proofs.YtnkbebdgkidbjaaW.PrintWords Go.Proofs.YtnkbebdgkidbjaaW.PrintLast Go.Proofs.YtnkbebdgkidbjaaW.PrintMore
attribute [local go_sem] max2_int min2_int max_two min_two   -- for this text's walks alone
set_option linter.unusedVariables false
set_option linter.unusedSimpArgs false
/-! ### Two layings behind each other are one -/
theorem put_put (b : List Int) (i : Nat) (l1 l2 : List Int) (h : i + l1.length + l2.length ≤ b.length) : putAt (putAt b i l1) (i + l1.length) l2 = putAt b i (l1 ++ l2) := by
  have hl : (b.take i ++ l1).length = i + l1.length := by
    rw [List.length_append, List.length_take, Nat.min_eq_left (by omega)]
  obtain ⟨X, hX⟩ : ∃ X, b.take i ++ l1 = X := ⟨_, rfl⟩
  have e1 : (X ++ b.drop (i + l1.length)).take (i + l1.length) = X := by
    rw [← hl, hX]; exact List.take_left
  have e2 : (X ++ b.drop (i + l1.length)).drop (i + l1.length + l2.length) = b.drop (i + l1.length + l2.length) := by
    rw [List.drop_append, List.drop_drop, List.drop_of_length_le (by rw [← hX, hl]; omega), List.nil_append]
    congr 1
    rw [← hX, hl]; omega
  unfold putAt
  rw [hX, e1, e2, List.length_append, ← Nat.add_assoc, ← List.append_assoc, ← hX]
/-! ### Rows cut, cleared; pages wiped -/
theorem enc_take (l : List Int) (m : Nat) : (encs (Value.int .i64) l).take m = encs (Value.int .i64) (l.take m) := by unfold encs; rw [List.map_take]
/-- Only the block g of the elder ones may change. -/
structure Only (B : Nat) (g : Option Nat) (w w' : World) : Prop where
  below : Below B w w'
  keep : ∀ k, k < w.heap.size → some k ≠ g → w'.heap[k]? = w.heap[k]?
theorem Only.refl (B : Nat) (g : Option Nat) (w : World) : Only B g w w := ⟨Below.refl _ _, fun _ _ _ => rfl⟩
theorem Only.trans {B : Nat} {g : Option Nat} {w w1 w2 : World} (h : Only B g w w1) (k : Only B g w1 w2) : Only B g w w2 :=
  ⟨h.below.trans k.below, fun i hi hn => (k.keep i (Nat.lt_of_lt_of_le hi h.below.size) hn).trans (h.keep i hi hn)⟩
theorem Only.of_below {B : Nat} {g : Option Nat} {w w1 : World} (h : Below w.heap.size w w1) (hB : B ≤ w.heap.size) : Only B g w w1 := ⟨h.mono hB, fun k hk _ => h.block k hk⟩
theorem Only.set {B g : Nat} (w : World) (hB : B ≤ g) (j : Nat) (v : Value) : Only B (some g) w (w.setCell ⟨g, j, none⟩ v) :=
  ⟨(Below.refl B w).setCell (p := ⟨g, j, none⟩) hB v, fun k _ hn => Below.heap_setCell w ⟨g, j, none⟩ v k (fun e => hn (by rw [e]))⟩
theorem Only.sets {B g : Nat} (hB : B ≤ g) : ∀ (vs : List Value) (o : Nat) (w : World), Only B (some g) w (w.setCells g o vs)
  | [], _, w => Only.refl B (some g) w
  | v :: r, o, w => (Only.set w hB o v).trans (Only.sets hB r (o + 1) _)
theorem sets_blk {g t : Nat} : ∀ (vs : List Value) (o : Nat) (w : World) (cs : Array Value), w.heap[g]? = some (.cells cs t (0, 0)) → ∃ cs' : Array Value, (w.setCells g o vs).heap[g]? = some (.cells cs' t (0, 0)) ∧ cs'.size = cs.size ∧ ∀ j, j < o → cs'[j]? = cs[j]?
  | [], _, _, cs, h => ⟨cs, h, rfl, fun _ _ => rfl⟩
  | v :: r, o, w, cs, h => by
    obtain ⟨cs', h1, h2, h3⟩ := sets_blk r (o + 1) (w.setCell ⟨g, o, none⟩ v) _ (blk_put h o v rfl)
    refine ⟨cs', h1, by rw [h2, Array.size_setIfInBounds], fun j hj => ?_⟩
    rw [h3 j (by omega), Array.getElem?_setIfInBounds_ne (by omega)]
/-- A row of whole numbers, its cells behind m cleared, cut to m. -/
theorem R_cleared {w : World} {B g n cap : Nat} {ok : Nat → Prop} {l : List Int} (h : (Kd.int .i64).R 3 w B ok (.slice (some ⟨g, 0, none⟩) n cap) l) (m : Nat) (hm : m ≤ n) (vs : List Value) :
    (Kd.int .i64).R 3 (w.setCells g m vs) B ok (.slice (some ⟨g, 0, none⟩) m cap) (l.take m) := by
  obtain ⟨hC, hl, hnc⟩ := R_C h
  have ho := Kd.own_of_R h
  obtain ⟨k1, hn | ⟨g', cap', cur, e, hb, hg, hc, hmx, hs, ht⟩⟩ := ho
  · exact absurd hn.1 (by simp)
  injection e with e1 e2 e3
  injection e1 with e1
  injection e1 with e1
  subst e1 e3
  obtain ⟨cs', h1, h2, h3⟩ := sets_blk vs m w cur hg
  have hlm : (l.take m).length = m := by rw [List.length_take]; omega
  refine Kd.R_of_own (h1 := fun x => rfl) ?_ h.1
  rw [hlm]
  refine ⟨by unfold encs; rw [List.length_map, hlm, Nat.mul_one], .inr ⟨g, cap, cs', rfl, hb, h1, by omega, hmx, by rw [h2]; exact hs, ?_⟩⟩
  rw [← enc_take, ← ht, Nat.mul_one, Nat.mul_one, List.take_take, Nat.min_eq_left (by omega)]
  apply List.ext_getElem?
  intro j
  by_cases hj : j < m
  · rw [List.getElem?_take_of_lt hj, List.getElem?_take_of_lt hj]
    have := h3 j hj
    rw [Array.getElem?_toList, Array.getElem?_toList]
    exact this
  · rw [List.getElem?_eq_none (by rw [List.length_take]; omega), List.getElem?_eq_none (by rw [List.length_take]; omega)]
theorem rd_get (l : List Int) (j : Nat) (h : j < l.length) : l[j]? = some (rd l (j : Int)) := by
  unfold rd
  rw [Int.toNat_natCast, List.getElem?_eq_getElem h]
  simp [List.getD, h]
/-- The filter by steps: i kept of the first j. -/
theorem filter_step (P : Int → Bool) (l : List Int) (j : Nat) (x : Int) (hx : l[j]? = some x) : (l.take (j + 1)).filter (fun q => !P q) = (l.take j).filter (fun q => !P q) ++ if P x then [] else [x] := by
  rw [List.take_add_one, hx, List.filter_append]
  congr 1
  cases h : P x <;> simp [h]
theorem put_nil (b : List Int) (i : Nat) : putAt b i [] = b := by
  unfold putAt
  rw [List.append_nil, List.length_nil, Nat.add_zero, List.take_append_drop]
theorem wipe_step (b : List Int) (g s p i : Nat) (h : (g * s + i + 1) * p ≤ b.length) : putAt (putAt b (g * s * p) (List.replicate (i * p) 255)) ((g * s + i) * p) (List.replicate p 255) = putAt b (g * s * p) (List.replicate ((i + 1) * p) 255) := by
  have e : (g * s + i) * p = g * s * p + (List.replicate (i * p) (255 : Int)).length := by rw [List.length_replicate, Nat.add_mul]
  rw [e, put_put, List.replicate_append_replicate, Nat.add_mul i 1 p, Nat.one_mul]
  rw [List.length_replicate, List.length_replicate]
  rw [Nat.add_mul, Nat.add_mul, Nat.one_mul] at h
  omega
/-! ### The plain device stays right -/
theorem op_ok {d : Dv} (ok : d.Ok) (k : Nat) {act : Dv → Dv} (ha : ∀ d : Dv, d.Ok → (act d).Ok) : (d.op k act).1.Ok := by
  have h1 : (d.count k).Ok := ok.cf _ _
  unfold Dv.op
  by_cases h0 : d.fault k = 0
  · rw [if_pos h0]; exact ha _ h1
  · rw [if_neg h0]
    by_cases h2 : d.fault k = 1
    · rw [if_pos h2]; exact (h1.cf _ _)
    · rw [if_neg h2]; exact ((ha _ h1).cf _ _)
theorem op_ok2 {d : Dv} (ok : d.Ok) (k : Nat) {act : Dv → Dv} (ha : (act (d.count k)).Ok) : (d.op k act).1.Ok := by
  have h1 : (d.count k).Ok := ok.cf _ _
  unfold Dv.op
  by_cases h0 : d.fault k = 0
  · rw [if_pos h0]; exact ha
  · rw [if_neg h0]
    by_cases h2 : d.fault k = 1
    · rw [if_pos h2]; exact (h1.cf _ _)
    · rw [if_neg h2]; exact (ha.cf _ _)
theorem program_ok {d : Dv} (ok : d.Ok) (n : Int) {x : List Int} (hb : ∀ y ∈ x, 0 ≤ y ∧ y < 256) : (d.program n x).1.Ok := by
  unfold Dv.program
  by_cases h1 : n < 0 ∨ (d.pages : Int) ≤ n ∨ x.length ≠ d.p
  · rw [if_pos h1]; exact ok
  · rw [if_neg h1]
    by_cases h2 : d.next (n.toNat / d.s : Nat) < 0 ∨ n < d.next (n.toNat / d.s : Nat)
    · rw [if_pos h2]; exact ok
    · rw [if_neg h2]
      exact op_ok2 ok 2 (lay_ok (ok.cf _ _) (by show n.toNat < d.pages; omega) (by show x.length = d.p; omega) hb)
theorem read_ok {d : Dv} (ok : d.Ok) (n : Int) : (d.read n).1.Ok := by
  unfold Dv.read
  by_cases h1 : n < 0 ∨ (d.pages : Int) ≤ n
  · rw [if_pos h1]; exact ok
  · rw [if_neg h1]; exact op_ok ok 1 (fun d h => h)
theorem put_mem {b l : List Int} {i : Nat} {y : Int} (h : y ∈ putAt b i l) : y ∈ b ∨ y ∈ l := by
  unfold putAt at h
  rcases List.mem_append.1 h with h | h
  · rcases List.mem_append.1 h with h | h
    · exact .inl (List.mem_of_mem_take h)
    · exact .inr h
  · exact .inl (List.mem_of_mem_drop h)
theorem region_fits {d : Dv} (ok : d.Ok) {g : Nat} (hg : g < d.r) : g * d.s * d.p + d.s * d.p ≤ d.b.length := by
  rw [ok.len, Nat.mul_assoc, Nat.mul_comm d.p d.s, Nat.mul_comm (d.s * d.p) d.r, ← Nat.succ_mul]
  exact Nat.mul_le_mul_right _ hg
theorem wipe_ok {d : Dv} (ok : d.Ok) {g : Nat} (hg : g < d.r) : (Dv.wipe g d).Ok := by
  have hf := region_fits ok hg
  refine ⟨ok.p1, ok.p2, ok.s1, ok.s2, ok.r1, ok.r2, ok.sz, ?_, ?_, ?_, ?_, ok.flk, ok.fll⟩
  · exact (putAt_length d.b _ _ (by rw [List.length_replicate]; exact hf)).trans ok.len
  · intro y hy
    rcases put_mem hy with h | h
    · exact ok.byte y h
    · rw [List.eq_of_mem_replicate h]; decide
  · show (d.wear.set g _).length = d.r
    rw [List.length_set]; exact ok.wl
  · intro q hq
    exact ok.unr q (List.mem_filter.1 hq).1
theorem erase_ok {d : Dv} (ok : d.Ok) (n : Int) : (d.erase n).1.Ok := by
  unfold Dv.erase
  by_cases h1 : n < 0 ∨ (d.r : Int) ≤ n
  · rw [if_pos h1]; exact ok
  · rw [if_neg h1]
    exact op_ok2 ok 3 (wipe_ok (ok.cf _ _) (by show n.toNat < d.r; omega))
theorem sync_ok {d : Dv} (ok : d.Ok) : d.sync.1.Ok := by
  unfold Dv.sync
  exact op_ok ok 4 (fun d h => ⟨h.p1, h.p2, h.s1, h.s2, h.r1, h.r2, h.sz, h.len, h.byte, h.wl, fun q hq => by simp at hq, h.flk, h.fll⟩)
theorem fail_ok {d : Dv} (ok : d.Ok) (l : List Fa) : (d.fail l).1.Ok := by
  unfold Dv.fail
  by_cases h : frB l = true
  · rw [if_pos h]
    have h2 := frB_ok h
    exact ⟨ok.p1, ok.p2, ok.s1, ok.s2, ok.r1, ok.r2, ok.sz, ok.len, ok.byte, ok.wl, ok.unr, h2.2, h2.1⟩
  · rw [if_neg h]; exact ok
theorem fresh_ok {p s r : Nat} {a : Int} (hk : Geo.Ok p s r a) : (Dv.fresh p s r a).Ok := by
  have bd := Ok.bounds hk
  obtain ⟨b1, b2, b3, b4, b5, b6, _, _, _, _, _, b12, _⟩ := bd
  have hsz : p * s * r ≤ 1048576 := by
    have e : ((p * s * r : Nat) : Int) = (p : Int) * s * r := by simp
    omega
  exact ⟨by show 16 ≤ p; omega, by show p ≤ 4096; omega, by show 1 ≤ s; omega, by show s ≤ 64; omega, by show 2 ≤ r; omega, by show r ≤ 256; omega, hsz, List.length_replicate .., fun x hx => by rw [List.eq_of_mem_replicate hx]; decide, List.length_replicate .., fun q hq => by simp [Dv.fresh] at hq, fun f hf => by simp [Dv.fresh] at hf, by show 0 ≤ 64; decide⟩
/-! ### Erase, the call: from what its closure does -/
theorem boxes2 (w : World) (v0 v1 : Value) (t0 t1 : TypeId) : Below w.heap.size w ((w.alloc (.cells #[v0] t0)).alloc (.cells #[v1] t1)) ∧ ((w.alloc (.cells #[v0] t0)).alloc (.cells #[v1] t1)).heap[w.heap.size]? = some (.cells #[v0] t0 (0, 0)) ∧ ((w.alloc (.cells #[v0] t0)).alloc (.cells #[v1] t1)).heap[w.heap.size + 1]? = some (.cells #[v1] t1 (0, 0)) := by
  have e1 : (w.alloc (.cells #[v0] t0)).heap.size = w.heap.size + 1 := by simp
  have b1 := below_alloc (Below.refl w.heap.size w) (.cells #[v0] t0)
  have b2 := below_alloc (Below.refl _ (w.alloc (.cells #[v0] t0))) (.cells #[v1] t1)
  refine ⟨b1.trans (b2.mono b1.size), blk_below (blk_new w _) b2, ?_⟩
  have := blk_new (w.alloc (.cells #[v0] t0)) (.cells #[v1] t1)
  rw [e1] at this; exact this
/-! ### Counts -/
section
variable {B : Nat} {f : Owner} {w : World} {db : Nat} {d : Dv}
set_option maxHeartbeats 2000000 in
set_option maxRecDepth 100000 in
theorem counts_walk (h : DevX B f w db d) (ok : d.Ok) : Calls Try.prog 20 #[.pointer (some ⟨db, 0, none⟩)] w (fun e w' => ∃ v, e = .returned (.agg #[.int .i64 (d.c 1), .int .i64 (d.c 2), .int .i64 (d.c 3), .int .i64 (d.c 4), .int .i64 d.failed, v]) ∧ Below w.heap.size w w' ∧ (Kd.int .i64).R 3 w' w.heap.size (fun k => w.heap.size ≤ k) v d.wear) := by
  have H := Aside0.mk h
  have OK := Aside0.mk ok
  obtain ⟨w1, hw1⟩ : ∃ w1, w.alloc (.cells #[.int .i64 0, .int .i64 0, .int .i64 0, .int .i64 0, .int .i64 0, .slice none 0 0] 45) = w1 := ⟨_, rfl⟩
  have B1 : Aside0 (Below w.heap.size w w1) := ⟨by rw [← hw1]; exact below_alloc (Below.refl _ _) _⟩
  have K1 : w1.heap[w.heap.size]? = some (.cells #[.int .i64 0, .int .i64 0, .int .i64 0, .int .i64 0, .int .i64 0, .slice none 0 0] 45 (0, 0)) := by rw [← hw1]; exact blk_new w _
  have KM := Aside0.mk ((H.out.below B1.out).made ok)
  clear h ok
  go_enter Try.func20, Try.ntmps20
  go_upto_region 1 with (fail)
  clear hw1
  generalize hbx : w.heap.size = bx at K1 ⊢
  have LB : Aside0 (w.heap.size ≤ bx) := ⟨by omega⟩
  clear hbx
  obtain ⟨im, imc, vu, vf, vw, hg⟩ := H.out.below B1.out
  obtain ⟨Aw, cw, ew, hle, hC⟩ := Kd.R_reads hg.wr
  subst ew
  obtain ⟨nw, hnw⟩ : ∃ nw, d.wear.length = nw := ⟨_, rfl⟩
  have HCW := Aside0.mk hC
  have KC := Aside0.mk (fun (w' : World) (hb : Below w1.heap.size w1 w') => clone41 (c := cw) (Kd.C_below HCW.out hb) hle (by have := OK.out.wl; have := OK.out.r2; omega))
  have c8 : w1.cell? ⟨db, 8, none⟩ = some (.int .i64 (d.c 1)) := hg.at_ 8
  have c9 : w1.cell? ⟨db, 9, none⟩ = some (.int .i64 (d.c 2)) := hg.at_ 9
  have c10 : w1.cell? ⟨db, 10, none⟩ = some (.int .i64 (d.c 3)) := hg.at_ 10
  have c11 : w1.cell? ⟨db, 11, none⟩ = some (.int .i64 (d.c 4)) := hg.at_ 11
  have c12 : w1.cell? ⟨db, 12, none⟩ = some (.int .i64 d.failed) := hg.at_ 12
  have c13 : w1.cell? ⟨db, 13, none⟩ = some (.slice Aw d.wear.length cw) := hg.at_ 13
  rw [hnw] at KC c13
  clear hg hle hC hnw
  go_upto_region 3 with (go_at_call 39; refine KM.out.mono ?_; rintro e w' ⟨rfl, rfl⟩)
  refine start_ (n := 31) (S := fun w' => w'.cell? ⟨db, 8, none⟩ = some (.int .i64 (d.c 1)) ∧ w'.cell? ⟨db, 9, none⟩ = some (.int .i64 (d.c 2)) ∧ w'.cell? ⟨db, 10, none⟩ = some (.int .i64 (d.c 3)) ∧ w'.cell? ⟨db, 11, none⟩ = some (.int .i64 (d.c 4)) ∧ w'.cell? ⟨db, 12, none⟩ = some (.int .i64 d.failed) ∧ w'.cell? ⟨db, 13, none⟩ = some (.slice Aw nw cw)) (ds := [30]) #[F,F,F,F,F,F,F,F,F,F,F,F,F,F,F,F,F,F,F,F,F,F,F,F,F,F,F,F,F,F,F] (by kernel_rfl) rfl rfl (⟨c8, c9, c10, c11, c12, c13⟩) (fun hHeld => ?_)
  generalize hwd : w1.drew = wd at hHeld ⊢
  have BD : Aside0 (Below w1.heap.size w1 wd) := ⟨by rw [← hwd]; exact below_drew (Below.refl _ _)⟩
  clear hwd
  refine pure_ (i := 0) (N := some 7) (v := ?_) (a' := ?_) #[T,F,F,F,F,F,F,F,F,F,F,F,F,F,F,F,F,F,F,F,F,F,F,F,F,F,F,F,F,F,F] rfl rfl (by kernel_rfl) (fun _ _ _ h => h) (Or.inl ⟨by rfl, ?_⟩) ?_ ?_
  rotate_left
  · intro w'
    go_simp
    with_reducible rfl
  rotate_left
  · simp only [Act.put, sA, s0_, sS, i64_w, i32_w]
    rfl
  refine pure_ (i := 1) (N := some 8) (v := ?_) (a' := ?_) #[T,T,F,F,F,F,F,F,F,F,F,F,F,F,F,F,F,F,F,F,F,F,F,F,F,F,F,F,F,F,F] rfl rfl (by kernel_rfl) (fun _ _ _ h => h) (Or.inl ⟨by rfl, ?_⟩) ?_ ?_
  rotate_left
  · intro w'
    go_simp
    with_reducible rfl
  rotate_left
  · simp only [Act.put, sA, s0_, sS, i64_w, i32_w]
    rfl
  refine pure_ (i := 2) (N := some 9) (v := ?_) (a' := ?_) #[T,T,T,F,F,F,F,F,F,F,F,F,F,F,F,F,F,F,F,F,F,F,F,F,F,F,F,F,F,F,F] rfl rfl (by kernel_rfl) (fun _ _ _ h => h) (Or.inl ⟨by rfl, ?_⟩) ?_ ?_
  rotate_left
  · intro w'
    go_simp
    with_reducible rfl
  rotate_left
  · simp only [Act.put, sA, s0_, sS, i64_w, i32_w]
    rfl
  refine pure_ (i := 3) (N := some 10) (v := ?_) (a' := ?_) #[T,T,T,T,F,F,F,F,F,F,F,F,F,F,F,F,F,F,F,F,F,F,F,F,F,F,F,F,F,F,F] rfl rfl (by kernel_rfl) (fun _ _ _ h => h) (Or.inl ⟨by rfl, ?_⟩) ?_ ?_
  rotate_left
  · intro w'
    go_simp
    with_reducible rfl
  rotate_left
  · simp only [Act.put, sA, s0_, sS, i64_w, i32_w]
    rfl
  refine take_ (i := 4) (N := some 11) (v := ?_) (a' := ?_) #[T,T,T,T,T,F,F,F,F,F,F,F,F,F,F,F,F,F,F,F,F,F,F,F,F,F,F,F,F,F,F] rfl rfl (by kernel_rfl) (fun _ _ _ h => h) (Or.inl ⟨by rfl, ?_⟩) hHeld ?_ ?_
  rotate_left
  · intro w' s0
    obtain ⟨s1, s2, s3, s4, s5, s6⟩ := s0
    go_simp
    with_reducible rfl
  rotate_left
  · simp only [Act.put, sA, s0_, sS, i64_w, i32_w]
    rfl
  refine pure_ (i := 5) (N := some 12) (v := ?_) (a' := ?_) #[T,T,T,T,T,T,F,F,F,F,F,F,F,F,F,F,F,F,F,F,F,F,F,F,F,F,F,F,F,F,F] rfl rfl (by kernel_rfl) (fun _ _ _ h => h) (Or.inl ⟨by rfl, ?_⟩) ?_ ?_
  rotate_left
  · intro w'
    go_simp
    with_reducible rfl
  rotate_left
  · simp only [Act.put, sA, s0_, sS, i64_w, i32_w]
    rfl
  refine pure_ (i := 6) (N := some 13) (v := ?_) (a' := ?_) #[T,T,T,T,T,T,T,F,F,F,F,F,F,F,F,F,F,F,F,F,F,F,F,F,F,F,F,F,F,F,F] rfl rfl (by kernel_rfl) (fun _ _ _ h => h) (Or.inl ⟨by rfl, ?_⟩) ?_ ?_
  rotate_left
  · intro w'
    go_simp
    with_reducible rfl
  rotate_left
  · simp only [Act.put, sA, s0_, sS, i64_w, i32_w]
    rfl
  refine pure_ (i := 7) (N := some 14) (v := ?_) (a' := ?_) #[T,T,T,T,T,T,T,T,F,F,F,F,F,F,F,F,F,F,F,F,F,F,F,F,F,F,F,F,F,F,F] rfl rfl (by kernel_rfl) (fun _ _ _ h => h) (Or.inl ⟨by rfl, ?_⟩) ?_ ?_
  rotate_left
  · intro w'
    go_simp
    with_reducible rfl
  rotate_left
  · simp only [Act.put, sA, s0_, sS, i64_w, i32_w]
    rfl
  refine pure_ (i := 8) (N := some 15) (v := ?_) (a' := ?_) #[T,T,T,T,T,T,T,T,T,F,F,F,F,F,F,F,F,F,F,F,F,F,F,F,F,F,F,F,F,F,F] rfl rfl (by kernel_rfl) (fun _ _ _ h => h) (Or.inl ⟨by rfl, ?_⟩) ?_ ?_
  rotate_left
  · intro w'
    go_simp
    with_reducible rfl
  rotate_left
  · simp only [Act.put, sA, s0_, sS, i64_w, i32_w]
    rfl
  refine take_ (i := 9) (N := some 16) (v := ?_) (a' := ?_) #[T,T,T,T,T,T,T,T,T,T,F,F,F,F,F,F,F,F,F,F,F,F,F,F,F,F,F,F,F,F,F] rfl rfl (by kernel_rfl) (fun _ _ _ h => h) (Or.inl ⟨by rfl, ?_⟩) hHeld ?_ ?_
  rotate_left
  · intro w' s0
    obtain ⟨s1, s2, s3, s4, s5, s6⟩ := s0
    go_simp
    with_reducible rfl
  rotate_left
  · simp only [Act.put, sA, s0_, sS, i64_w, i32_w]
    rfl
  refine pure_ (i := 10) (N := some 17) (v := ?_) (a' := ?_) #[T,T,T,T,T,T,T,T,T,T,T,F,F,F,F,F,F,F,F,F,F,F,F,F,F,F,F,F,F,F,F] rfl rfl (by kernel_rfl) (fun _ _ _ h => h) (Or.inl ⟨by rfl, ?_⟩) ?_ ?_
  rotate_left
  · intro w'
    go_simp
    with_reducible rfl
  rotate_left
  · simp only [Act.put, sA, s0_, sS, i64_w, i32_w]
    rfl
  refine pure_ (i := 11) (N := some 18) (v := ?_) (a' := ?_) #[T,T,T,T,T,T,T,T,T,T,T,T,F,F,F,F,F,F,F,F,F,F,F,F,F,F,F,F,F,F,F] rfl rfl (by kernel_rfl) (fun _ _ _ h => h) (Or.inl ⟨by rfl, ?_⟩) ?_ ?_
  rotate_left
  · intro w'
    go_simp
    with_reducible rfl
  rotate_left
  · simp only [Act.put, sA, s0_, sS, i64_w, i32_w]
    rfl
  refine pure_ (i := 12) (N := some 19) (v := ?_) (a' := ?_) #[T,T,T,T,T,T,T,T,T,T,T,T,T,F,F,F,F,F,F,F,F,F,F,F,F,F,F,F,F,F,F] rfl rfl (by kernel_rfl) (fun _ _ _ h => h) (Or.inl ⟨by rfl, ?_⟩) ?_ ?_
  rotate_left
  · intro w'
    go_simp
    with_reducible rfl
  rotate_left
  · simp only [Act.put, sA, s0_, sS, i64_w, i32_w]
    rfl
  refine pure_ (i := 13) (N := some 20) (v := ?_) (a' := ?_) #[T,T,T,T,T,T,T,T,T,T,T,T,T,T,F,F,F,F,F,F,F,F,F,F,F,F,F,F,F,F,F] rfl rfl (by kernel_rfl) (fun _ _ _ h => h) (Or.inl ⟨by rfl, ?_⟩) ?_ ?_
  rotate_left
  · intro w'
    go_simp
    with_reducible rfl
  rotate_left
  · simp only [Act.put, sA, s0_, sS, i64_w, i32_w]
    rfl
  refine take_ (i := 14) (N := some 21) (v := ?_) (a' := ?_) #[T,T,T,T,T,T,T,T,T,T,T,T,T,T,T,F,F,F,F,F,F,F,F,F,F,F,F,F,F,F,F] rfl rfl (by kernel_rfl) (fun _ _ _ h => h) (Or.inl ⟨by rfl, ?_⟩) hHeld ?_ ?_
  rotate_left
  · intro w' s0
    obtain ⟨s1, s2, s3, s4, s5, s6⟩ := s0
    go_simp
    with_reducible rfl
  rotate_left
  · simp only [Act.put, sA, s0_, sS, i64_w, i32_w]
    rfl
  refine pure_ (i := 15) (N := some 22) (v := ?_) (a' := ?_) #[T,T,T,T,T,T,T,T,T,T,T,T,T,T,T,T,F,F,F,F,F,F,F,F,F,F,F,F,F,F,F] rfl rfl (by kernel_rfl) (fun _ _ _ h => h) (Or.inl ⟨by rfl, ?_⟩) ?_ ?_
  rotate_left
  · intro w'
    go_simp
    with_reducible rfl
  rotate_left
  · simp only [Act.put, sA, s0_, sS, i64_w, i32_w]
    rfl
  refine pure_ (i := 16) (N := some 23) (v := ?_) (a' := ?_) #[T,T,T,T,T,T,T,T,T,T,T,T,T,T,T,T,T,F,F,F,F,F,F,F,F,F,F,F,F,F,F] rfl rfl (by kernel_rfl) (fun _ _ _ h => h) (Or.inl ⟨by rfl, ?_⟩) ?_ ?_
  rotate_left
  · intro w'
    go_simp
    with_reducible rfl
  rotate_left
  · simp only [Act.put, sA, s0_, sS, i64_w, i32_w]
    rfl
  refine pure_ (i := 17) (N := some 24) (v := ?_) (a' := ?_) #[T,T,T,T,T,T,T,T,T,T,T,T,T,T,T,T,T,T,F,F,F,F,F,F,F,F,F,F,F,F,F] rfl rfl (by kernel_rfl) (fun _ _ _ h => h) (Or.inl ⟨by rfl, ?_⟩) ?_ ?_
  rotate_left
  · intro w'
    go_simp
    with_reducible rfl
  rotate_left
  · simp only [Act.put, sA, s0_, sS, i64_w, i32_w]
    rfl
  refine pure_ (i := 18) (N := some 25) (v := ?_) (a' := ?_) #[T,T,T,T,T,T,T,T,T,T,T,T,T,T,T,T,T,T,T,F,F,F,F,F,F,F,F,F,F,F,F] rfl rfl (by kernel_rfl) (fun _ _ _ h => h) (Or.inl ⟨by rfl, ?_⟩) ?_ ?_
  rotate_left
  · intro w'
    go_simp
    with_reducible rfl
  rotate_left
  · simp only [Act.put, sA, s0_, sS, i64_w, i32_w]
    rfl
  refine take_ (i := 19) (N := some 26) (v := ?_) (a' := ?_) #[T,T,T,T,T,T,T,T,T,T,T,T,T,T,T,T,T,T,T,T,F,F,F,F,F,F,F,F,F,F,F] rfl rfl (by kernel_rfl) (fun _ _ _ h => h) (Or.inl ⟨by rfl, ?_⟩) hHeld ?_ ?_
  rotate_left
  · intro w' s0
    obtain ⟨s1, s2, s3, s4, s5, s6⟩ := s0
    go_simp
    with_reducible rfl
  rotate_left
  · simp only [Act.put, sA, s0_, sS, i64_w, i32_w]
    rfl
  refine pure_ (i := 20) (N := some 27) (v := ?_) (a' := ?_) #[T,T,T,T,T,T,T,T,T,T,T,T,T,T,T,T,T,T,T,T,T,F,F,F,F,F,F,F,F,F,F] rfl rfl (by kernel_rfl) (fun _ _ _ h => h) (Or.inl ⟨by rfl, ?_⟩) ?_ ?_
  rotate_left
  · intro w'
    go_simp
    with_reducible rfl
  rotate_left
  · simp only [Act.put, sA, s0_, sS, i64_w, i32_w]
    rfl
  refine pure_ (i := 21) (N := some 28) (v := ?_) (a' := ?_) #[T,T,T,T,T,T,T,T,T,T,T,T,T,T,T,T,T,T,T,T,T,T,F,F,F,F,F,F,F,F,F] rfl rfl (by kernel_rfl) (fun _ _ _ h => h) (Or.inl ⟨by rfl, ?_⟩) ?_ ?_
  rotate_left
  · intro w'
    go_simp
    with_reducible rfl
  rotate_left
  · simp only [Act.put, sA, s0_, sS, i64_w, i32_w]
    rfl
  refine pure_ (i := 22) (N := some 29) (v := ?_) (a' := ?_) #[T,T,T,T,T,T,T,T,T,T,T,T,T,T,T,T,T,T,T,T,T,T,T,F,F,F,F,F,F,F,F] rfl rfl (by kernel_rfl) (fun _ _ _ h => h) (Or.inl ⟨by rfl, ?_⟩) ?_ ?_
  rotate_left
  · intro w'
    go_simp
    with_reducible rfl
  rotate_left
  · simp only [Act.put, sA, s0_, sS, i64_w, i32_w]
    rfl
  refine take_ (i := 23) (N := some 30) (v := ?_) (a' := ?_) #[T,T,T,T,T,T,T,T,T,T,T,T,T,T,T,T,T,T,T,T,T,T,T,T,F,F,F,F,F,F,F] rfl rfl (by kernel_rfl) (fun _ _ _ h => h) (Or.inl ⟨by rfl, ?_⟩) hHeld ?_ ?_
  rotate_left
  · intro w' s0
    obtain ⟨s1, s2, s3, s4, s5, s6⟩ := s0
    go_simp
    with_reducible rfl
  rotate_left
  · simp only [Act.put, sA, s0_, sS, i64_w, i32_w]
    rfl
  refine pure_ (i := 24) (N := some 31) (v := ?_) (a' := ?_) #[T,T,T,T,T,T,T,T,T,T,T,T,T,T,T,T,T,T,T,T,T,T,T,T,T,F,F,F,F,F,F] rfl rfl (by kernel_rfl) (fun _ _ _ h => h) (Or.inl ⟨by rfl, ?_⟩) ?_ ?_
  rotate_left
  · intro w'
    go_simp
    with_reducible rfl
  rotate_left
  · simp only [Act.put, sA, s0_, sS, i64_w, i32_w]
    rfl
  refine pure_ (i := 25) (N := some 32) (v := ?_) (a' := ?_) #[T,T,T,T,T,T,T,T,T,T,T,T,T,T,T,T,T,T,T,T,T,T,T,T,T,T,F,F,F,F,F] rfl rfl (by kernel_rfl) (fun _ _ _ h => h) (Or.inl ⟨by rfl, ?_⟩) ?_ ?_
  rotate_left
  · intro w'
    go_simp
    with_reducible rfl
  rotate_left
  · simp only [Act.put, sA, s0_, sS, i64_w, i32_w]
    rfl
  refine pure_ (i := 26) (N := some 33) (v := ?_) (a' := ?_) #[T,T,T,T,T,T,T,T,T,T,T,T,T,T,T,T,T,T,T,T,T,T,T,T,T,T,T,F,F,F,F] rfl rfl (by kernel_rfl) (fun _ _ _ h => h) (Or.inl ⟨by rfl, ?_⟩) ?_ ?_
  rotate_left
  · intro w'
    go_simp
    with_reducible rfl
  rotate_left
  · simp only [Act.put, sA, s0_, sS, i64_w, i32_w]
    rfl
  refine take_ (i := 27) (N := some 34) (v := ?_) (a' := ?_) #[T,T,T,T,T,T,T,T,T,T,T,T,T,T,T,T,T,T,T,T,T,T,T,T,T,T,T,T,F,F,F] rfl rfl (by kernel_rfl) (fun _ _ _ h => h) (Or.inl ⟨by rfl, ?_⟩) hHeld ?_ ?_
  rotate_left
  · intro w' s0
    obtain ⟨s1, s2, s3, s4, s5, s6⟩ := s0
    go_simp
    with_reducible rfl
  rotate_left
  · simp only [Act.put, sA, s0_, sS, i64_w, i32_w]
    rfl
  refine one_ (i := 28) (N := some 35) #[T,T,T,T,T,T,T,T,T,T,T,T,T,T,T,T,T,T,T,T,T,T,T,T,T,T,T,T,T,F,F] rfl rfl (by kernel_rfl) (by decide) (fun K hK => ?_)
  refine goes_ Try.func41 (by kernel_rfl) rfl #[.slice Aw nw cw] (by rfl) rfl rfl (by (try simp only [List.map_toArray, List.map_cons, List.map_nil]); first | done | rfl) ?_
  with_reducible refine (KC.out wd BD.out).mono ?_
  rintro e w2 ⟨v, rfl, hR, hb⟩
  refine ⟨_, rfl, ?_⟩
  obtain ⟨Av, cv, ev⟩ := Kd.R_slice hR
  subst ev
  have HR := Aside0.mk hR
  have HB := Aside0.mk hb
  clear hR hb
  refine hK.out _ _ (by exact ⟨pw_cell_below (BD.out.trans (HB.out.mono BD.out.size)) c8, pw_cell_below (BD.out.trans (HB.out.mono BD.out.size)) c9, pw_cell_below (BD.out.trans (HB.out.mono BD.out.size)) c10, pw_cell_below (BD.out.trans (HB.out.mono BD.out.size)) c11, pw_cell_below (BD.out.trans (HB.out.mono BD.out.size)) c12, pw_cell_below (BD.out.trans (HB.out.mono BD.out.size)) c13⟩) (fun hHeld => ?_)
  clear hK K
  refine norm_ (a' := ?_) ?_ ?_
  rotate_left
  · show Act.put _ (some 35) _ = _
    simp only [Act.put, sA, s0_, sS, i64_w, i32_w]
    rfl
  refine pure_ (i := 29) (N := some 36) (v := ?_) (a' := ?_) #[T,T,T,T,T,T,T,T,T,T,T,T,T,T,T,T,T,T,T,T,T,T,T,T,T,T,T,T,T,T,F] rfl rfl (by kernel_rfl) (fun _ _ _ h => h) (Or.inl ⟨by rfl, ?_⟩) ?_ ?_
  rotate_left
  · intro w'
    go_simp
    with_reducible rfl
  rotate_left
  · simp only [Act.put, sA, s0_, sS, i64_w, i32_w]
    rfl
  have k2 := blk_below K1 (BD.out.trans (HB.out.mono BD.out.size))
  have y0 := blk_cell k2 0
  have l0 := blk_frozen k2 0
  have y1 := blk_cell k2 1
  have l1 := blk_frozen k2 1
  have y2 := blk_cell k2 2
  have l2 := blk_frozen k2 2
  have y3 := blk_cell k2 3
  have l3 := blk_frozen k2 3
  have y4 := blk_cell k2 4
  have l4 := blk_frozen k2 4
  have y5 := blk_cell k2 5
  have l5 := blk_frozen k2 5
  have KK := Aside0.mk k2
  clear k2
  refine last_ (i := 30) (N := none) #[T,T,T,T,T,T,T,T,T,T,T,T,T,T,T,T,T,T,T,T,T,T,T,T,T,T,T,T,T,T,T] rfl rfl (by kernel_rfl) (by decide) (fun K hK => ?_)
  refine skip_ (w1 := ?_) (by rfl) rfl ?_ ?_
  rotate_left
  · go_simp
    rfl
  refine hK.out _ _ ?_
  clear hK K
  refine done_ (by kernel_rfl) ?_
  go_wp2
  have k2 := KK.out
  have q1 := blk_put k2 0 (.int .i64 (d.c 1)) rfl
  have q2 := blk_put q1 1 (.int .i64 (d.c 2)) rfl
  have q3 := blk_put q2 2 (.int .i64 (d.c 3)) rfl
  have q4 := blk_put q3 3 (.int .i64 (d.c 4)) rfl
  have q5 := blk_put q4 4 (.int .i64 d.failed) rfl
  have q6 := blk_put q5 5 (.slice Av d.wear.length cv) rfl
  refine bodyPost_ret (results_cell_row rfl _ _ bx 45 #[.int .i64 (d.c 1), .int .i64 (d.c 2), .int .i64 (d.c 3), .int .i64 (d.c 4), .int .i64 d.failed, .slice Av d.wear.length cv] (0, 0) _ rfl q6 Try.underlying45 rfl (by kernel_rfl)) rfl ?_
  have hb := B1.out.trans ((BD.out.trans (HB.out.mono BD.out.size)).mono B1.out.size)
  have hR : (Kd.int .i64).R 3 w2 w.heap.size (fun k => w.heap.size ≤ k) (.slice Av d.wear.length cv) d.wear := Kd.R_mono (Kd.R_lower HR.out (Nat.le_trans B1.out.size BD.out.size)) (fun k hk => Nat.le_trans (Nat.le_trans B1.out.size BD.out.size) hk)
  refine ⟨_, rfl, (((((hb.setCell LB.out _).setCell LB.out _).setCell LB.out _).setCell LB.out _).setCell LB.out _).setCell LB.out _, ?_⟩
  exact Kd.R_set (Kd.R_set (Kd.R_set (Kd.R_set (Kd.R_set (Kd.R_set hR k2 (by decide) 0 _) q1 (by decide) 1 _) q2 (by decide) 2 _) q3 (by decide) 3 _) q4 (by decide) 4 _) q5 (by decide) 5 _
end
/-! ### Load -/
set_option maxHeartbeats 2000000 in
set_option maxRecDepth 100000 in
theorem load_walk {w : World} {p s r : Nat} {a : Int} (hk : Geo.Ok p s r a) {A : Option Addr} {c : Nat} {x : List Int} (hC : (Kd.int .u8).C w A x.length x) :
    Calls Try.prog 17 #[.agg #[.int .i64 p, .int .i64 s, .int .i64 r, .int .i64 a], .slice A x.length c] w (fun e w' => if x.length = p * s * r then NewSt w { Dv.fresh p s r a with b := x } e w' else e = .returned (.tuple #[.pointer none, .int .i64 1]) ∧ Below w.heap.size w w') := by
  have HC := Aside0.mk hC
  obtain ⟨w1, hw1⟩ : ∃ w1, w.alloc (.cells #[.int .i64 p, .int .i64 s, .int .i64 r, .int .i64 a] 23) = w1 := ⟨_, rfl⟩
  have B1 : Aside0 (Below w.heap.size w w1) := ⟨by rw [← hw1]; exact below_alloc (Below.refl _ _) _⟩
  have K1 : w1.heap[w.heap.size]? = some (.cells #[.int .i64 p, .int .i64 s, .int .i64 r, .int .i64 a] 23 (0, 0)) := by rw [← hw1]; exact blk_new w _
  have KN := Aside0.mk (new_yes (w := w1) hk)
  obtain ⟨ln, hln⟩ : ∃ ln, x.length = ln := ⟨_, rfl⟩
  have HLN := Aside0.mk hln
  rw [hln]
  obtain ⟨Q, hQ⟩ : ∃ Q : Ending → World → Prop, (fun e w' => if ln = p * s * r then NewSt w { Dv.fresh p s r a with b := x } e w' else e = .returned (.tuple #[.pointer none, .int .i64 1]) ∧ Below w.heap.size w w') = Q := ⟨_, rfl⟩
  have HQ := Aside0.mk hQ
  rw [hQ]
  have OKD : Aside0 (1 ≤ p * s * r) := ⟨by
    have bd := Ok.bounds hk
    exact Nat.mul_pos (Nat.mul_pos (by omega) (by omega)) (by omega)⟩
  clear hC hln hQ hk
  go_enter Try.func17, Try.ntmps17
  go_upto_region 1 with (fail)
  clear hw1
  have HLW : Aside0 (w.heap.size ≤ w.heap.size) := ⟨Nat.le_refl _⟩
  generalize w.heap.size = bx at K1 ⊢
  have c0 : w1.cell? ⟨bx, 0, none⟩ = some (.int .i64 p) := blk_cell K1 0
  have c1 : w1.cell? ⟨bx, 1, none⟩ = some (.int .i64 s) := blk_cell K1 1
  have c2 : w1.cell? ⟨bx, 2, none⟩ = some (.int .i64 r) := blk_cell K1 2
  have c3 : w1.cell? ⟨bx, 3, none⟩ = some (.int .i64 a) := blk_cell K1 3
  clear K1
  obtain ⟨bl, hbl⟩ : ∃ bl, p * s * r = bl := ⟨_, rfl⟩
  have HBL := Aside0.mk hbl
  clear hbl
  go_upto_region 2 with (go_at_call 12; refine KN.out.mono ?_; rintro e w2 ⟨hb2, db, rfl, hdb, hall⟩; have B2 := Aside0.mk hb2; have HD := Aside0.mk hall; have LDB := Aside0.mk hdb; clear hb2 hall hdb)
  obtain ⟨im, imc, vu, vf, vw, hg⟩ := HD.out w1.heap.size (fun k => k) (Nat.le_refl _)
  have hbl : (Dv.fresh p s r a).b.length = bl := by rw [← HBL.out]; exact List.length_replicate ..
  have c4 : w2.cell? ⟨db, 4, none⟩ = some (.slice (some ⟨im, 0, none⟩) bl imc) := by rw [← hbl]; exact hg.at_ 4
  have HG := Aside0.mk hg
  have HBB := Aside0.mk hbl
  have C4 := Aside0.mk c4
  clear hg hbl
  by_cases hl : ln = bl
  · have hl2 : (ln : Int) = (bl : Int) := by omega
    have hrun : ∃ w3, (Builtin.copy_ #[24, 24] 3 #[.slice (some ⟨im, 0, none⟩) bl imc, .slice A ln c]).run Try.prog w2 = .ok (goInt ln) w3 ∧ Im w3 im imc x ∧ w2.grownBy w3 (some im) := by
      have hp := OKD.out
      rw [HBL.out] at hp
      obtain ⟨w3, e1, e2, e3, _⟩ := HG.out.img.copy 0 x (by rw [HBB.out, HLN.out]; omega) (dLen := bl) (dCap := imc) (sLen := ln) (sCap := c) (A := A) (by rw [HLN.out, hl]; exact (Nat.min_self bl).symm) (by rw [HLN.out]; omega) ⟨x, by have := Kd.C_below HC.out (B1.out.trans (B2.out.mono B1.out.size)); rw [HLN.out] at this; exact this, by rw [List.take_length]⟩ 3
      rw [HLN.out] at e1
      refine ⟨w3, e1, ?_, e3⟩
      have e : putAt (Dv.fresh p s r a).b 0 x = x := by
        unfold putAt
        rw [List.take_zero, List.nil_append, List.drop_of_length_le (by rw [HBB.out, HLN.out]; omega), List.append_nil]
      rw [e] at e2
      exact e2
    obtain ⟨w3, hrun, hi, hgr⟩ := hrun
    have HI := Aside0.mk hi
    have HGR := Aside0.mk hgr
    have HLL := Aside0.mk hl
    clear hi hgr hl
    go_wp2
    rw [← HQ.out]
    show if ln = p * s * r then _ else _
    rw [if_pos (by rw [HBL.out]; exact HLL.out)]
    have hlen : x.length = (Dv.fresh p s r a).b.length := by rw [HBB.out, HLN.out]; exact HLL.out
    have hw2 := B1.out.trans (B2.out.mono B1.out.size)
    have hb3 : Below w1.heap.size w2 _ := (HG.out.setImg hlen HI.out HGR.out).2.below
    refine ⟨hw2.trans (hb3.mono B1.out.size), db, rfl, Nat.le_trans B1.out.size LDB.out, fun B f hB => ?_⟩
    obtain ⟨im', imc', vu', vf', vw', hg'⟩ := HD.out B (owns f w.heap.size db) (Nat.le_trans hB B1.out.size)
    have eo : owns (owns f w.heap.size db) w1.heap.size db = owns f w.heap.size db := by
      funext k
      by_cases hk : k < w1.heap.size
      · exact owns_old _ _ _ k hk
      · rw [owns_new _ _ _ k (by omega), owns_new _ _ _ k (Nat.le_trans B1.out.size (by omega))]
    rw [eo] at hg'
    have h4 : w2.cell? ⟨db, 4, none⟩ = some (.slice (some ⟨im', 0, none⟩) (Dv.fresh p s r a).b.length imc') := hg'.at_ 4
    rw [C4.out] at h4
    injection h4 with h4
    injection h4 with h5 h6 h7
    injection h5 with h5
    injection h5 with h5
    subst h5
    subst h7
    exact ⟨_, _, _, _, _, (hg'.setImg hlen HI.out HGR.out).1⟩
  · have hl3 : ¬ (ln : Int) = (bl : Int) := by omega
    have HLL := Aside0.mk hl
    clear hl
    have hl2 : (ln : Int) ≠ (bl : Int) := hl3
    go_wp2
    rw [← HQ.out]
    show if ln = p * s * r then _ else _
    rw [if_neg (by rw [HBL.out]; exact HLL.out)]
    exact ⟨rfl, B1.out.trans (B2.out.mono B1.out.size)⟩
/-! ### Load, where New refuses -/
set_option maxHeartbeats 2000000 in
set_option maxRecDepth 100000 in
theorem load_no {w : World} {p s r a : Int} (hk : chk p s r a = 20) {A : Option Addr} {n c : Nat} :
    Calls Try.prog 17 #[.agg #[.int .i64 p, .int .i64 s, .int .i64 r, .int .i64 a], .slice A n c] w (fun e w' => e = .returned (.tuple #[.pointer none, .int .i64 20]) ∧ Below w.heap.size w w') := by
  obtain ⟨w1, hw1⟩ : ∃ w1, w.alloc (.cells #[.int .i64 p, .int .i64 s, .int .i64 r, .int .i64 a] 23) = w1 := ⟨_, rfl⟩
  have B1 : Aside0 (Below w.heap.size w w1) := ⟨by rw [← hw1]; exact below_alloc (Below.refl _ _) _⟩
  have K1 : w1.heap[w.heap.size]? = some (.cells #[.int .i64 p, .int .i64 s, .int .i64 r, .int .i64 a] 23 (0, 0)) := by rw [← hw1]; exact blk_new w _
  have KN := Aside0.mk (new_no (w := w1) hk)
  obtain ⟨Q, hQ⟩ : ∃ Q : Ending → World → Prop, (fun e w' => e = .returned (.tuple #[.pointer none, .int .i64 20]) ∧ Below w.heap.size w w') = Q := ⟨_, rfl⟩
  have HQ := Aside0.mk hQ
  rw [hQ]
  clear hQ hk
  go_enter Try.func17, Try.ntmps17
  go_upto_region 1 with (fail)
  clear hw1
  generalize w.heap.size = bx at K1 ⊢
  have c0 : w1.cell? ⟨bx, 0, none⟩ = some (.int .i64 p) := blk_cell K1 0
  have c1 : w1.cell? ⟨bx, 1, none⟩ = some (.int .i64 s) := blk_cell K1 1
  have c2 : w1.cell? ⟨bx, 2, none⟩ = some (.int .i64 r) := blk_cell K1 2
  have c3 : w1.cell? ⟨bx, 3, none⟩ = some (.int .i64 a) := blk_cell K1 3
  clear K1
  go_wp2_with (go_at_call 12; refine KN.out.mono ?_; rintro e w2 ⟨rfl, hb2⟩; have B2 := Aside0.mk hb2; clear hb2)
  rw [← HQ.out]
  exact ⟨rfl, B1.out.trans (B2.out.mono B1.out.size)⟩
/-! ### What is compared -/
theorem drop_same {l r : List Int} {i : Nat} (hl : i < l.length) (hr : i < r.length) : l.drop i = r.drop i ↔ rd l (i : Int) = rd r (i : Int) ∧ l.drop (i + 1) = r.drop (i + 1) := by
  rw [List.drop_eq_getElem_cons hl, List.drop_eq_getElem_cons hr, List.cons.injEq]
  have h1 := rd_get l i hl
  have h2 := rd_get r i hr
  rw [List.getElem?_eq_getElem hl] at h1
  rw [List.getElem?_eq_getElem hr] at h2
  injection h1 with h1
  injection h2 with h2
  rw [h1, h2]
theorem sameB_loop (l r : List Int) (he : l.length = r.length) (hl : l.length < 4611686018427387904) (d : Nat) : ∀ (k i : Nat), i + d = l.length → d < k → cellarlaw03_sameBytes.l0 k l r (i : Int) = some (decide (l.drop i = r.drop i)) := by
  induction d with
  | zero =>
    intro k i hi hk
    obtain ⟨k, rfl⟩ : ∃ m, k = m + 1 := ⟨k - 1, by omega⟩
    unfold cellarlaw03_sameBytes.l0
    rw [if_neg (by omega), decide_eq_true]
    rw [List.drop_of_length_le (by omega), List.drop_of_length_le (by omega)]
  | succ d ih =>
    intro k i hi hk
    obtain ⟨k, rfl⟩ : ∃ m, k = m + 1 := ⟨k - 1, by omega⟩
    unfold cellarlaw03_sameBytes.l0
    rw [if_pos (by omega), if_pos (by omega), if_pos (by omega)]
    have h := drop_same (l := l) (r := r) (i := i) (by omega) (by omega)
    by_cases hh : rd l (i : Int) = rd r (i : Int)
    · rw [if_pos hh, wS (by omega), ih k (i + 1) (by omega) (by omega)]
      congr 1
      rw [decide_eq_decide, h]
      exact ⟨fun e => ⟨hh, e⟩, fun e => e.2⟩
    · rw [if_neg hh, decide_eq_false (fun e => hh (h.1 e).1)]
theorem sameB_eq (l r : List Int) (hl : l.length < 4611686018427387904) : cellarlaw03_sameBytes.f (l.length + 1) l r = some (decide (l = r)) := by
  unfold cellarlaw03_sameBytes.f
  by_cases he : l.length = r.length
  · rw [if_pos (by omega)]
    exact sameB_loop l r he hl l.length (l.length + 1) 0 (by omega) (by omega)
  · rw [if_neg (by omega), decide_eq_false (fun e => he (by rw [e]))]
theorem sameI_loop (l r : List Int) (he : l.length = r.length) (hl : l.length < 4611686018427387904) (d : Nat) : ∀ (k i : Nat), i + d = l.length → d < k → cellarlaw03_sameInts.l0 k l r (i : Int) = some (decide (l.drop i = r.drop i)) := by
  induction d with
  | zero =>
    intro k i hi hk
    obtain ⟨k, rfl⟩ : ∃ m, k = m + 1 := ⟨k - 1, by omega⟩
    unfold cellarlaw03_sameInts.l0
    rw [if_neg (by omega), decide_eq_true]
    rw [List.drop_of_length_le (by omega), List.drop_of_length_le (by omega)]
  | succ d ih =>
    intro k i hi hk
    obtain ⟨k, rfl⟩ : ∃ m, k = m + 1 := ⟨k - 1, by omega⟩
    unfold cellarlaw03_sameInts.l0
    rw [if_pos (by omega), if_pos (by omega), if_pos (by omega)]
    have h := drop_same (l := l) (r := r) (i := i) (by omega) (by omega)
    by_cases hh : rd l (i : Int) = rd r (i : Int)
    · rw [if_pos hh, wS (by omega), ih k (i + 1) (by omega) (by omega)]
      congr 1
      rw [decide_eq_decide, h]
      exact ⟨fun e => ⟨hh, e⟩, fun e => e.2⟩
    · rw [if_neg hh, decide_eq_false (fun e => hh (h.1 e).1)]
theorem sameI_eq (l r : List Int) (hl : l.length < 4611686018427387904) : cellarlaw03_sameInts.f (l.length + 1) l r = some (decide (l = r)) := by
  unfold cellarlaw03_sameInts.f
  by_cases he : l.length = r.length
  · rw [if_pos (by omega)]
    exact sameI_loop l r he hl l.length (l.length + 1) 0 (by omega) (by omega)
  · rw [if_neg (by omega), decide_eq_false (fun e => he (by rw [e]))]
theorem sameC_eq (a b c d e : Int) (l : List Int) (hl : l.length < 4611686018427387904) : cellarlaw03_sameCounts.f (l.length + 1) a b c d e l a b c d e l = some true := by
  unfold cellarlaw03_sameCounts.f
  rw [if_pos rfl, if_pos rfl, if_pos rfl, if_pos rfl, if_pos rfl, sameI_eq l l hl, decide_eq_true rfl, Option.bind_some]
/-- Bytes compared. -/
theorem sameBytes_walk {w : World} {A A' : Option Addr} {c c' : Nat} {l r : List Int} (h : (Kd.int .u8).C w A l.length l) (hc : l.length ≤ c) (h' : (Kd.int .u8).C w A' r.length r) (hc' : r.length ≤ c') (hl : l.length < 4611686018427387904) :
    Calls Try.prog 14 #[.slice A l.length c, .slice A' r.length c'] w (Told w (.bool (decide (l = r)))) :=
  cellarlaw03_sameBytes.calls (l.length + 1) A c l A' c' r _ w h hc h' hc' (sameB_eq l r hl)
theorem sameInts_walk {w : World} {A A' : Option Addr} {c c' : Nat} {l r : List Int} (h : (Kd.int .i64).C w A l.length l) (hc : l.length ≤ c) (h' : (Kd.int .i64).C w A' r.length r) (hc' : r.length ≤ c') (hl : l.length < 4611686018427387904) :
    Calls Try.prog 29 #[.slice A l.length c, .slice A' r.length c'] w (Told w (.bool (decide (l = r)))) :=
  cellarlaw03_sameInts.calls (l.length + 1) A c l A' c' r _ w h hc h' hc' (sameI_eq l r hl)
theorem sameCounts_walk {w : World} {n0 n1 n2 n3 n4 : Int} {A A' : Option Addr} {c c' : Nat} {l : List Int} (h : (Kd.int .i64).C w A l.length l) (hc : l.length ≤ c) (h' : (Kd.int .i64).C w A' l.length l) (hc' : l.length ≤ c') (hl : l.length < 4611686018427387904) :
    Calls Try.prog 19 #[.agg #[.int .i64 n0, .int .i64 n1, .int .i64 n2, .int .i64 n3, .int .i64 n4, .slice A l.length c], .agg #[.int .i64 n0, .int .i64 n1, .int .i64 n2, .int .i64 n3, .int .i64 n4, .slice A' l.length c']] w (fun e w' => e = .returned (.bool true) ∧ Below w.heap.size w w') :=
  cellarlaw03_sameCounts.calls (l.length + 1) n0 n1 n2 n3 n4 A c l n0 n1 n2 n3 n4 A' c' l _ w h hc h' hc' (sameC_eq n0 n1 n2 n3 n4 l hl)
def Same0 (w : World) (v : Value) (en : Ending) (w' : World) : Prop := en = .returned v ∧ w = w'
def Near (w : World) (v : Value) (en : Ending) (w' : World) : Prop := en = .returned v ∧ Below w.heap.size w w'
/-! ### lives -/
def xL : List Int := [48, 49, 50, 51, 52, 53, 54, 55, 56, 57, 97, 98, 99, 100, 101, 102, 48, 49, 50, 51, 52, 53, 54, 55, 56, 57, 97, 98, 99, 100, 101, 102]
def dL : Dv := Dv.fresh 32 4 2 8
theorem okL : Geo.Ok ((32 : Nat) : Int) ((4 : Nat) : Int) ((2 : Nat) : Int) 8 := by decide
theorem dL_ok : dL.Ok := fresh_ok okL
theorem pL1 : (dL.program 0 xL).2 = 0 := by decide +kernel
theorem pL2 : ((dL.program 0 xL).1.program 0 xL).2 = 31 := by decide +kernel
theorem pL3 : (((dL.program 0 xL).1.program 0 xL).1.read 0).2.2 = 0 := by decide +kernel
theorem pL4 : (((dL.program 0 xL).1.program 0 xL).1.read 0).2.1 = xL := by decide +kernel
theorem pL5 : (((dL.program 0 xL).1.program 0 xL).1.read 0).1.next 0 = 1 := by decide +kernel
theorem xL_b : ∀ y ∈ xL, 0 ≤ y ∧ y < 256 := by decide +kernel
theorem pL6 : ((dL.program 0 xL).1.un.length + 1) * 8 ≤ 140737488355328 := by decide +kernel
/-- Bytes that lie in a block, marked or not. -/
theorem C_of_bytes {w : World} {g : Nat} {fr : Nat × Nat} {l : List Int} (hb : w.heap[g]? = some (.cells (by8 l).toArray 5 fr)) (hl : l.length ≤ 9223372036854775807) : (Kd.int .u8).C w (some ⟨g, 0, none⟩) l.length l := by
  refine ⟨rfl, hl, fun hn => ⟨⟨g, 0, none⟩, rfl, fun j p hp => ?_⟩⟩
  refine ⟨[.int .u8 p], rfl, rfl, fun q u hu => ?_⟩
  have hq : q = 0 := by have := (List.getElem?_eq_some_iff.1 hu).1; simp at this; omega
  subst hq
  injection hu with hu
  subst hu
  rw [show j * (Kd.int .u8).sz + 0 = j from Nat.mul_one j, add_off, Nat.zero_add]
  rw [cell_of_row w g j _ 5 fr hb, List.getElem?_toArray]
  unfold by8
  rw [List.getElem?_map, hp]
  rfl
def OnL (w : World) (db g1 : Nat) (w3 : World) : Prop := Below w.heap.size w w3 ∧ ∃ f, DevX w.heap.size f w3 db dL ∧ w3.heap[g1]? = some (.cells (by8 xL).toArray 5 (32, 33)) ∧ f g1 ≠ db
theorem onL_mk {w w1 w2 : World} {db : Nat} (h1 : Below w.heap.size w w1) (h2 : Below w1.heap.size w1 w2) (hall : ∀ (B : Nat) (f : Owner), B ≤ w1.heap.size → ∃ im imc vu vf vw, DevG B (owns f w1.heap.size db) w2 db dL im imc vu vf vw) :
    OnL w db w2.heap.size (w2.alloc (.cells (by8 xL).toArray 5 (32, 33))) := by
  have hx : DevX w.heap.size (owns (fun k => k) w1.heap.size db) w2 db dL := hall _ _ h1.size
  have bl := below_alloc (Below.refl w2.heap.size w2) (.cells (by8 xL).toArray 5 (32, 33))
  obtain ⟨g1, g2, _⟩ := hx.boxed bl
  exact ⟨(h1.trans (h2.mono h1.size)).trans (bl.mono (h1.trans (h2.mono h1.size)).size), _, g1, blk_new w2 _, g2 _ (Nat.le_refl _)⟩
theorem ul_small {l : List Int} (h : (l.length + 1) * 8 ≤ 140737488355328) : (l.length + 1) * 8 ≤ 140737488355328 := h
set_option maxHeartbeats 4000000 in
set_option maxRecDepth 100000 in
theorem lives_walk (w : World) : Calls Try.prog 11 #[] w (Near w (.bool true)) := by
  have KN := Aside0.mk (fun (w1 : World) => (show Calls Try.prog 12 #[.agg #[.int .i64 32, .int .i64 4, .int .i64 2, .int .i64 8]] w1 (NewSt w1 dL) from new_yes (w := w1) okL))
  have kc := fun (w : World) (C : Array Value) (n c : Nat) => Lib.run_convert_bytes_const (P := Try.prog) w 24 5 C n c Try.underlying24 Try.underlying5
  go_enter Try.func11, Try.ntmps11
  go_upto_region 5 with (first
    | (go_at_call 35; refine (cellarlaw03_small.calls 32 4 2 8 _ rfl).mono ?_; rintro e w1 ⟨rfl, hb1⟩; have B1 := Aside0.mk hb1; clear hb1)
    | (go_at_call 12; refine (KN.out _).mono ?_; rintro e w2 ⟨hb2, db, rfl, hdb, hall⟩; have B2 := Aside0.mk hb2; have HD := Aside0.mk hall; clear hb2 hall hdb))
  have S3 := Aside0.mk (onL_mk B1.out B2.out HD.out)
  obtain ⟨w3, hw3⟩ : ∃ w3, w2.alloc (.cells (by8 xL).toArray 5 (32, 33)) = w3 := ⟨_, rfl⟩
  rw [hw3] at S3
  have hw3' : w2.alloc (.cells #[.int .u8 48, .int .u8 49, .int .u8 50, .int .u8 51, .int .u8 52, .int .u8 53, .int .u8 54, .int .u8 55, .int .u8 56, .int .u8 57, .int .u8 97, .int .u8 98, .int .u8 99, .int .u8 100, .int .u8 101, .int .u8 102, .int .u8 48, .int .u8 49, .int .u8 50, .int .u8 51, .int .u8 52, .int .u8 53, .int .u8 54, .int .u8 55, .int .u8 56, .int .u8 57, .int .u8 97, .int .u8 98, .int .u8 99, .int .u8 100, .int .u8 101, .int .u8 102] 5 (32, 33)) = w3 := hw3
  rw [hw3']
  obtain ⟨g1, hg1⟩ : ∃ g1, w2.heap.size = g1 := ⟨_, rfl⟩
  rw [hg1] at S3
  rw [hg1]
  clear hw3 hw3' hg1 kc KN HD B1 B2
  obtain ⟨hB3, f3, hx3, hb3, hn3⟩ := S3.out
  have KP1 : Aside0 (Calls Try.prog 34 #[.pointer (some ⟨db, 0, none⟩), .int .i64 0, .slice (some ⟨g1, 0, none⟩) 32 32] w3 (fun e w' => e = .returned (.int .i64 0) ∧ DevA w.heap.size f3 w3 db (dL.program 0 xL).1 w')) := ⟨by
    have h := program_walk hx3 dL_ok 0 (A := some ⟨g1, 0, none⟩) (c := 32) (x := xL) xL_b (by decide) ⟨fun d2 w2 hA => C_of_bytes (hA.blk hb3 hn3) (by decide)⟩
    rw [pL1] at h
    exact h⟩
  go_wp2_with (fail)
  go_at_call 34
  refine KP1.out.mono ?_
  rintro e w4 ⟨rfl, hA4⟩
  have hb4 := hA4.blk hb3 hn3
  obtain ⟨f4, hx4, m4⟩ := hA4
  have hn4 : f4 g1 ≠ db := by rw [m4.old g1 (blk_lt hb3)]; exact hn3
  have KP2 : Aside0 (Calls Try.prog 34 #[.pointer (some ⟨db, 0, none⟩), .int .i64 0, .slice (some ⟨g1, 0, none⟩) 32 32] w4 (fun e w' => e = .returned (.int .i64 31) ∧ DevA w.heap.size f4 w4 db ((dL.program 0 xL).1.program 0 xL).1 w')) := ⟨by
    have h := program_walk hx4 (program_ok dL_ok 0 xL_b) 0 (A := some ⟨g1, 0, none⟩) (c := 32) (x := xL) xL_b pL6 ⟨fun d2 w2 hA => C_of_bytes (hA.blk hb4 hn4) (by decide)⟩
    rw [pL2] at h
    exact h⟩
  have B4 := Aside0.mk (hB3.trans m4.below)
  clear KP1 hx3 hb3 hn3 m4 hB3 S3
  go_wp2_with (fail)
  go_at_call 34
  refine KP2.out.mono ?_
  rintro e w5 ⟨rfl, hA5⟩
  have hb5 := hA5.blk hb4 hn4
  obtain ⟨f5, hx5, m5⟩ := hA5
  have hn5 : f5 g1 ≠ db := by rw [m5.old g1 (blk_lt hb4)]; exact hn4
  have ok5 : ((dL.program 0 xL).1.program 0 xL).1.Ok := program_ok (program_ok dL_ok 0 xL_b) 0 xL_b
  have KR : Aside0 (Calls Try.prog 26 #[.pointer (some ⟨db, 0, none⟩), .int .i64 0] w5 (ReadSt w.heap.size f5 w5 db (((dL.program 0 xL).1.program 0 xL).1.read 0).1 xL 0)) := ⟨by
    have h := read_walk hx5 ok5 0
    rw [pL3, pL4] at h
    exact h⟩
  have OK6 := Aside0.mk (read_ok ok5 0)
  have N6 := Aside0.mk pL5
  obtain ⟨d6, hd6⟩ : ∃ d6, (((dL.program 0 xL).1.program 0 xL).1.read 0).1 = d6 := ⟨_, rfl⟩
  rw [hd6] at KR OK6 N6
  have B5 := Aside0.mk (B4.out.trans m5.below)
  have HB5 := Aside0.mk (And.intro hb5 hn5)
  clear KP2 hx4 hb4 hn4 m5 B4 hx5 hb5 hn5 ok5 hd6
  go_upto_region 8 with (go_at_call 26; refine KR.out.mono ?_; rintro e w6 ⟨v, f6, rfl, hx6, m6, hR6⟩; obtain ⟨A6, c6, ev⟩ := Kd.R_slice hR6; subst ev; have X6 := Aside0.mk hx6; have M6 := Aside0.mk m6; have R6 := Aside0.mk hR6; clear hx6 m6 hR6)
  have b6 := M6.out.blk HB5.out.1 HB5.out.2
  have KS : Aside0 (Calls Try.prog 14 #[.slice A6 32 c6, .slice (some ⟨g1, 0, none⟩) 32 32] w6 (Told w6 (.bool true))) := ⟨by
    have h := sameBytes_walk (l := xL) (r := xL) (Kd.R_reads' R6.out).2.2 (Kd.R_reads' R6.out).2.1 (c' := 32) (C_of_bytes b6 (by decide)) (by decide) (by decide)
    rw [decide_eq_true rfl] at h
    exact h⟩
  have KX : Aside0 (∀ w', Below w6.heap.size w6 w' → Calls Try.prog 28 #[.pointer (some ⟨db, 0, none⟩), .int .i64 0] w' (fun e w'' => e = .returned (.int .i64 1) ∧ Below w'.heap.size w' w'')) := ⟨fun w' hb => by
    obtain ⟨_, _, _, _, _, hg⟩ := X6.out.below hb
    have h := next_walk hg OK6.out 0
    rw [N6.out] at h
    exact h⟩
  have B6 := Aside0.mk (B5.out.trans M6.out.below)
  clear b6 KR
  have e32 : xL.length = 32 := rfl
  go_wp2_with (first
    | (go_at_call 14; refine KS.out.mono ?_; rintro e w7 ⟨rfl, hd⟩; have D7 := Aside0.mk hd.below; clear hd)
    | (go_at_call 28; refine (KX.out _ D7.out).mono ?_; rintro e w8 ⟨rfl, hb⟩; have D8 := Aside0.mk hb; clear hb))
  go_ret
  exact ⟨rfl, B6.out.trans ((D7.out.trans (D8.out.mono D7.out.size)).mono B6.out.size)⟩
end Go.Proofs.Ytnkbebdgkidbjaa.Flash
