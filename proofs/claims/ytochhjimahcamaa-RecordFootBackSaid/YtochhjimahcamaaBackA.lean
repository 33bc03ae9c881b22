/- The law RecordFootBack, walked by hand.
   No condition. -/
import Derived.Test.YtochhjimahcamaaFootB
import Derived.ArgAppend
import Derived.Lib.SlBytesConst
import Derived.BigRegion
import Derived.Deep.QuietTactic
import Derived.BigQuiet
import Derived.Deep.RegionHeld3
import Derived.ChangeAlike
import Derived.RegionTactic
import Derived.Laws.CopyOwn
namespace Go.Proofs.Ytochhjimahcamaa.QRecordEncodes
open Geo Crc
open Go.RowKit Go.Proofs.YtochhjimahcamaaW.PrintWords Go.Proofs.YtochhjimahcamaaW.PrintLast Go.Proofs.YtochhjimahcamaaW.PrintMore
set_option linter.unusedVariables false
set_option linter.unusedSimpArgs false
/-- 'copy' into a row of one's own: the row behind it, and nothing else has turned. -/
theorem wpList_copy_grown {P : Program} {w : World} {ops : Array Oper} {rest : List Oper} {o : Oper} {a : Act} {Q : Exit → Act → World → Prop} (hgd : o.guard = none) (d s : Operand) (dT sT : TypeId)
    (ho : o.op = .call { callee := .builtin .copy, args := #[d, s], argTypes := #[dT, sT] }) (elem : TypeId) (hu : P.underlying dT = some (.slice elem)) (hsz : (P.info? elem).map (·.size) = some 1)
    (dp sp : Option Addr) (dLen dCap sLen sCap : Nat) (hd : a.eval d = .slice dp dLen dCap) (hs : a.eval s = .slice sp sLen sCap)
    (g off : Nat) (cur : List Value) (t : TypeId) (hg : w.heap[g]? = some (.cells cur.toArray t (0, 0))) (cs : List Value) (hn : cs.length = Nat.min sLen dLen)
    (hpos : 0 < cs.length → dp = some ⟨g, off, none⟩ ∧ ∃ ad, sp = some ad ∧ ∀ j v, cs[j]? = some v → w.cell? (ad.add j) = some v)
    (hfit : off + cs.length ≤ cur.length) (h1 : ∀ v ∈ cs, v.oneCell' = true)
    (h : ∀ w', w'.heap[g]? = some (.cells (splice cur off cs).toArray t (0, 0)) → w.grownBy w' (some g) → wpList P ops Q rest (a.put o.dst (goInt cs.length)) w') :
    wpList P ops Q (o :: rest) a w := by
  by_cases h0 : cs.length = 0
  · obtain rfl : cs = [] := List.eq_nil_of_length_eq_zero h0
    refine wpList_copy_nothing hgd d s dT sT ho elem hu hsz dp sp dLen dCap sLen sCap hd hs (by simpa using hn.symm) ?_
    exact h w (by simpa [splice] using hg) ⟨rfl, rfl, rfl, Nat.le_refl _, fun _ _ _ => rfl⟩
  · obtain ⟨rfl, ad, rfl, hsrc⟩ := hpos (by omega)
    refine wpList_copy_own hgd d s dT sT ho elem hu hsz g off dLen dCap ad sLen sCap hd hs cur.toArray t hg cs hn hsrc (by simpa using hfit) h1 ?_
    exact h _ (by simpa [splice] using setRow_heap w g _ _ t _ hg) ⟨rfl, rfl, rfl, by simp [World.setRow], fun k _ hk => setRow_other w g k _ (fun e => hk (by rw [e]))⟩
theorem take_app_len {α : Type} (A B : List α) (m : Nat) (h : A.length = m) : (A ++ B).drop m = B := by rw [← h]; exact List.drop_left
/-- The four numbers of a region that ends with a foot. -/
theorem fourth_foot (A : List Nat) (n u s t : Nat) (hn : n < 4294967296) (hu : u < 4294967296) (hs : s < 4294967296) (ht : t < 4294967296) :
    fourth (A ++ foot n u s t) 1 = n ∧ fourth (A ++ foot n u s t) 2 = u ∧ fourth (A ++ foot n u s t) 3 = s ∧ fourth (A ++ foot n u s t) 4 = t := by
  have hl : (A ++ foot n u s t).length - 24 = A.length := by rw [List.length_append, foot_length]; omega
  have hd : ∀ i, (A ++ foot n u s t).drop (A.length + i) = (foot n u s t).drop i := fun i => by rw [List.drop_append, List.drop_of_length_le (by omega), List.nil_append, Nat.add_sub_cancel_left]
  have e4 : ∀ x, (leb 4 x).length = 4 := fun x => leb_length 4 x
  have e : (256 : Nat) ^ 4 = 4294967296 := by decide
  have key : ∀ (P : List Nat) (x : Nat) (R : List Nat) (i : Nat), P.length = i → x < 4294967296 → num (((P ++ leb 4 x ++ R).drop i).take 4) = x := fun P x R i hP hx => by
    rw [List.append_assoc, take_app_len P _ i hP, List.take_append_of_le_length (by rw [e4]; omega), List.take_of_length_le (by rw [e4]; omega), num_leb, e, Nat.mod_eq_of_lt hx]
  unfold fourth
  rw [hl]
  refine ⟨?_, ?_, ?_, ?_⟩
  · rw [hd, show foot n u s t = [67, 76, 82, 70] ++ leb 4 n ++ (leb 4 u ++ leb 4 s ++ leb 4 t ++ leb 4 (ext 0 (fbody n u s t))) by simp [foot, fbody]]
    exact key _ _ _ _ rfl hn
  · rw [hd, show foot n u s t = ([67, 76, 82, 70] ++ leb 4 n) ++ leb 4 u ++ (leb 4 s ++ leb 4 t ++ leb 4 (ext 0 (fbody n u s t))) by simp [foot, fbody]]
    exact key _ _ _ _ (by simp [e4]) hu
  · rw [hd, show foot n u s t = ([67, 76, 82, 70] ++ leb 4 n ++ leb 4 u) ++ leb 4 s ++ (leb 4 t ++ leb 4 (ext 0 (fbody n u s t))) by simp [foot, fbody]]
    exact key _ _ _ _ (by simp [e4]) hs
  · rw [hd, show foot n u s t = ([67, 76, 82, 70] ++ leb 4 n ++ leb 4 u ++ leb 4 s) ++ leb 4 t ++ (leb 4 (ext 0 (fbody n u s t))) by simp [foot, fbody]]
    exact key _ _ _ _ (by simp [e4]) ht
theorem efoot_yes {p s r a : Int} (ho : Ok p s r a) (n u x y : Nat) (hn : n ≤ 2147483647) (h0 : 32 ≤ u) (h1 : (u : Int) ≤ p * s - 24) : efoot p s r a (n : Int) (u : Int) x y = (foot n u x y, 0) := by
  unfold efoot
  rw [if_pos ho, if_neg (by omega), Int.toNat_natCast, Int.toNat_natCast]
/-- What Foot answers of a region that ends with a foot. -/
theorem ffoot_foot {p s r a : Int} (ho : Ok p s r a) (A : List Nat) (n u x t : Nat) (hA : (A.length : Int) + 24 = p * s) (hn : n ≤ 2147483647) (h0 : 32 ≤ u) (h1 : u ≤ A.length) (hx : x < 4294967296) (ht : t < 4294967296) :
    ffoot p s r a (A ++ foot n u x t) = if ext 0 (A.take u) = t then ((n, u, x, t), 0) else ((0, 0, 0, 0), 51) := by
  have b := Ok.bounds ho
  obtain ⟨f1, f2, f3, f4⟩ := fourth_foot A n u x t (by omega) (by omega) hx ht
  unfold ffoot
  rw [if_pos ho, if_pos (by rw [List.length_append, foot_length]; omega), f1, f2, f3, f4, efoot_yes ho n u x t hn h0 (by omega), List.take_append_of_le_length h1, List.length_append, foot_length, Nat.add_sub_cancel, List.drop_left]
  simp only [true_and]
theorem num_put (v : Nat) (hv : v < 256) : ∀ (l : List Nat) (j : Nat), Bytes l → j < l.length → num l ^^^ num (l.set j v) = 2 ^ (8 * j) * (l.getD j 0 ^^^ v) := by
  have hs : ∀ x y, 2 ^ 8 * (x ^^^ y) = 2 ^ 8 * x ^^^ 2 ^ 8 * y := fun x y => by
    apply Nat.eq_of_testBit_eq; intro i
    simp only [Nat.testBit_xor, Nat.testBit_two_pow_mul]
    by_cases c : 8 ≤ i <;> simp [c]
  intro l
  induction l with
  | nil => intro j _ hj; exact absurd hj (by simp)
  | cons b l ih =>
    intro j hb hj
    have hb0 := hb b (by simp)
    cases j with
    | zero =>
      simp only [List.set_cons_zero, List.getD_cons_zero, Nat.mul_zero, Nat.pow_zero, Nat.one_mul]
      rw [num_cons _ _ hv, num_cons b l hb0, Nat.xor_comm (2 ^ 8 * num l) b, Nat.xor_assoc, xor_twice]
    | succ j =>
      simp only [List.set_cons_succ, List.getD_cons_succ]
      rw [num_cons b (l.set j v) hb0, num_cons b l hb0, Nat.xor_comm (2 ^ 8 * num (l.set j v)) b, Nat.xor_assoc, xor_twice, ← hs, ih j (fun y hy => hb y (by simp [hy])) (by simpa using hj), ← Nat.mul_assoc, ← Nat.pow_add, show 8 + 8 * j = 8 * (j + 1) by omega]
theorem bytes_set {l : List Nat} (h : Bytes l) (j v : Nat) (hv : v < 256) : Bytes (l.set j v) := fun b hb => by
  rcases List.mem_or_eq_of_mem_set hb with h' | rfl
  · exact h b h'
  · exact hv
/-- A byte that is another one is told. -/
theorem ext_set_ne (l : List Nat) (j v : Nat) (hb : Bytes l) (hj : j < l.length) (hv : v < 256) (hne : l.getD j 0 ≠ v) : ext 0 (l.set j v) ≠ ext 0 l := by
  have hg : l.getD j 0 < 256 := by rw [List.getD_eq_getElem?_getD, List.getElem?_eq_getElem hj]; exact hb _ (List.getElem_mem hj)
  have hT : l.getD j 0 ^^^ v ≠ 0 := fun e => hne (by have := congrArg (fun x => l.getD j 0 ^^^ x) e; simp only [xor_twice, Nat.xor_zero] at this; exact this.symm)
  have h := burst (4294967295 ^^^ 0) (l.getD j 0 ^^^ v) (8 * j) l (l.set j v) hb (bytes_set hb j v hv) (by simp) (num_put v hv l j hb hj) (by omega) (Nat.lt_of_lt_of_le (Nat.xor_lt_two_pow (n := 8) hg hv) (by decide)) hT
  intro e
  unfold ext at e
  have e2 := congrArg (fun x => 4294967295 ^^^ x) e
  simp only [xor_twice] at e2
  exact h e2.symm
theorem ffoot_nil (p s r a : Int) : ffoot p s r a [] = ((0, 0, 0, 0), if Ok p s r a then 51 else 20) := by
  unfold ffoot
  by_cases h : Ok p s r a
  · have b := Ok.bounds h
    rw [if_pos h, if_pos h, if_neg (by simp; omega)]
  · rw [if_neg h, if_neg h]
set_option maxHeartbeats 4000000 in
set_option maxRecDepth 100000 in
theorem check_walk (p s r a : Int) (w : World) :
    Calls Try.prog 25 #[.agg #[.int .i64 p, .int .i64 s, .int .i64 r, .int .i64 a]] w fun e w' => e = .returned (.int .i64 (if Ok p s r a then 0 else 20)) ∧ Below w.heap.size w w' := by
  have HB := Aside0.mk ((Below.refl w.heap.size w).alloc (Nat.le_refl _) (.cells #[.int .i64 p, .int .i64 s, .int .i64 r, .int .i64 a] 23))
  have H : Aside0 (∀ w', Calls Try.prog 24 #[.agg #[.int .i64 p, .int .i64 s, .int .i64 r, .int .i64 a], .slice none 0 0] w' fun e w'' => e = .returned (.tuple #[.agg #[.int .i64 0, .int .i64 0, .int .u32 0, .int .u32 0], .int .i64 (if Ok p s r a then 51 else 20)]) ∧ Below w'.heap.size w' w'') := ⟨fun w' => by
    have h := rfoot_walk p s r a none 0 [] (fun _ h => by cases h) (by decide) w' ⟨rfl, by decide, fun h => absurd h (by simp [ints])⟩ (Nat.le_refl _)
    rw [ffoot_nil] at h
    exact h⟩
  by_cases ho : Ok p s r a
  · rw [if_pos ho] at H ⊢
    clear ho
    go_enter Try.func25, Try.ntmps25
    go_wp2_with (go_at_call 24; refine (H.out _).mono ?_; rintro e w1 ⟨rfl, hb1⟩; have B1 := Aside0.mk (below_then HB.out HB.out.size hb1); clear hb1)
    go_ret
    exact ⟨rfl, below_alloc B1.out _⟩
  · rw [if_neg ho] at H ⊢
    clear ho
    go_enter Try.func25, Try.ntmps25
    go_wp2_with (go_at_call 24; refine (H.out _).mono ?_; rintro e w1 ⟨rfl, hb1⟩; have B1 := Aside0.mk (below_then HB.out HB.out.size hb1); clear hb1)
    go_ret
    exact ⟨rfl, below_alloc B1.out _⟩
theorem crc26_walk (A : Option Addr) (c : Nat) (bs : List Nat) (hb : Bytes bs) (hl : bs.length < 4611686018427387904) (w : World) (hC : Kd.C (Kd.int .u8) w A (ints bs).length (ints bs)) (hc : (ints bs).length ≤ c) :
    Calls Try.prog 26 #[.slice A (ints bs).length c] w fun e w' => e = .returned (.int .u32 ((ext 0 bs : Nat) : Int)) ∧ Drawn0 w w' := by
  have H := cellarref01_Crc.calls (10 * bs.length + 10) A c (ints bs) ((ext 0 bs : Nat) : Int) w hC hc (rcrc_eq (10 * bs.length + 10) bs hb (by omega) (by omega))
  obtain ⟨v, hv⟩ : ∃ v, ((ext 0 bs : Nat) : Int) = v := ⟨_, rfl⟩
  obtain ⟨n, hn⟩ : ∃ n, (ints bs).length = n := ⟨_, rfl⟩
  rw [hv, hn] at H
  rw [hv, hn]
  have HH := Aside0.mk H
  clear H hv hn hC hc hb hl
  go_enter Try.func26, Try.ntmps26
  go_wp2_with (go_at_call 33; refine HH.out.mono ?_; rintro e w1 ⟨rfl, hd⟩)
  go_ret
  exact ⟨rfl, hd⟩
theorem make_bytes (n : Nat) (h : n ≤ 140737488351232) (W : World) : (Instr.makeSlice 28 (.int .i64 (n : Int)) (.int .i64 (n : Int))).run Try.prog W = .ok (.slice (some ⟨W.heap.size, 0, none⟩) n n) (W.alloc (.cells (nums .u8 (List.replicate n 0)).toArray 5)) := by
  obtain ⟨i0, hi, hz0, hz1, hz2⟩ := info_parts (show (Try.prog.info? 5).map (fun i => (i.zero, i.size, i.bytes)) = some (some (.int .u8 0), 1, 1) by kernel_rfl)
  have := run_make (P := Try.prog) W 28 5 i0 (.int .u8 0) Try.underlying28 hi hz0 .i64 .i64 (n : Int) (n : Int) (by omega) (by omega) (by rw [hz2]; omega) (by omega)
  rw [this, hz1]
  rw [Int.toNat_natCast]
  congr 3
  apply Array.toList_inj.1
  simp [madeCells, nums, Value.cells]
  rw [List.eq_replicate_iff]
  refine ⟨by simp, fun b hb => ?_⟩
  obtain ⟨x, _, rfl⟩ := List.mem_map.1 hb
  simp [Nat.mod_one]
theorem src_of {k : IntKind} {w : World} {A : Option Addr} {n : Nat} {l : List Int} (h : Kd.C (Kd.int k) w A n l) (h0 : 0 < l.length) : ∃ ad, A = some ad ∧ ∀ j v, (nums k l)[j]? = some v → w.cell? (ad.add j) = some v := by
  obtain ⟨hl, _, hr⟩ := h
  obtain ⟨ad, rfl, hs⟩ := hr (by omega)
  refine ⟨ad, rfl, fun j v hj => ?_⟩
  rw [nums, List.getElem?_map] at hj
  obtain ⟨p, hp, rfl⟩ := Option.map_eq_some_iff.1 hj
  obtain ⟨c, _, hK, hcc⟩ := hs j p hp
  have hK' : c = [Value.int k p] := hK
  subst hK'
  have := hcc 0 (.int k p) rfl
  have e : j * (Kd.int k).sz + 0 = j := Nat.mul_one j
  rw [e] at this
  exact this
theorem row_reads (W : World) (g : Nat) (l : List Int) (hm : l.length ≤ 140737488351232) (h : W.heap[g]? = some (.cells (nums .u8 l).toArray 5 (0, 0))) :
    Kd.C (Kd.int .u8) W (some ⟨g, 0, none⟩) l.length l := by
  have hR : Kd.R (Kd.int .u8) 5 W 0 (fun _ => True) (.slice (some ⟨g, 0, none⟩) l.length l.length) l := by
    refine Kd.R_of_own ⟨by simp [encs], .inr ⟨g, l.length, _, rfl, Nat.zero_le _, h, Nat.le_refl _, by unfold maxLen; omega, ?_, ?_⟩⟩ (fun _ _ => trivial)
    · rw [List.size_toArray, nums_length, Nat.mul_one]
    · rw [List.toList_toArray, Nat.mul_one]
      unfold nums encs
      exact List.take_of_length_le (by simp)
  exact (Kd.R_reads' hR).2.2
def own0 (q : Nat) (im : List Nat) : List Nat := im.take q ++ List.replicate (q - im.length) 0
theorem own0_length (q : Nat) (im : List Nat) : (own0 q im).length = q := by unfold own0; rw [List.length_append, List.length_take, List.length_replicate]; omega
theorem own0_bytes (q : Nat) (im : List Nat) (h : Bytes im) : Bytes (own0 q im) := Bytes.append (bytes_take h q) (fun b hb => by rw [List.eq_of_mem_replicate hb]; decide)
theorem own0_cells (q : Nat) (im : List Nat) : splice (nums .u8 (List.replicate q 0)) 0 (nums .u8 (ints (im.take q))) = nums .u8 (ints (own0 q im)) := by
  unfold splice own0
  rw [ints_append]
  have e : ints (List.replicate (q - im.length) 0) = List.replicate (q - im.length) 0 := by simp [ints]
  rw [e]
  simp only [List.take_zero, List.nil_append, Nat.zero_add, nums, List.map_append, List.length_map, ints_length, List.length_take, List.map_replicate, List.drop_replicate]
  congr 2
  omega
theorem own1_cells (m : Nat) (A F : List Nat) (hA : A.length = m + 24) (hF : F.length = 24) : splice (nums .u8 (ints A)) m (nums .u8 (ints F)) = nums .u8 (ints (A.take m ++ F)) := by
  unfold splice
  have e : (nums .u8 (ints A)).drop (m + (nums .u8 (ints F)).length) = [] := List.drop_of_length_le (by rw [nums_length, nums_length, ints_length, ints_length]; omega)
  rw [e, List.append_nil, ints_append, nums_append, ← ints_take]
  simp only [nums, List.map_take]
theorem own2_cells (A : List Nat) (k v : Nat) : (nums .u8 (ints A)).toArray.setIfInBounds k (.int .u8 (v : Int)) = (nums .u8 (ints (A.set k v))).toArray := by
  rw [List.setIfInBounds_toArray]
  simp only [nums, ints, List.map_set]
theorem one_cells (k : IntKind) (l : List Int) : ∀ v ∈ nums k l, v.oneCell' = true := by intro v hv; obtain ⟨x, _, rfl⟩ := List.mem_map.1 hv; rfl
theorem clen_eq (q : Nat) (im : List Nat) (il : Nat) (h : il = im.length) : (nums .u8 (ints (im.take q))).length = Nat.min il q := by
  rw [nums_length, ints_length, List.length_take, h]; exact Nat.min_comm _ _
theorem cpos_of {w : World} {A : Option Addr} {im : List Nat} (q g o : Nat) (h : 0 < (ints im).length → ∃ ad, A = some ad ∧ ∀ j v, (nums .u8 (ints im))[j]? = some v → w.cell? (ad.add j) = some v) :
    0 < (nums .u8 (ints (im.take q))).length → (some ⟨g, o, none⟩ : Option Addr) = some ⟨g, o, none⟩ ∧ ∃ ad, A = some ad ∧ ∀ j v, (nums .u8 (ints (im.take q)))[j]? = some v → w.cell? (ad.add j) = some v := by
  intro h0
  rw [nums_length, ints_length, List.length_take] at h0
  obtain ⟨ad, e1, e2⟩ := h (by rw [ints_length]; omega)
  refine ⟨rfl, ad, e1, fun j v hj => e2 j v ?_⟩
  rw [← ints_take] at hj
  rw [nums, List.getElem?_map, List.getElem?_take] at hj
  rw [nums, List.getElem?_map]
  split at hj
  · exact hj
  · cases hj
theorem cfit_of (q : Nat) (im : List Nat) : 0 + (nums .u8 (ints (im.take q))).length ≤ (nums .u8 (List.replicate q (0 : Int))).length := by
  rw [nums_length, nums_length, ints_length, List.length_take, List.length_replicate]; omega
set_option maxHeartbeats 4000000 in
set_option maxRecDepth 100000 in
theorem back_no (p s r a : Int) (A : Option Addr) (c ln : Nat) (u n : Int) (salt : Nat) (hs : salt < 4294967296) (at_ : Int) (W : World) (hu0 : -9223372036854775808 ≤ u) (hu1 : u ≤ 9223372036854775807) (hn0 : -9223372036854775808 ≤ n) (hn1 : n ≤ 9223372036854775807)
    (hno : ¬ (Ok p s r a ∧ 32 ≤ u ∧ u ≤ p * s - 24 ∧ 0 ≤ n ∧ n ≤ 2147483647)) :
    Calls Try.prog 10 #[.agg #[.int .i64 p, .int .i64 s, .int .i64 r, .int .i64 a], .slice A ln c, .int .i64 u, .int .i64 n, .int .u32 (salt : Int), .int .i64 at_] W fun e w' => e = .returned (.bool true) ∧ Below W.heap.size W w' := by
  have HB := Aside0.mk ((Below.refl W.heap.size W).alloc (Nat.le_refl _) (.cells #[.int .i64 p, .int .i64 s, .int .i64 r, .int .i64 a] 23))
  have SG := Aside0.mk (blk_new W (.cells #[.int .i64 p, .int .i64 s, .int .i64 r, .int .i64 a] 23))
  have HE := Aside0.mk (fun w => efoot_walk p s r a n u salt 0 hs (by decide) w)
  by_cases ho : Ok p s r a
  · have hck : Aside0 (∀ w, Calls Try.prog 25 #[.agg #[.int .i64 p, .int .i64 s, .int .i64 r, .int .i64 a]] w fun e w' => e = .returned (.int .i64 0) ∧ Below w.heap.size w w') := ⟨fun w => by have h := check_walk p s r a w; rw [if_pos ho] at h; exact h⟩
    have b := Ok.bounds ho
    obtain ⟨q, hq⟩ : ∃ q, p * s = q := ⟨_, rfl⟩
    rw [hq] at b hno
    have hpq : IntKind.i64.wrap (p * s) = q := by rw [i64_w, hq]; exact w64 (by omega) (by omega)
    have hpq' : wrap64 (p * s) = q := by rw [hq]; exact w64 (by omega) (by omega)
    have h9 : ¬ (32 ≤ u ∧ u ≤ q - 24 ∧ 0 ≤ n ∧ n ≤ 2147483647) := fun h => hno ⟨ho, h⟩
    have hef : efoot p s r a n u salt 0 = ([], 1) := by unfold efoot; rw [if_pos ho, hq, if_pos (by omega)]
    have hq2 : 0 ≤ q ∧ q ≤ 262144 := by omega
    have hno2 : Aside0 (¬ (32 ≤ u ∧ u ≤ q - 24 ∧ 0 ≤ n ∧ n ≤ 2147483647)) := ⟨h9⟩
    rw [hef] at HE
    simp only at HE
    obtain ⟨q0, q1⟩ := hq2
    clear b hq hef ho hno h9
    go_enter Try.func10, Try.ntmps10
    go_wp2_with (first
      | (go_at_call 13; refine (cellarlaw05_lives.calls 100 true _ (lives_eq 100 (by decide))).mono ?_; rintro e w1 ⟨rfl, hb1⟩; have B1 := Aside0.mk (below_then HB.out HB.out.size hb1); have G1 := Aside0.mk (blk_below SG.out hb1); have x0 := blk_cell G1.out 0; have x1 := blk_cell G1.out 1; have x2 := blk_cell G1.out 2; have x3 := blk_cell G1.out 3; simp only [List.getElem?_toArray, List.getElem?_cons_zero, List.getElem?_cons_succ] at x0 x1 x2 x3; clear hb1)
      | (go_at_call 25; refine (hck.out _).mono ?_; rintro e w2 ⟨rfl, hb2⟩; have B2 := Aside0.mk (below_then B1.out B1.out.size hb2); replace x0 := pw_cell_below hb2 x0; replace x1 := pw_cell_below hb2 x1; replace x2 := pw_cell_below hb2 x2; replace x3 := pw_cell_below hb2 x3; clear hb2)
      | (go_at_call 21; refine (HE.out _).mono ?_; rintro e w3 ⟨v3, rfl, hR3, hb3⟩; have B3 := Aside0.mk (below_then B2.out B2.out.size hb3); clear hb3 hR3))
    all_goals (first
      | (exfalso; have := hno2.out; omega)
      | (go_ret; exact ⟨rfl, B3.out⟩))
  · have hck : Aside0 (∀ w, Calls Try.prog 25 #[.agg #[.int .i64 p, .int .i64 s, .int .i64 r, .int .i64 a]] w fun e w' => e = .returned (.int .i64 20) ∧ Below w.heap.size w w') := ⟨fun w => by have h := check_walk p s r a w; rw [if_neg ho] at h; exact h⟩
    rw [efoot_bad ho] at HE
    simp only at HE
    clear ho hno
    go_enter Try.func10, Try.ntmps10
    go_wp2_with (first
      | (go_at_call 13; refine (cellarlaw05_lives.calls 100 true _ (lives_eq 100 (by decide))).mono ?_; rintro e w1 ⟨rfl, hb1⟩; have B1 := Aside0.mk (below_then HB.out HB.out.size hb1); have G1 := Aside0.mk (blk_below SG.out hb1); have x0 := blk_cell G1.out 0; have x1 := blk_cell G1.out 1; have x2 := blk_cell G1.out 2; have x3 := blk_cell G1.out 3; simp only [List.getElem?_toArray, List.getElem?_cons_zero, List.getElem?_cons_succ] at x0 x1 x2 x3; clear hb1)
      | (go_at_call 25; refine (hck.out _).mono ?_; rintro e w2 ⟨rfl, hb2⟩; have B2 := Aside0.mk (below_then B1.out B1.out.size hb2); replace x0 := pw_cell_below hb2 x0; replace x1 := pw_cell_below hb2 x1; replace x2 := pw_cell_below hb2 x2; replace x3 := pw_cell_below hb2 x3; clear hb2)
      | (go_at_call 21; refine (HE.out _).mono ?_; rintro e w3 ⟨v3, rfl, hR3, hb3⟩; have B3 := Aside0.mk (below_then B2.out B2.out.size hb3); clear hb3 hR3))
    go_ret
    exact ⟨rfl, B3.out⟩
set_option maxHeartbeats 4000000 in
set_option maxRecDepth 100000 in
theorem back_yes (p s r a : Int) (A : Option Addr) (c : Nat) (im : List Nat) (hb : Bytes im) (hm : im.length ≤ 140737488351232) (u n : Nat) (salt : Nat) (hs : salt < 4294967296) (at_ : Int) (W : World) (hC : Kd.C (Kd.int .u8) W A (ints im).length (ints im)) (hc : (ints im).length ≤ c)
    (hat0 : -9223372036854775808 ≤ at_) (hat1 : at_ ≤ 9223372036854775807)
    (ho : Ok p s r a) (hu : 32 ≤ u) (hu2 : (u : Int) ≤ p * s - 24) (hn : n ≤ 2147483647) :
    Calls Try.prog 10 #[.agg #[.int .i64 p, .int .i64 s, .int .i64 r, .int .i64 a], .slice A (ints im).length c, .int .i64 (u : Int), .int .i64 (n : Int), .int .u32 (salt : Int), .int .i64 at_] W fun e w' => e = .returned (.bool true) ∧ Below W.heap.size W w' := by
  have HB := Aside0.mk ((Below.refl W.heap.size W).alloc (Nat.le_refl _) (.cells #[.int .i64 p, .int .i64 s, .int .i64 r, .int .i64 a] 23))
  have SG := Aside0.mk (blk_new W (.cells #[.int .i64 p, .int .i64 s, .int .i64 r, .int .i64 a] 23))
  have HC := Aside0.mk hC
  have HCC := Aside0.mk hc
  have hck : Aside0 (∀ w, Calls Try.prog 25 #[.agg #[.int .i64 p, .int .i64 s, .int .i64 r, .int .i64 a]] w fun e w' => e = .returned (.int .i64 0) ∧ Below w.heap.size w w') := ⟨fun w => by have h := check_walk p s r a w; rw [if_pos ho] at h; exact h⟩
  have b := Ok.bounds ho
  obtain ⟨qi, hqi⟩ : ∃ q, p * s = q := ⟨_, rfl⟩
  rw [hqi] at b hu2
  have bq : 128 ≤ qi ∧ qi ≤ 262144 := by omega
  clear b
  obtain ⟨m, rfl⟩ : ∃ m : Nat, qi = (m : Int) + 24 := ⟨(qi - 24).toNat, by omega⟩
  have hq := hqi
  clear hqi
  have hm2 : m ≤ 262144 := by omega
  have hum : u ≤ m := by omega
  obtain ⟨q, hqq⟩ : ∃ q : Nat, q = m + 24 := ⟨_, rfl⟩
  have hpq : IntKind.i64.wrap (p * s) = (q : Int) := by rw [i64_w, hq]; exact (w64 (by omega) (by omega)).trans (by omega)
  have hpq' : wrap64 (p * s) = (q : Int) := by rw [hq]; exact (w64 (by omega) (by omega)).trans (by omega)
  have hq24 : IntKind.i64.wrap ((q : Int) - 24) = (m : Int) := by rw [i64_w]; exact (w64 (by omega) (by omega)).trans (by omega)
  have hq24' : wrap64 ((q : Int) - 24) = (m : Int) := (w64 (by omega) (by omega)).trans (by omega)
  have d1 : decide ((u : Int) < 32) = false := decide_eq_false (by omega)
  have d2 : decide ((m : Int) < (u : Int)) = false := decide_eq_false (by omega)
  have d3 : decide ((n : Int) < 0) = false := decide_eq_false (by omega)
  have d4 : decide (2147483647 < (n : Int)) = false := decide_eq_false (by omega)
  have d5 : decide (m < u) = false := decide_eq_false (by omega)
  have d6 : decide (u < 32) = false := decide_eq_false (by omega)
  have d7 : decide (2147483647 < n) = false := decide_eq_false (by omega)
  have hmk := fun W => make_bytes q (by omega) W
  have SO := Aside0.mk ho
  have SHQ := Aside0.mk hq
  have SQ := Aside0.mk hqq
  have SIM := Aside0.mk (And.intro hb hm)
  have SIL := Aside0.mk (ints_length im)
  obtain ⟨il, hil⟩ : ∃ il, (ints im).length = il := ⟨_, rfl⟩
  rw [hil] at SIL HCC
  rw [hil]
  have SHI := Aside0.mk hil
  clear bq hC hc hq ho hil hb hm hu2 hqq
  go_enter Try.func10, Try.ntmps10
  go_upto_region 8 with (first
    | (go_at_call 13; refine (cellarlaw05_lives.calls 100 true _ (lives_eq 100 (by decide))).mono ?_; rintro e w1 ⟨rfl, hb1⟩; have B1 := Aside0.mk (below_then HB.out HB.out.size hb1); have G1 := Aside0.mk (blk_below SG.out hb1); have x0 := blk_cell G1.out 0; have x1 := blk_cell G1.out 1; have x2 := blk_cell G1.out 2; have x3 := blk_cell G1.out 3; simp only [List.getElem?_toArray, List.getElem?_cons_zero, List.getElem?_cons_succ] at x0 x1 x2 x3; clear hb1)
    | (go_at_call 25; refine (hck.out _).mono ?_; rintro e w2 ⟨rfl, hb2⟩; have B2 := Aside0.mk (below_then B1.out B1.out.size hb2); have G2 := Aside0.mk (blk_below G1.out hb2); clear hb2 x0 x1 x2 x3))
  clear d1 d2 d3 d4 d5 d6 d7 hpq hpq' hq24 hq24'
  go_upto_region 9 with fail
  clear hmk
  obtain ⟨w3, hw3⟩ : ∃ w3, w2.alloc (.cells (nums .u8 (List.replicate q 0)).toArray 5) = w3 := ⟨_, rfl⟩
  have U3 : Below w2.heap.size w2 w3 := by rw [← hw3]; exact below_alloc (Below.refl _ _) _
  have N3 := Aside0.mk (show w3.heap[w2.heap.size]? = some (.cells (nums .u8 (List.replicate q 0)).toArray 5 (0, 0)) by rw [← hw3]; exact blk_new _ _)
  rw [hw3]
  clear hw3
  obtain ⟨g, hg⟩ : ∃ g, w2.heap.size = g := ⟨_, rfl⟩
  have SG0 := Aside0.mk (show W.heap.size ≤ g by rw [← hg]; exact B2.out.size)
  rw [hg] at N3
  rw [hg]
  have B3 := Aside0.mk (below_then B2.out B2.out.size U3)
  have G3 := Aside0.mk (blk_below G2.out U3)
  have NE := Aside0.mk (show W.heap.size ≠ g from blk_ne G3.out N3.out (by decide))
  clear U3 hg
  have SRC := Aside0.mk (fun (w : World) (h : Below W.heap.size W w) => src_of (Kd.C_below HC.out h))
  go_upto_region 10 with ((with_reducible refine gate_dst (N := 67) rfl ?_); (refine wpList_copy_grown rfl (.tmp 65) (.tmp 66) 28 28 rfl 5 Try.underlying28 (by kernel_rfl) _ _ _ _ _ _ rfl rfl g 0 (nums .u8 (List.replicate q 0)) 5 (by exact N3.out) (nums .u8 (ints (im.take q))) (clen_eq q im il SIL.out) (cpos_of q g 0 (SRC.out _ B3.out)) (cfit_of q im) (one_cells _ _) ?_); intro w4 hg4 hb4; have N4 := Aside0.mk (show w4.heap[g]? = some (.cells (nums .u8 (ints (own0 q im))).toArray 5 (0, 0)) by rw [← own0_cells]; exact hg4); have B4 := Aside0.mk (pw_below_grown B3.out (some g) B3.out.size hb4 (fun k hk => by cases hk; exact SG0.out)); have G4 := Aside0.mk (blk_grown G3.out hb4 (fun e => NE.out (by cases e; rfl))); clear hg4 hb4)
  have hol := own0_length q im
  have hob := own0_bytes q im SIM.out.1
  obtain ⟨O, hO⟩ : ∃ O, own0 q im = O := ⟨_, rfl⟩
  rw [hO] at N4 hol hob
  have C4 := row_reads w4 g (ints O) (by rw [ints_length]; have := SQ.out; omega) N4.out
  have CR : Aside0 (Calls Try.prog 26 #[.slice (some ⟨g, 0, none⟩) u q] w4 fun e w' => e = .returned (.int .u32 ((ext 0 (O.take u) : Nat) : Int)) ∧ Drawn0 w4 w') := ⟨by
    have hlt : ((ints O).take u).length = u := by rw [List.length_take, ints_length, hol]; have := SQ.out; omega
    have h := crc26_walk (some ⟨g, 0, none⟩) q (O.take u) (bytes_take hob u) (by rw [List.length_take]; omega) w4 (by have := Kd.C_take C4 (m := u) (by rw [ints_length, hol]; have := SQ.out; omega); rw [ints_take] at this; exact this) (by rw [← ints_take, hlt]; have := SQ.out; omega)
    rw [← ints_take, hlt] at h
    exact h⟩
  have hx : ext 0 (O.take u) < 4294967296 := ext_lt (by decide) (bytes_take hob u)
  obtain ⟨cr, hcr⟩ : ∃ cr, ext 0 (O.take u) = cr := ⟨_, rfl⟩
  rw [hcr] at CR hx
  have SCR := Aside0.mk hcr
  have SOL := Aside0.mk (And.intro hol hob)
  have SX := Aside0.mk hx
  clear hO C4 hcr hol hob hx
  have k1 : (u : Int) ≤ (q : Int) := by have := SQ.out; omega
  have k2 : (0 : Int) ≤ (u : Int) := by omega
  go_upto_region 11 with (go_at_call 26; refine CR.out.mono ?_; rintro e w5 ⟨rfl, ⟨nd, hnd⟩⟩; have U5 := Aside0.mk (show Below w4.heap.size w4 w5 by rw [hnd]; exact pw_below_drewN (Below.refl _ _) nd); clear hnd)
  clear k1 k2 CR
  obtain ⟨w6, hw6⟩ : ∃ w6, w5.alloc (.cells #[.int .i64 (n : Int), .int .i64 (u : Int), .int .u32 (salt : Int), .int .u32 (cr : Int)] 45) = w6 := ⟨_, rfl⟩
  have U6 : Below w4.heap.size w4 w6 := by rw [← hw6]; exact below_alloc U5.out _
  have hX6 : w6.heap[w5.heap.size]? = some (.cells #[.int .i64 (n : Int), .int .i64 (u : Int), .int .u32 (salt : Int), .int .u32 (cr : Int)] 45) := by rw [← hw6]; exact blk_new _ _
  rw [hw6]
  clear hw6
  obtain ⟨gx, hgx⟩ : ∃ gx, w5.heap.size = gx := ⟨_, rfl⟩
  rw [hgx] at hX6
  rw [hgx]
  have X6 := Aside0.mk hX6
  have B6 := Aside0.mk (below_then B4.out B4.out.size U6)
  have G6 := Aside0.mk (blk_below G4.out U6)
  have N6 := Aside0.mk (blk_below N4.out U6)
  have NX := Aside0.mk (show gx ≠ g from blk_ne X6.out N6.out (by decide))
  clear U5 U6 hgx hX6
  have x0 := blk_cell G6.out 0
  have x1 := blk_cell G6.out 1
  have x2 := blk_cell G6.out 2
  have x3 := blk_cell G6.out 3
  have y0 := blk_cell X6.out 0
  have y1 := blk_cell X6.out 1
  have y2 := blk_cell X6.out 2
  have y3 := blk_cell X6.out 3
  simp only [List.getElem?_toArray, List.getElem?_cons_zero, List.getElem?_cons_succ] at x0 x1 x2 x3 y0 y1 y2 y3
  obtain ⟨F, hF⟩ : ∃ F, foot n u salt cr = F := ⟨_, rfl⟩
  have hFl : F.length = 24 := by rw [← hF]; exact foot_length _ _ _ _
  have hFb : Bytes F := by rw [← hF]; exact Bytes.append (fbody_bytes _ _ _ _) (leb_bytes _ _)
  have HE : Aside0 (∀ w, Calls Try.prog 21 #[.agg #[.int .i64 p, .int .i64 s, .int .i64 r, .int .i64 a], .agg #[.int .i64 (n : Int), .int .i64 (u : Int), .int .u32 (salt : Int), .int .u32 (cr : Int)]] w fun e w' => ∃ (A : Option Addr) (c : Nat), e = .returned (.tuple #[.slice A 24 c, .int .i64 0]) ∧ Kd.C (Kd.int .u8) w' A 24 (ints F) ∧ 24 ≤ c ∧ Below w.heap.size w w') := ⟨fun w => by
    have h := efoot_walk p s r a n u salt cr hs SX.out w
    rw [efoot_yes SO.out n u salt cr hn hu (by rw [SHQ.out]; omega), hF] at h
    refine h.mono ?_
    rintro e w' ⟨v, rfl, hR, hb⟩
    obtain ⟨A, c, rfl⟩ := Kd.R_slice hR
    have h1 := (Kd.R_reads' hR).2.1
    have h2 := (Kd.R_reads' hR).2.2
    rw [show (ints F).length = 24 by rw [ints_length, hFl]] at h1 h2 ⊢
    exact ⟨A, c, rfl, h2, h1, hb⟩⟩
  have SF := Aside0.mk hF
  have SFL := Aside0.mk (And.intro hFl hFb)
  clear hF hFl hFb
  go_upto_region 12 with (go_at_call 21; refine (HE.out _).mono ?_; rintro e w7 ⟨A7, c7, rfl, hC7, hc7, hb7⟩; have C7 := Aside0.mk hC7; have U7 := Aside0.mk hb7; clear hC7 hb7 hc7)
  clear x0 x1 x2 x3 y0 y1 y2 y3
  have B7 := Aside0.mk (below_then B6.out B6.out.size U7.out)
  have G7 := Aside0.mk (blk_below G6.out U7.out)
  have N7 := Aside0.mk (blk_below N6.out U7.out)
  have X7 := Aside0.mk (blk_below X6.out U7.out)
  clear U7
  have hq24 : IntKind.i64.wrap ((q : Int) - 24) = (m : Int) := by have := SQ.out; rw [i64_w]; exact (w64 (by omega) (by omega)).trans (by omega)
  have hq24' : wrap64 ((q : Int) - 24) = (m : Int) := by have := SQ.out; exact (w64 (by omega) (by omega)).trans (by omega)
  have k1 : (m : Int) ≤ (q : Int) := by have := SQ.out; omega
  have k2 : (0 : Int) ≤ (m : Int) := by omega
  have k3 : (q = m) = False := eq_false (by have := SQ.out; omega)
  have k4 : (m = 0) = False := eq_false (by omega)
  have k5 : q - m = 24 := by have := SQ.out; omega
  have SK5 := Aside0.mk k5
  have SC := Aside0.mk (fun (h0 : 0 < (ints F).length) => src_of (show Kd.C (Kd.int .u8) w7 A7 24 (ints F) from C7.out) h0)
  go_upto_region 15 with ((with_reducible refine gate_dst (N := 94) rfl ?_); (refine wpList_copy_grown rfl (.tmp 92) (.tmp 93) 28 28 rfl 5 Try.underlying28 (by kernel_rfl) _ _ _ _ _ _ rfl rfl g m (nums .u8 (ints O)) 5 (by exact N7.out) (nums .u8 (ints F)) ?clen ?cpos ?cfit (one_cells _ _) ?_); (case clen => (rw [nums_length, ints_length, SFL.out.1]; first | rfl | (rw [SK5.out]; rfl))); (case cpos => (intro h0; obtain ⟨ad, e1, e2⟩ := SC.out (by rw [ints_length, SFL.out.1]; decide); exact ⟨rfl, ad, e1, e2⟩)); (case cfit => (rw [nums_length, nums_length, ints_length, ints_length, SFL.out.1, SOL.out.1]; have := SQ.out; omega)); intro w8 hg8 hb8; have N8 := Aside0.mk (show w8.heap[g]? = some (.cells (nums .u8 (ints (O.take m ++ F))).toArray 5 (0, 0)) by rw [← own1_cells m O F (by rw [SOL.out.1]; exact SQ.out) SFL.out.1]; exact hg8); have B8 := Aside0.mk (pw_below_grown B7.out (some g) B7.out.size hb8 (fun k hk => by cases hk; exact SG0.out)); have G8 := Aside0.mk (blk_grown G7.out hb8 (fun e => NE.out (by cases e; rfl))); have X8 := Aside0.mk (blk_grown X7.out hb8 (fun e => NX.out (by cases e; rfl))); clear hg8 hb8)
  clear hq24 hq24' k1 k2 k3 k4 k5 SK5 SC
  have hol : (O.take m).length = m := by rw [List.length_take, SOL.out.1]; have := SQ.out; omega
  have hob : Bytes (O.take m) := bytes_take SOL.out.2 m
  have htk : (O.take m).take u = O.take u := by rw [List.take_take, Nat.min_eq_left hum]
  obtain ⟨M, hM⟩ : ∃ M, O.take m = M := ⟨_, rfl⟩
  rw [hM] at N8 hol hob htk
  have SML := Aside0.mk (And.intro hol (And.intro hob (htk ▸ SCR.out : ext 0 (M.take u) = cr)))
  clear hM hol hob htk
  have HF : Aside0 (∀ (M' : List Nat) (w : World), M'.length = m → Bytes M' → w.heap[g]? = some (.cells (nums .u8 (ints (M' ++ F))).toArray 5 (0, 0)) → Calls Try.prog 23 #[.agg #[.int .i64 p, .int .i64 s, .int .i64 r, .int .i64 a], .slice (some ⟨g, 0, none⟩) q q] w fun e w' => e = .returned (.tuple #[.agg #[.int .i64 ((ffoot p s r a (M' ++ F)).1.1 : Nat), .int .i64 ((ffoot p s r a (M' ++ F)).1.2.1 : Nat), .int .u32 ((ffoot p s r a (M' ++ F)).1.2.2.1 : Nat), .int .u32 ((ffoot p s r a (M' ++ F)).1.2.2.2 : Nat)], .int .i64 (ffoot p s r a (M' ++ F)).2]) ∧ Below w.heap.size w w') := ⟨fun M' w hl hbm hw => by
    have hlq : (M' ++ F).length = q := by rw [List.length_append, hl, SFL.out.1]; exact SQ.out.symm
    have hqm : q ≤ 262168 := by have := SQ.out; omega
    have h := foot_walk p s r a (some ⟨g, 0, none⟩) q (M' ++ F) (Bytes.append hbm SFL.out.2) (by omega) w (row_reads w g _ (by rw [ints_length]; omega) hw) (by rw [ints_length]; omega)
    rw [show (ints (M' ++ F)).length = q by rw [ints_length, hlq]] at h
    exact h⟩
  have HV := Aside0.mk (fun (M' : List Nat) (hl : M'.length = m) => ffoot_foot SO.out M' n u salt cr (by rw [hl, SHQ.out]) hn hu (by omega) hs SX.out)
  have x0 := blk_cell G8.out 0
  have x1 := blk_cell G8.out 1
  have x2 := blk_cell G8.out 2
  have x3 := blk_cell G8.out 3
  simp only [List.getElem?_toArray, List.getElem?_cons_zero, List.getElem?_cons_succ] at x0 x1 x2 x3
  have H8 := HF.out M w8 SML.out.1 SML.out.2.1 N8.out
  have hv8 := HV.out M SML.out.1
  rw [SF.out, if_pos SML.out.2.2] at hv8
  rw [hv8] at H8
  have SH8 := Aside0.mk H8
  clear H8 hv8
  go_upto_region 16 with (go_at_call 23; refine SH8.out.mono ?_; rintro e w9 ⟨rfl, hb9⟩; have U9 := Aside0.mk hb9; clear hb9)
  clear x0 x1 x2 x3
  obtain ⟨w10, hw10⟩ : ∃ w10, w9.alloc (.cells #[.int .i64 (n : Int), .int .i64 (u : Int), .int .u32 (salt : Int), .int .u32 (cr : Int)] 45) = w10 := ⟨_, rfl⟩
  have U10 : Below w8.heap.size w8 w10 := by rw [← hw10]; exact below_alloc U9.out _
  have hY : w10.heap[w9.heap.size]? = some (.cells #[.int .i64 (n : Int), .int .i64 (u : Int), .int .u32 (salt : Int), .int .u32 (cr : Int)] 45) := by rw [← hw10]; exact blk_new _ _
  rw [hw10]
  clear hw10 U9
  have B10 := Aside0.mk (below_then B8.out B8.out.size U10)
  have G10 := Aside0.mk (blk_below G8.out U10)
  have N10 := Aside0.mk (blk_below N8.out U10)
  have X10 := blk_below X8.out U10
  have x0 := blk_cell X10 0
  have x1 := blk_cell X10 1
  have x2 := blk_cell X10 2
  have x3 := blk_cell X10 3
  have y0 := blk_cell hY 0
  have y1 := blk_cell hY 1
  have y2 := blk_cell hY 2
  have y3 := blk_cell hY 3
  simp only [List.getElem?_toArray, List.getElem?_cons_zero, List.getElem?_cons_succ] at x0 x1 x2 x3 y0 y1 y2 y3
  clear U10 X10 hY
  have u0 : (0 : Int) < (u : Int) := by omega
  have u1 : ((u : Int) == 0) = false := by simpa using (show ¬ (u : Int) = 0 by omega)
  have u2 : decide (u = 0) = false := decide_eq_false (by omega)
  have u3 : ¬ (u : Int) = 0 := by omega
  have u4 : ¬ u = 0 := by omega
  go_upto_region 19 with fail
  clear x0 x1 x2 x3 y0 y1 y2 y3 u1 u2 u3 u4
  obtain ⟨d, hd⟩ : ∃ d, at_.tmod (u : Int) = d := ⟨_, rfl⟩
  have dl : d < (u : Int) := by rw [← hd]; exact Int.tmod_lt_of_pos _ u0
  have dg : -(u : Int) < d := by rw [← hd]; exact Int.lt_tmod_of_pos _ u0
  rw [hd]
  clear hd u0 hat0 hat1
  have HK : Aside0 (∀ k : Nat, k < u → ∃ v : Nat, v < 256 ∧ w10.cell? ⟨g, k, none⟩ = some (.int .u8 (v : Int)) ∧ ∀ v', v' < 256 → v' ≠ v → (∀ W', W'.heap[g]? = some (.cells ((nums .u8 (ints (M ++ F))).toArray.setIfInBounds k (.int .u8 ((v' : Nat) : Int))) 5 (0, 0)) → Aside0 (Calls Try.prog 23 #[.agg #[.int .i64 p, .int .i64 s, .int .i64 r, .int .i64 a], .slice (some ⟨g, 0, none⟩) q q] W' fun e w' => e = .returned (.tuple #[.agg #[.int .i64 0, .int .i64 0, .int .u32 0, .int .u32 0], .int .i64 51]) ∧ Below W'.heap.size W' w'))) := ⟨fun k hk => by
    have hkm : k < M.length := by rw [SML.out.1]; omega
    refine ⟨M.getD k 0, ?_, ?_, fun v' hv' hne W' hW' => ⟨?_⟩⟩
    · rw [List.getD_eq_getElem?_getD, List.getElem?_eq_getElem hkm]; exact SML.out.2.1 _ (List.getElem_mem hkm)
    · rw [blk_cell N10.out]
      simp only [nums, ints, List.getElem?_toArray, List.getElem?_map]
      rw [List.getElem?_append_left hkm, List.getElem?_eq_getElem hkm, List.getD_eq_getElem?_getD, List.getElem?_eq_getElem hkm]; rfl
    · rw [own2_cells, List.set_append_left _ _ hkm] at hW'
      have h := HF.out (M.set k v') W' (by rw [List.length_set]; exact SML.out.1) (bytes_set SML.out.2.1 k v' hv') hW'
      have hv := HV.out (M.set k v') (by rw [List.length_set]; exact SML.out.1)
      have hne2 : ext 0 ((M.set k v').take u) ≠ cr := by
        rw [List.take_set, ← SML.out.2.2]
        have hlt : (M.take u).length = u := by rw [List.length_take, SML.out.1]; omega
        refine ext_set_ne (M.take u) k v' (bytes_take SML.out.2.1 u) (by rw [hlt]; exact hk) hv' ?_
        rw [List.getD_eq_getElem?_getD, List.getElem?_take, if_pos hk, ← List.getD_eq_getElem?_getD]
        exact Ne.symm hne
      rw [SF.out, if_neg hne2] at hv
      rw [hv] at h
      exact h⟩
  have fz := fun k => blk_frozen N10.out k
  obtain ⟨k, hku, hkd⟩ : ∃ k : Nat, k < u ∧ ((d < 0 ∧ d + (u : Int) = (k : Int)) ∨ d = (k : Int)) := by
    by_cases h : d < 0
    · exact ⟨(d + u).toNat, by omega, .inl ⟨h, by omega⟩⟩
    · exact ⟨d.toNat, by omega, .inr (by omega)⟩
  obtain ⟨v, hv, hcell, hnext⟩ := HK.out k hku
  have HN := Aside0.mk (hnext ((v + 1) % 256) (Nat.mod_lt _ (by decide)) (by omega))
  have fk := fz k
  have k0 : (0 : Int) ≤ (k : Int) := by omega
  have k1 : (k : Int) < (q : Int) := by have := SQ.out; omega
  have vw : IntKind.u8.wrap ((v : Int) + 1) = (((v + 1) % 256 : Nat) : Int) := by show ((v : Int) + 1) % 256 = _; omega
  have g0 := blk_cell G10.out 0
  have g1 := blk_cell G10.out 1
  have g2 := blk_cell G10.out 2
  have g3 := blk_cell G10.out 3
  simp only [List.getElem?_toArray, List.getElem?_cons_zero, List.getElem?_cons_succ] at g0 g1 g2 g3
  have hgne : ¬ W.heap.size = g := NE.out
  have hgne' : ¬ g = W.heap.size := fun e => NE.out e.symm
  clear hnext fz
  obtain ⟨v1, hv1⟩ : ∃ v1, (v + 1) % 256 = v1 := ⟨_, rfl⟩
  rw [hv1] at HN vw
  clear hv1
  rcases hkd with ⟨hneg, hk⟩ | hk
  · have e1 : decide (d < 0) = true := decide_eq_true hneg
    have e2 : wrap64 (d + (u : Int)) = (k : Int) := (w64 (by omega) (by omega)).trans hk
    have e3 : IntKind.i64.wrap (d + (u : Int)) = (k : Int) := by rw [i64_w]; exact e2
    clear hk hneg dl dg
    go_upto_region 22 with fail
    obtain ⟨w11, hw11⟩ : ∃ w11, w10.setCell ⟨g, k, none⟩ (.int .u8 (v1 : Int)) = w11 := ⟨_, rfl⟩
    have hN11 := blk_set N10.out k (.int .u8 (v1 : Int))
    have hG11 := blk_far G10.out (p := ⟨g, k, none⟩) NE.out (.int .u8 (v1 : Int))
    have hB11 := below_set (j := k) (v := .int .u8 (v1 : Int)) B10.out SG0.out
    rw [hw11] at hN11 hG11 hB11
    rw [hw11]
    have HC11 := Aside0.mk (HN.out w11 hN11)
    have B11 := Aside0.mk hB11
    clear g0 g1 g2 g3 hw11 hN11 hB11 hcell fk vw k0 k1 e1
    have g0 := blk_cell hG11 0
    have g1 := blk_cell hG11 1
    have g2 := blk_cell hG11 2
    have g3 := blk_cell hG11 3
    simp only [List.getElem?_toArray, List.getElem?_cons_zero, List.getElem?_cons_succ] at g0 g1 g2 g3
    clear hG11
    go_wp2_with (go_at_call 23; refine HC11.out.out.mono ?_; rintro e w12 ⟨rfl, hb12⟩; have B12 := Aside0.mk (below_then B11.out B11.out.size hb12); clear hb12)
    go_ret
    exact ⟨rfl, B12.out⟩
  · subst hk
    have e1 : decide ((k : Int) < 0) = false := decide_eq_false (by omega)
    clear dl dg
    go_upto_region 22 with fail
    obtain ⟨w11, hw11⟩ : ∃ w11, w10.setCell ⟨g, k, none⟩ (.int .u8 (v1 : Int)) = w11 := ⟨_, rfl⟩
    have hN11 := blk_set N10.out k (.int .u8 (v1 : Int))
    have hG11 := blk_far G10.out (p := ⟨g, k, none⟩) NE.out (.int .u8 (v1 : Int))
    have hB11 := below_set (j := k) (v := .int .u8 (v1 : Int)) B10.out SG0.out
    rw [hw11] at hN11 hG11 hB11
    rw [hw11]
    have HC11 := Aside0.mk (HN.out w11 hN11)
    have B11 := Aside0.mk hB11
    clear g0 g1 g2 g3 hw11 hN11 hB11 hcell fk vw k0 k1 e1
    have g0 := blk_cell hG11 0
    have g1 := blk_cell hG11 1
    have g2 := blk_cell hG11 2
    have g3 := blk_cell hG11 3
    simp only [List.getElem?_toArray, List.getElem?_cons_zero, List.getElem?_cons_succ] at g0 g1 g2 g3
    clear hG11
    go_wp2_with (go_at_call 23; refine HC11.out.out.mono ?_; rintro e w12 ⟨rfl, hb12⟩; have B12 := Aside0.mk (below_then B11.out B11.out.size hb12); clear hb12)
    go_ret
    exact ⟨rfl, B12.out⟩
end Go.Proofs.Ytochhjimahcamaa.QRecordEncodes
