/- Both Foot: a region's foot out of its bytes.
   No condition. -/
import Derived.Test.YtochhjimahcamaaFootA
import Derived.Test.YtochhjimahcamaaNumb
import Derived.ArgAppend
import Derived.Lib.SlBytesConst
import Derived.BigRegion
import Derived.Deep.QuietTactic
import Derived.BigQuiet
import Derived.Deep.RegionHeld3
import Derived.ChangeAlike
import Derived.RegionTactic
namespace Go.Proofs.Ytochhjimahcamaa.QRecordEncodes
open Geo Crc
open Go.RowKit Go.Proofs.YtochhjimahcamaaW.PrintWords Go.Proofs.YtochhjimahcamaaW.PrintLast Go.Proofs.YtochhjimahcamaaW.PrintMore
set_option linter.unusedVariables false
set_option linter.unusedSimpArgs false
theorem efoot_length (p s r a n u : Int) (x y : Nat) : (efoot p s r a n u x y).1.length ≤ 24 := by
  unfold efoot
  by_cases h : Ok p s r a
  · rw [if_pos h]
    by_cases c : n < 0 ∨ n > 2147483647 ∨ u < 32 ∨ u > p * s - 24
    · rw [if_pos c]; simp
    · rw [if_neg c, foot_length]; omega
  · rw [if_neg h]; simp
theorem rd_at (bs : List Nat) (j : Nat) (hj : j < bs.length) : rd (ints bs) (j : Int) = ((bs[j] : Nat) : Int) := by
  unfold rd ints
  rw [Int.toNat_natCast, List.getD_eq_getElem?_getD, List.getElem?_map, List.getElem?_eq_getElem hj]
  rfl
theorem rnumber_l0 (bs : List Nat) (a n : Nat) (hb : Bytes bs) (hn : n ≤ 8) (ha : a + n ≤ bs.length) (hl : bs.length < 4611686018427387904) : ∀ (i k : Nat), i ≤ n → i < k →
    cellarref05_number.l0 k (ints bs) (a : Int) ((num (((bs.drop a).take n).drop i) : Nat) : Int) ((i : Int) - 1) = some ((num ((bs.drop a).take n) : Nat) : Int) := by
  have hB : Bytes ((bs.drop a).take n) := fun b h => hb b (List.mem_of_mem_drop (List.mem_of_mem_take h))
  have hlen : ((bs.drop a).take n).length = n := by rw [List.length_take, List.length_drop]; omega
  intro i
  induction i with
  | zero =>
    intro k hi hk
    obtain ⟨k, rfl⟩ := Nat.exists_eq_add_of_lt (Nat.zero_lt_of_lt hk)
    simp only [Nat.zero_add, cellarref05_number.l0]
    rw [if_neg (by omega), List.drop_zero]
  | succ i ih =>
    intro k hi hk
    obtain ⟨k, rfl⟩ := Nat.exists_eq_add_of_lt (Nat.zero_lt_of_lt hk)
    simp only [Nat.zero_add, cellarref05_number.l0]
    have hi' : i < ((bs.drop a).take n).length := by omega
    have hd : ((bs.drop a).take n).drop i = bs[a + i] :: ((bs.drop a).take n).drop (i + 1) := by
      rw [List.drop_eq_getElem_cons hi']
      simp
    have hbd := hb bs[a + i] (List.getElem_mem _)
    have hN : num (((bs.drop a).take n).drop i) < 18446744073709551616 := num_le8 _ (bytes_drop hB i) (by rw [List.length_drop]; omega)
    rw [hd] at hN
    simp only [num] at hN
    rw [if_pos (by omega), show (((i + 1 : Nat) : Int) - 1) = (i : Int) by omega, show (a : Int) + (i : Int) = ((a + i : Nat) : Int) by omega, cw64 (by omega) (by omega),
      if_pos (by omega), if_pos (by rw [ints_length]; omega), rd_at bs (a + i) (by omega)]
    have h := ih k (by omega) (by omega)
    rw [hd] at h
    simp only [num] at h
    rw [show ((num (((bs.drop a).take n).drop (i + 1)) : Nat) : Int) * 256 = ((num (((bs.drop a).take n).drop (i + 1)) * 256 : Nat) : Int) by omega, u64w (by omega), u64w (by omega),
      show ((num (((bs.drop a).take n).drop (i + 1)) * 256 : Nat) : Int) + ((bs[a + i] : Nat) : Int) = ((bs[a + i] + 256 * num (((bs.drop a).take n).drop (i + 1)) : Nat) : Int) by omega, u64w (by omega), w64 (by omega) (by omega)]
    exact h
theorem rnumber_eq (k : Nat) (bs : List Nat) (a n : Nat) (hb : Bytes bs) (hn : n ≤ 8) (ha : a + n ≤ bs.length) (hl : bs.length < 4611686018427387904) (hk : 8 < k) : cellarref05_number.f k (ints bs) (a : Int) (n : Int) = some ((num ((bs.drop a).take n) : Nat) : Int) := by
  unfold cellarref05_number.f
  rw [w64 (by omega) (by omega)]
  have h := rnumber_l0 bs a n hb hn ha hl n k (Nat.le_refl _) (by omega)
  rw [List.drop_eq_nil_of_le (by rw [List.length_take]; omega)] at h
  exact h
theorem rsame_l0 (xs : List Nat) : ∀ (bs pre : List Nat) (k : Nat), xs.length = bs.length → pre.length + xs.length < 4611686018427387904 → xs.length < k →
    cellarref05_same.l0 k (ints (pre ++ xs)) (ints (pre ++ bs)) (pre.length : Int) = some (decide (xs = bs)) := by
  induction xs with
  | nil =>
    intro bs pre k he hl hk
    obtain rfl : bs = [] := List.length_eq_zero_iff.1 he.symm
    obtain ⟨k, rfl⟩ := Nat.exists_eq_add_of_lt (Nat.zero_lt_of_lt hk)
    simp only [Nat.zero_add, cellarref05_same.l0]
    rw [if_neg (by rw [ints_length]; simp)]; rfl
  | cons x xs ih =>
    intro bs pre k he hl hk
    cases bs with
    | nil => simp at he
    | cons y bs =>
      simp only [List.length_cons] at hl hk he
      obtain ⟨k, rfl⟩ := Nat.exists_eq_add_of_lt (Nat.zero_lt_of_lt hk)
      simp only [Nat.zero_add, cellarref05_same.l0]
      rw [if_pos (by rw [ints_length, List.length_append, List.length_cons]; omega), if_pos (by omega), if_pos (by rw [ints_length, List.length_append, List.length_cons]; omega), rd_ints, rd_ints]
      by_cases hxy : x = y
      · subst hxy
        rw [if_pos rfl, cw64 (by omega) (by omega)]
        have h := ih bs (pre ++ [x]) k (by omega) (by simp only [List.length_append, List.length_cons, List.length_nil]; omega) (by omega)
        rw [List.append_assoc, List.singleton_append, List.append_assoc, List.singleton_append, List.length_append, List.length_singleton] at h
        rw [show ((pre.length : Int) + 1) = ((pre.length + 1 : Nat) : Int) from rfl]
        rw [h]
        simp
      · rw [if_neg (by omega), decide_eq_false (by simp [hxy])]
theorem rsame_eq (k : Nat) (xs bs : List Nat) (hl : xs.length < 4611686018427387904) (hk : xs.length < k) : cellarref05_same.f k (ints xs) (ints bs) = some (decide (xs = bs)) := by
  unfold cellarref05_same.f
  rw [ints_length, ints_length]
  by_cases he : xs.length = bs.length
  · rw [if_pos (by omega)]
    exact rsame_l0 xs bs [] k he (by simpa using hl) hk
  · rw [if_neg (by omega), decide_eq_false (fun h => he (by rw [h]))]
/-- The i-th four bytes of a region's last 24. -/
def fourth (bs : List Nat) (i : Nat) : Nat := num ((bs.drop (bs.length - 24 + 4 * i)).take 4)
theorem fourth_lt (bs : List Nat) (i : Nat) (hb : Bytes bs) : fourth bs i < 4294967296 := by
  unfold fourth
  have h := num_lt _ (bytes_take (bytes_drop hb (bs.length - 24 + 4 * i)) 4)
  refine Nat.lt_of_lt_of_le h (Nat.le_trans (Nat.pow_le_pow_right (n := 256) (by decide) (show _ ≤ 4 by rw [List.length_take]; omega)) (by decide))
/-- What Foot answers of bytes. -/
def ffoot (p s r a : Int) (bs : List Nat) : (Nat × Nat × Nat × Nat) × Int :=
  if Ok p s r a then
    (if (bs.length : Int) = p * s then
      (if (efoot p s r a (fourth bs 1) (fourth bs 2) (fourth bs 3) (fourth bs 4)).2 = 0 ∧ (efoot p s r a (fourth bs 1) (fourth bs 2) (fourth bs 3) (fourth bs 4)).1 = bs.drop (bs.length - 24) ∧ ext 0 (bs.take (fourth bs 2)) = fourth bs 4
        then ((fourth bs 1, fourth bs 2, fourth bs 3, fourth bs 4), 0) else ((0, 0, 0, 0), 51))
      else ((0, 0, 0, 0), 51))
    else ((0, 0, 0, 0), 20)
theorem efoot_ok {p s r a n u : Int} {x y : Nat} (h : (efoot p s r a n u x y).2 = 0) : 32 ≤ u ∧ u ≤ p * s - 24 := by
  unfold efoot at h
  split at h
  · split at h
    · simp at h
    · omega
  · simp at h
theorem efoot_bytes (p s r a n u : Int) (x y : Nat) : Bytes (efoot p s r a n u x y).1 := by
  unfold efoot
  split
  · split
    · intro b hb; cases hb
    · exact Bytes.append (fbody_bytes _ _ _ _) (leb_bytes _ _)
  · intro b hb; cases hb
theorem C_seg {w : World} {A : Option Addr} {xs : List Int} (hC : Kd.C (Kd.int .u8) w A xs.length xs) (lo hi : Nat) (h0 : 0 < lo) (h1 : lo ≤ hi) (h2 : hi ≤ xs.length) :
    Kd.C (Kd.int .u8) w (Option.map (fun x => (⟨x.block, x.off + lo, none⟩ : Addr)) A) ((xs.take hi).drop lo).length ((xs.take hi).drop lo) := by
  have hl : (xs.take hi).length = hi := by rw [List.length_take]; omega
  have h := Kd.C_drop (c := hi + 1) (m := lo) (Kd.C_take hC h2) (by omega) (by omega)
  rw [if_neg (by omega)] at h
  have e : (fun x : Addr => x.add (lo * (Kd.int .u8).sz)) = fun x => (⟨x.block, x.off + lo, none⟩ : Addr) := by
    funext x
    show x.add (lo * 1) = _
    simp [Addr.add, Nat.ne_of_gt h0]
  rw [← e]
  exact h
set_option maxHeartbeats 4000000 in
set_option maxRecDepth 100000 in
/-- The literal n of record.Foot: the number of the i-th four bytes. -/
theorem footn_walk (i : Nat) (g : Nat) (A : Option Addr) (c : Nat) (t : List Nat) (hb : Bytes t) (h0 : 0 < i) (hi : i < 5) (hl : t.length = 24) (w : World) (hg : w.cell? ⟨g, 0, none⟩ = some (.slice A 24 c)) (hC : Kd.C (Kd.int .u8) w A (ints t).length (ints t)) (hc : 24 ≤ c) :
    Calls Try.prog 43 #[.int .i64 (i : Int), .pointer (some ⟨g, 0, none⟩)] w fun e w' => e = .returned (.int .u64 ((num ((t.drop (4 * i)).take 4) : Nat) : Int)) ∧ Drawn0 w w' := by
  have hlen : (ints t).length = 24 := by rw [ints_length, hl]
  have hn : Aside0 (record_number.f 9 (((ints t).take (4 * i + 4)).drop (4 * i)) = some ((num ((t.drop (4 * i)).take 4) : Nat) : Int)) := ⟨by
    rw [ints_take, ints_drop, List.drop_take, Nat.add_sub_cancel_left]
    exact number_eq 9 _ (bytes_take (bytes_drop hb _) _) (by rw [List.length_take]; omega) (by decide)⟩
  have hs := Aside0.mk (C_seg hC (4 * i) (4 * i + 4) (by omega) (by omega) (by omega))
  have hln : Aside0 ((((ints t).take (4 * i + 4)).drop (4 * i)).length = 4) := ⟨by rw [List.length_drop, List.length_take]; omega⟩
  rw [hln.out] at hs
  obtain ⟨r, hr⟩ : ∃ r, ((num ((t.drop (4 * i)).take 4) : Nat) : Int) = r := ⟨_, rfl⟩
  rw [hr] at hn
  rw [hr]
  obtain ⟨xs, hxs⟩ : ∃ xs, ((ints t).take (4 * i + 4)).drop (4 * i) = xs := ⟨_, rfl⟩
  rw [hxs] at hn hs hln
  have hc24 : (24 : Int) ≤ (c : Int) := by omega
  have hcall : Aside0 (∀ (cc : Nat) (_ : 4 ≤ cc) (w' : World) (_ : w' = w), Calls Try.prog 44 #[.slice (Option.map (fun x => (⟨x.block, x.off + 4 * i, none⟩ : Addr)) A) 4 cc] w' fun e w'' => e = .returned (.int .u64 r) ∧ Drawn0 w' w'') := ⟨by
    rintro cc hcc w' rfl
    have h := record_number.calls 9 (Option.map (fun x => (⟨x.block, x.off + 4 * i, none⟩ : Addr)) A) cc xs r w' (by rw [hln.out]; exact hs.out) (by rw [hln.out]; exact hcc) hn.out
    rw [hln.out] at h
    exact h⟩
  clear hn hs hln hxs hr hC hlen hb hl
  obtain rfl | rfl | rfl | rfl : i = 1 ∨ i = 2 ∨ i = 3 ∨ i = 4 := by omega
  all_goals (
    go_enter Try.func43, Try.ntmps43
    go_wp2_with (go_at_call 44; refine (hcall.out _ ?hcc _ rfl).mono ?_; (case hcc => omega); rintro e w1 ⟨rfl, hd⟩)
    go_ret
    exact ⟨rfl, hd⟩)
theorem put4 {w : World} {g : Nat} {t : TypeId} {c0 c1 c2 c3 : Value} (h : w.heap[g]? = some (.cells #[c0, c1, c2, c3] t (0, 0))) (u0 u1 u2 u3 : Value) :
    ((((w.setCell ⟨g, 0, none⟩ u0).setCell ⟨g, 1, none⟩ u1).setCell ⟨g, 2, none⟩ u2).setCell ⟨g, 3, none⟩ u3).heap[g]? = some (.cells #[u0, u1, u2, u3] t (0, 0)) :=
  blk_put (blk_put (blk_put (blk_put h 0 u0 rfl) 1 u1 rfl) 2 u2 rfl) 3 u3 rfl
theorem below4 {w W : World} {g : Nat} (h : Below w.heap.size w W) (hg : w.heap.size ≤ g) (u0 u1 u2 u3 : Value) : Below w.heap.size w ((((W.setCell ⟨g, 0, none⟩ u0).setCell ⟨g, 1, none⟩ u1).setCell ⟨g, 2, none⟩ u2).setCell ⟨g, 3, none⟩ u3) :=
  below_set (below_set (below_set (below_set h hg) hg) hg) hg
set_option maxHeartbeats 4000000 in
set_option maxRecDepth 100000 in
theorem foot_walk (p s r a : Int) (A : Option Addr) (c : Nat) (bs : List Nat) (hb : Bytes bs) (hm : bs.length < 140737488355328) (w : World) (hC : Kd.C (Kd.int .u8) w A (ints bs).length (ints bs)) (hc : (ints bs).length ≤ c) :
    Calls Try.prog 23 #[.agg #[.int .i64 p, .int .i64 s, .int .i64 r, .int .i64 a], .slice A (ints bs).length c] w fun e w' => e = .returned (.tuple #[.agg #[.int .i64 ((ffoot p s r a bs).1.1 : Nat), .int .i64 ((ffoot p s r a bs).1.2.1 : Nat), .int .u32 ((ffoot p s r a bs).1.2.2.1 : Nat), .int .u32 ((ffoot p s r a bs).1.2.2.2 : Nat)], .int .i64 (ffoot p s r a bs).2]) ∧ Below w.heap.size w w' := by
  have hB0 := ((Below.refl w.heap.size w).alloc (Nat.le_refl _) (.cells #[.int .i64 p, .int .i64 s, .int .i64 r, .int .i64 a] 23)).alloc (by simp) (.cells #[.int .i64 0, .int .i64 0, .int .u32 0, .int .u32 0] 45)
  have hF := blk_new (w.alloc (.cells #[.int .i64 p, .int .i64 s, .int .i64 r, .int .i64 a] 23)) (.cells #[.int .i64 0, .int .i64 0, .int .u32 0, .int .u32 0] 45)
  have hG := blk_alloc (blk_new w (.cells #[.int .i64 p, .int .i64 s, .int .i64 r, .int .i64 a] 23)) (.cells #[.int .i64 0, .int .i64 0, .int .u32 0, .int .u32 0] 45)
  simp only [World.size_alloc] at hF
  have SB := Aside0.mk hB0
  have SF := Aside0.mk hF
  have SG := Aside0.mk hG
  have HC := Aside0.mk hC
  have HCC := Aside0.mk hc
  clear hB0 hF hG hC hc
  by_cases ho : Ok p s r a
  · have hck : Aside0 (geom_Check.f (0 + 1) p s r a = some 0) := ⟨by rw [check_eq]; unfold chk; rw [if_pos ho]⟩
    have hby : Aside0 (geom_Bytes.f (0 + 1) p s r a = some (p * s, p * s * r, 0)) := ⟨bytes_yes 0 ho⟩
    have bd := Ok.bounds ho
    obtain ⟨q, hq⟩ : ∃ q, p * s = q := ⟨_, rfl⟩
    rw [hq] at hby bd
    have q0 : 128 ≤ q := by omega
    have q1 : q ≤ 262144 := by omega
    by_cases hL : (bs.length : Int) = q
    · obtain ⟨m, hmq⟩ : ∃ m : Nat, bs.length = m + 24 := ⟨bs.length - 24, by omega⟩
      have hq2 : q = ((m + 24 : Nat) : Int) := by omega
      subst hq2
      have hil : (ints bs).length = m + 24 := by rw [ints_length, hmq]
      have hcm : m + 24 ≤ c := by have := HCC.out; omega
      have CS := Kd.C_drop (c := c) (m := m) HC.out (by omega) HCC.out
      rw [if_neg (by omega), ints_drop] at CS
      replace CS : Kd.C (Kd.int .u8) w (Option.map (fun x => x.add m) A) (ints (bs.drop m)).length (ints (bs.drop m)) := by
        have e : (fun x : Addr => x.add (m * (Kd.int .u8).sz)) = fun x => x.add m := by
          funext x
          show x.add (m * 1) = _
          rw [Nat.mul_one]
        rw [← e]
        exact CS
      obtain ⟨t, ht⟩ : ∃ t, bs.drop m = t := ⟨_, rfl⟩
      rw [ht] at CS
      have htl : t.length = 24 := by rw [← ht, List.length_drop]; omega
      have hbt : Bytes t := by rw [← ht]; exact bytes_drop hb m
      have htl2 : (ints t).length = 24 := by rw [ints_length, htl]
      rw [htl2] at CS
      rw [hil] at *
      have hw1 : IntKind.i64.wrap (((m + 24 : Nat) : Int) - 24) = (m : Int) := by rw [i64_w, w64 (by omega) (by omega)]; omega
      have hw2 : wrap64 (((m + 24 : Nat) : Int) - 24) = (m : Int) := by rw [w64 (by omega) (by omega)]; omega
      have k1 : ((m + 24 : Nat) : Int) ≤ (c : Int) := by omega
      have k2 : (m : Int) ≤ ((m + 24 : Nat) : Int) := by omega
      have k3 : (m : Int) ≤ (c : Int) := by omega
      have k4 : (c = m) = False := eq_false (by omega)
      have k5 : (m = 0) = False := eq_false (by omega)
      have hmf : ∀ (fn : Fn) (first cap : Array Value) (w : World), (Instr.makeFunc fn first cap).run Try.prog w = .ok (.func fn first cap) w := fun _ _ _ _ => rfl
      have SCS := Aside0.mk CS
      have SHQ := Aside0.mk hq
      have SHT := Aside0.mk ht
      have SHM := Aside0.mk hmq
      have SHL := Aside0.mk htl
      have SO := Aside0.mk ho
      clear CS ho bd hq ht hmq htl htl2 hil hL hm
      obtain ⟨n1, hn1⟩ : ∃ n1, num ((t.drop (4 * 1)).take 4) = n1 := ⟨_, rfl⟩
      obtain ⟨n2, hn2⟩ : ∃ n2, num ((t.drop (4 * 2)).take 4) = n2 := ⟨_, rfl⟩
      obtain ⟨n3, hn3⟩ : ∃ n3, num ((t.drop (4 * 3)).take 4) = n3 := ⟨_, rfl⟩
      obtain ⟨n4, hn4⟩ : ∃ n4, num ((t.drop (4 * 4)).take 4) = n4 := ⟨_, rfl⟩
      have f1 : fourth bs 1 = n1 := by unfold fourth; rw [SHM.out, Nat.add_sub_cancel, ← List.drop_drop, SHT.out, hn1]
      have f2 : fourth bs 2 = n2 := by unfold fourth; rw [SHM.out, Nat.add_sub_cancel, ← List.drop_drop, SHT.out, hn2]
      have f3 : fourth bs 3 = n3 := by unfold fourth; rw [SHM.out, Nat.add_sub_cancel, ← List.drop_drop, SHT.out, hn3]
      have f4 : fourth bs 4 = n4 := by unfold fourth; rw [SHM.out, Nat.add_sub_cancel, ← List.drop_drop, SHT.out, hn4]
      have l1 : n1 < 4294967296 := f1 ▸ fourth_lt bs 1 hb
      have l2 : n2 < 4294967296 := f2 ▸ fourth_lt bs 2 hb
      have l3 : n3 < 4294967296 := f3 ▸ fourth_lt bs 3 hb
      have l4 : n4 < 4294967296 := f4 ▸ fourth_lt bs 4 hb
      have c1 : IntKind.i64.wrap (n1 : Int) = (n1 : Int) := by rw [i64_w]; exact w64 (by omega) (by omega)
      have c2 : IntKind.i64.wrap (n2 : Int) = (n2 : Int) := by rw [i64_w]; exact w64 (by omega) (by omega)
      have c3 : IntKind.u32.wrap (n3 : Int) = (n3 : Int) := by show (n3 : Int) % 4294967296 = (n3 : Int); omega
      have c4 : IntKind.u32.wrap (n4 : Int) = (n4 : Int) := by show (n4 : Int) % 4294967296 = (n4 : Int); omega
      have hcall := fun (i : Nat) (h0 : 0 < i) (h5 : i < 5) (g : Nat) (w' : World) (hg : w'.cell? ⟨g, 0, none⟩ = some (.slice (Option.map (fun x => x.add m) A) 24 (c - m))) (hB : Below w.heap.size w w') =>
        footn_walk i g (Option.map (fun x => x.add m) A) (c - m) t hbt h0 h5 SHL.out w' hg (by rw [ints_length, SHL.out]; exact Kd.C_below SCS.out hB) (by omega)
      have H1 := hcall 1 (by decide) (by decide)
      have H2 := hcall 2 (by decide) (by decide)
      have H3 := hcall 3 (by decide) (by decide)
      have H4 := hcall 4 (by decide) (by decide)
      rw [hn1] at H1
      rw [hn2] at H2
      rw [hn3] at H3
      rw [hn4] at H4
      have SH1 := Aside0.mk H1
      have SH2 := Aside0.mk H2
      have SH3 := Aside0.mk H3
      have SH4 := Aside0.mk H4
      have Sn := Aside0.mk (And.intro f1 (And.intro f2 (And.intro f3 f4)))
      clear H1 H2 H3 H4 hcall hn1 hn2 hn3 hn4 f1 f2 f3 f4
      go_enter Try.func23, Try.ntmps23
      go_upto_region 9 with (first
        | (go_at_call 27; refine (geom_Check.calls (0 + 1) p s r a 0 _ hck.out).mono ?_; rintro e w1 ⟨rfl, hb1⟩; have B1 := Aside0.mk (below_then SB.out SB.out.size hb1); have F1 := Aside0.mk (blk_below SF.out hb1); have G1 := Aside0.mk (blk_below SG.out hb1); have x0 := blk_cell G1.out 0; have x1 := blk_cell G1.out 1; have x2 := blk_cell G1.out 2; have x3 := blk_cell G1.out 3; simp only [List.getElem?_toArray, List.getElem?_cons_zero, List.getElem?_cons_succ] at x0 x1 x2 x3; clear hb1)
        | (go_at_call 41; refine (geom_Bytes.calls (0 + 1) p s r a _ _ 0 _ hby.out).mono ?_; rintro e w2 ⟨rfl, hb2⟩; have B2 := Aside0.mk (below_then B1.out B1.out.size hb2); have F2 := Aside0.mk (blk_below F1.out hb2); have G2 := Aside0.mk (blk_below G1.out hb2); clear hb2 x0 x1 x2 x3))
      obtain ⟨w3, hw3⟩ : ∃ w3, w2.alloc (.cells #[.slice (Option.map (fun x => x.add m) A) 24 (c - m)] 28) = w3 := ⟨_, rfl⟩
      have B3 : Below w.heap.size w w3 := by rw [← hw3]; exact below_alloc B2.out _
      have U3 : Below w2.heap.size w2 w3 := by rw [← hw3]; exact below_alloc (Below.refl _ _) _
      have N3 : w3.heap[w2.heap.size]? = some (.cells #[.slice (Option.map (fun x => x.add m) A) 24 (c - m)] 28) := by rw [← hw3]; exact blk_new _ _
      rw [hw3]
      clear hw3
      have yb := blk_cell N3 0
      simp only [List.getElem?_toArray, List.getElem?_cons_zero] at yb
      have SB3 := Aside0.mk B3
      have SU3 := Aside0.mk U3
      have SN3 := Aside0.mk N3
      clear B3 U3 N3
      go_upto_region 10 with (first
        | (go_at_call 43; refine (SH4.out w2.heap.size w6 (pw_cell_below U6.out yb) (below_then SB3.out SB3.out.size U6.out)).mono ?_; rintro e w7 ⟨rfl, ⟨nd, hnd⟩⟩; have U7 := Aside0.mk (show Below w3.heap.size w3 w7 by rw [hnd]; exact pw_below_drewN U6.out nd); clear hnd)
        | (go_at_call 43; refine (SH3.out w2.heap.size w5 (pw_cell_below U5.out yb) (below_then SB3.out SB3.out.size U5.out)).mono ?_; rintro e w6 ⟨rfl, ⟨nd, hnd⟩⟩; have U6 := Aside0.mk (show Below w3.heap.size w3 w6 by rw [hnd]; exact pw_below_drewN U5.out nd); clear hnd)
        | (go_at_call 43; refine (SH2.out w2.heap.size w4 (pw_cell_below U4.out yb) (below_then SB3.out SB3.out.size U4.out)).mono ?_; rintro e w5 ⟨rfl, ⟨nd, hnd⟩⟩; have U5 := Aside0.mk (show Below w3.heap.size w3 w5 by rw [hnd]; exact pw_below_drewN U4.out nd); clear hnd)
        | (go_at_call 43; refine (SH1.out w2.heap.size w3 yb SB3.out).mono ?_; rintro e w4 ⟨rfl, ⟨nd, hnd⟩⟩; have U4 := Aside0.mk (show Below w3.heap.size w3 w4 by rw [hnd]; exact pw_below_drewN (Below.refl _ _) nd); clear hnd))
      have U7' := U7
      obtain ⟨w8, hw8⟩ : ∃ w8, w7.alloc (.cells #[.int .i64 (n1 : Int), .int .i64 (n2 : Int), .int .u32 (n3 : Int), .int .u32 (n4 : Int)] 45) = w8 := ⟨_, rfl⟩
      have U8 : Below w3.heap.size w3 w8 := by rw [← hw8]; exact below_alloc U7.out _
      have D8 : w8.heap[w7.heap.size]? = some (.cells #[.int .i64 (n1 : Int), .int .i64 (n2 : Int), .int .u32 (n3 : Int), .int .u32 (n4 : Int)] 45) := by rw [← hw8]; exact blk_new _ _
      rw [hw8]
      clear hw8
      have B8 := Aside0.mk (below_then SB3.out SB3.out.size U8)
      have V8 : Below w2.heap.size w2 w8 := below_then SU3.out SU3.out.size U8
      have G8 := blk_below G2.out V8
      have F8 := Aside0.mk (blk_below F2.out V8)
      have N8 := Aside0.mk (blk_below SN3.out U8)
      have SD8 := Aside0.mk D8
      have x0 := blk_cell G8 0
      have x1 := blk_cell G8 1
      have x2 := blk_cell G8 2
      have x3 := blk_cell G8 3
      have d0 := blk_cell D8 0
      have d1 := blk_cell D8 1
      have d2 := blk_cell D8 2
      have d3 := blk_cell D8 3
      simp only [List.getElem?_toArray, List.getElem?_cons_zero, List.getElem?_cons_succ] at x0 x1 x2 x3 d0 d1 d2 d3
      clear yb G8 D8 V8 U8 U4 U5 U6 U7 U7' c1 c2 c3 c4
      have hE := efoot_walk p s r a n1 n2 n3 n4 l3 l4
      have hEB := efoot_bytes p s r a n1 n2 n3 n4
      have hEO := fun h => efoot_ok (p := p) (s := s) (r := r) (a := a) (n := n1) (u := n2) (x := n3) (y := n4) h
      have hEL := efoot_length p s r a n1 n2 n3 n4
      have hans : ffoot p s r a bs = if (efoot p s r a n1 n2 n3 n4).2 = 0 ∧ (efoot p s r a n1 n2 n3 n4).1 = t ∧ ext 0 (bs.take n2) = n4 then ((n1, n2, n3, n4), 0) else ((0, 0, 0, 0), 51) := by
        obtain ⟨f1, f2, f3, f4⟩ := Sn.out
        unfold ffoot
        rw [if_pos SO.out, if_pos (by rw [SHQ.out, SHM.out]), f1, f2, f3, f4, SHM.out, Nat.add_sub_cancel, SHT.out]
      obtain ⟨⟨es, ec⟩, hEE⟩ : ∃ E, efoot p s r a n1 n2 n3 n4 = E := ⟨_, rfl⟩
      rw [hEE] at hE hEB hEO hans hEL
      simp only at hEB hEO hans hEL
      have SEO := Aside0.mk hEO
      have SEL := Aside0.mk hEL
      have SA := Aside0.mk hans
      have SE := Aside0.mk hE
      clear hEE hE hEO hans hEL
      go_upto_region 11 with (go_at_call 21; refine (SE.out _).mono ?_; rintro e w9 ⟨v9, rfl, hR9, hb9⟩; obtain ⟨A9, c9, rfl⟩ := Kd.R_slice hR9; have R9 := Aside0.mk hR9; have U9 := Aside0.mk hb9; clear hR9 hb9)
      clear x0 x1 x2 x3 d0 d1 d2 d3
      have B9 := Aside0.mk (below_then B8.out B8.out.size U9.out)
      have F9 := Aside0.mk (blk_below F8.out U9.out)
      have N9 := blk_below N8.out U9.out
      have D9 := blk_below SD8.out U9.out
      have C9 := Aside0.mk (Kd.C_below SCS.out B9.out)
      have CB9 := Aside0.mk (Kd.C_below HC.out B9.out)
      have yb := blk_cell N9 0
      have y0 := blk_cell F9.out 0
      have y1 := blk_cell F9.out 1
      have y2 := blk_cell F9.out 2
      have y3 := blk_cell F9.out 3
      have z0 := blk_frozen F9.out 0
      have z1 := blk_frozen F9.out 1
      have z2 := blk_frozen F9.out 2
      have z3 := blk_frozen F9.out 3
      have d0 := blk_cell D9 0
      have d1 := blk_cell D9 1
      have d2 := blk_cell D9 2
      have d3 := blk_cell D9 3
      simp only [List.getElem?_toArray, List.getElem?_cons_zero, List.getElem?_cons_succ] at y0 y1 y2 y3 d0 d1 d2 d3 yb
      clear N9 D9
      have HEQ : Aside0 (∀ (n : Nat), Calls Try.prog 36 #[.slice A9 (ints es).length c9, .slice (Option.map (fun x => x.add m) A) 24 (c - m)] (w9.drewN n) fun e w'' => e = .returned (.bool (decide (es = t))) ∧ ∃ k, w'' = w9.drewN k) := ⟨fun n => by
        have h := bytes_Equal.calls A9 c9 (ints es) (Option.map (fun x => x.add m) A) (c - m) (ints t) _ (w9.drewN n) (Kd.R_reads' (Kd.R_drewN R9.out n)).2.2 (Kd.R_reads' (Kd.R_drewN R9.out n)).2.1 (by rw [ints_length, SHL.out]; exact Kd.C_drewN C9.out n) (by rw [ints_length, SHL.out]; omega) (equal_eq es t hEB hbt)
        rw [show (ints t).length = 24 by rw [ints_length, SHL.out]] at h
        exact Calls.quiet_of (h.mono fun _ _ ⟨he, k, hk⟩ => ⟨he, k, hk⟩)⟩
      clear hEB
      by_cases he : ec = 0
      · subst he
        have hu := SEO.out rfl
        rw [SHQ.out] at hu
        have hnm : n2 ≤ m := by omega
        have u1 : (0 : Int) ≤ (n2 : Int) := by omega
        have u2 : (n2 : Int) ≤ ((m + 24 : Nat) : Int) := by omega
        have u3 : (n2 : Int) ≤ (c : Int) := by omega
        have hx0 : ext 0 (bs.take n2) < 4294967296 := ext_lt (by decide) (bytes_take hb n2)
        have HCR : Aside0 (∀ (n : Nat), Calls Try.prog 30 #[.slice A n2 c] (w9.drewN n) fun e w'' => e = .returned (.int .u32 ((ext 0 (bs.take n2) : Nat) : Int)) ∧ ∃ k, w'' = w9.drewN k) := ⟨fun n => by
          have hli : (ints bs).length = m + 24 := by rw [ints_length, SHM.out]
          have hlt : ((ints bs).take n2).length = n2 := by rw [List.length_take]; omega
          have h := sum_Crc.calls (n2 + 10) A c ((ints bs).take n2) ((ext 0 (bs.take n2) : Nat) : Int) (w9.drewN n) (Kd.C_take (Kd.C_drewN CB9.out n) (by omega)) (by omega) (by
            rw [ints_take]; exact crc_eq (n2 + 10) (bs.take n2) (bytes_take hb n2) (by rw [List.length_take]; omega) (by rw [List.length_take]; omega))
          rw [hlt] at h
          exact Calls.quiet_of (h.mono fun _ _ ⟨he, k, hk⟩ => ⟨he, k, hk⟩)⟩
        obtain ⟨x, hx⟩ : ∃ x, ext 0 (bs.take n2) = x := ⟨_, rfl⟩
        rw [hx] at HCR hx0
        have SX := Aside0.mk hx
        clear hx hu
        by_cases heq : es = t
        · have he1 : decide (es = t) = true := decide_eq_true heq
          have SQ := Aside0.mk heq
          clear heq
          by_cases hxx : x = n4
          · have hr : ffoot p s r a bs = ((n1, n2, n3, n4), 0) := by rw [SA.out, if_pos ⟨rfl, SQ.out, SX.out.trans hxx⟩]
            subst hxx
            rw [he1] at HEQ
            clear he1
            go_quiet (first | (go_at_call 36; exact HEQ.out _) | (go_at_call 30; exact HCR.out _))
            go_wp2
            try rw [hr]
            refine bodyPost_ret (results_ct rfl _ _ (w.heap.size + 1) 45 #[.int .i64 (n1 : Int), .int .i64 (n2 : Int), .int .u32 (n3 : Int), .int .u32 (x : Int)] (0, 0) _ rfl (put4 (blk_drewN F9.out _) _ _ _ _) Try.underlying45 rfl (by kernel_rfl)) rfl ?_
            exact ⟨rfl, below4 (pw_below_drewN B9.out _) (by omega) _ _ _ _⟩
          · have hr : ffoot p s r a bs = ((0, 0, 0, 0), 51) := by rw [SA.out, if_neg (fun h => hxx (SX.out.symm.trans h.2.2))]
            have hx1 : ((x : Int) != (n4 : Int)) = true := by simpa using (show ¬ (x : Int) = (n4 : Int) by omega)
            have hx2 : ¬ (x : Int) = (n4 : Int) := by omega
            rw [he1] at HEQ
            clear he1
            go_quiet (first | (go_at_call 36; exact HEQ.out _) | (go_at_call 30; exact HCR.out _))
            go_wp2
            try rw [hr]
            refine bodyPost_ret (results_ct rfl _ _ (w.heap.size + 1) 45 #[.int .i64 0, .int .i64 0, .int .u32 0, .int .u32 0] (0, 0) _ rfl (put4 (blk_drewN F9.out _) _ _ _ _) Try.underlying45 rfl (by kernel_rfl)) rfl ?_
            exact ⟨rfl, below4 (pw_below_drewN B9.out _) (by omega) _ _ _ _⟩
        · have he1 : decide (es = t) = false := decide_eq_false heq
          have hr : ffoot p s r a bs = ((0, 0, 0, 0), 51) := by rw [SA.out, if_neg (fun h => heq h.2.1)]
          rw [he1] at HEQ
          clear he1 heq
          clear d0 d1 d2 d3
          go_quiet (first | (go_at_call 36; exact HEQ.out _))
          go_wp2
          try rw [hr]
          refine bodyPost_ret (results_ct rfl _ _ (w.heap.size + 1) 45 #[.int .i64 0, .int .i64 0, .int .u32 0, .int .u32 0] (0, 0) _ rfl (put4 (blk_drewN F9.out _) _ _ _ _) Try.underlying45 rfl (by kernel_rfl)) rfl ?_
          exact ⟨rfl, below4 (pw_below_drewN B9.out _) (by omega) _ _ _ _⟩
      · have hr : ffoot p s r a bs = ((0, 0, 0, 0), 51) := by rw [SA.out, if_neg (fun h => he h.1)]
        have he1 : (ec != 0) = true := by simpa using he
        have he2 : decide (ec = 0) = false := decide_eq_false he
        clear d0 d1 d2 d3 yb
        go_quiet (fail)
        go_wp2
        try rw [hr]
        refine bodyPost_ret (results_ct rfl _ _ (w.heap.size + 1) 45 #[.int .i64 0, .int .i64 0, .int .u32 0, .int .u32 0] (0, 0) _ rfl (put4 (blk_drewN F9.out _) _ _ _ _) Try.underlying45 rfl (by kernel_rfl)) rfl ?_
        exact ⟨rfl, below4 (pw_below_drewN B9.out _) (by omega) _ _ _ _⟩
    · have hr : ffoot p s r a bs = ((0, 0, 0, 0), 51) := by unfold ffoot; rw [if_pos ho, hq, if_neg hL]
      try rw [hr]
      have HQ := Aside0.mk hq
      clear ho bd hr hq
      obtain ⟨n, hn⟩ : ∃ n, (ints bs).length = n := ⟨_, rfl⟩
      have hN : (n : Int) ≠ q := by rw [← hn, ints_length]; exact hL
      have hN1 : decide ((n : Int) = q) = false := decide_eq_false hN
      have hN2 : ((n : Int) == q) = false := by simpa using hN
      rw [hn]
      clear hL hN hn hm
      go_enter Try.func23, Try.ntmps23
      go_wp2_with (first
        | (go_at_call 27; refine (geom_Check.calls (0 + 1) p s r a 0 _ hck.out).mono ?_; rintro e w1 ⟨rfl, hb1⟩; have B1 := Aside0.mk (below_then SB.out SB.out.size hb1); have F1 := Aside0.mk (blk_below SF.out hb1); have G1 := Aside0.mk (blk_below SG.out hb1); have x0 := blk_cell G1.out 0; have x1 := blk_cell G1.out 1; have x2 := blk_cell G1.out 2; have x3 := blk_cell G1.out 3; simp only [List.getElem?_toArray, List.getElem?_cons_zero, List.getElem?_cons_succ] at x0 x1 x2 x3; clear hb1)
        | (go_at_call 41; refine (geom_Bytes.calls (0 + 1) p s r a q _ 0 _ hby.out).mono ?_; rintro e w2 ⟨rfl, hb2⟩; have B2 := Aside0.mk (below_then B1.out B1.out.size hb2); have F2 := Aside0.mk (blk_below F1.out hb2); have y0 := blk_cell F2.out 0; have y1 := blk_cell F2.out 1; have y2 := blk_cell F2.out 2; have y3 := blk_cell F2.out 3; have z0 := blk_frozen F2.out 0; have z1 := blk_frozen F2.out 1; have z2 := blk_frozen F2.out 2; have z3 := blk_frozen F2.out 3; simp only [List.getElem?_toArray, List.getElem?_cons_zero, List.getElem?_cons_succ] at y0 y1 y2 y3; clear hb2 x0 x1 x2 x3))
      refine bodyPost_ret (results_ct rfl _ _ (w.heap.size + 1) 45 #[.int .i64 0, .int .i64 0, .int .u32 0, .int .u32 0] (0, 0) _ rfl (put4 F2.out _ _ _ _) Try.underlying45 rfl (by kernel_rfl)) rfl ?_
      exact ⟨rfl, below4 B2.out (by omega) _ _ _ _⟩
  · have hck : Aside0 (geom_Check.f (0 + 1) p s r a = some 20) := ⟨by rw [check_eq]; unfold chk; rw [if_neg ho]⟩
    have hr : ffoot p s r a bs = ((0, 0, 0, 0), 20) := by unfold ffoot; rw [if_neg ho]
    try rw [hr]
    clear ho hr
    go_enter Try.func23, Try.ntmps23
    go_wp2_with (go_at_call 27; refine (geom_Check.calls (0 + 1) p s r a 20 _ hck.out).mono ?_; rintro e w1 ⟨rfl, hb1⟩; have B1 := Aside0.mk (below_then SB.out SB.out.size hb1); have F1 := Aside0.mk (blk_below SF.out hb1); have y0 := blk_cell F1.out 0; have y1 := blk_cell F1.out 1; have y2 := blk_cell F1.out 2; have y3 := blk_cell F1.out 3; have z0 := blk_frozen F1.out 0; have z1 := blk_frozen F1.out 1; have z2 := blk_frozen F1.out 2; have z3 := blk_frozen F1.out 3; simp only [List.getElem?_toArray, List.getElem?_cons_zero, List.getElem?_cons_succ] at y0 y1 y2 y3; clear hb1)
    refine bodyPost_ret (results_ct rfl _ _ (w.heap.size + 1) 45 #[.int .i64 0, .int .i64 0, .int .u32 0, .int .u32 0] (0, 0) _ rfl (put4 F1.out _ _ _ _) Try.underlying45 rfl (by kernel_rfl)) rfl ?_
    exact ⟨rfl, below4 B1.out (by omega) _ _ _ _⟩
theorem w_near (m : Nat) (hm : m ≤ 262144) (K : Int) (h0 : 0 ≤ K) (h1 : K ≤ 100) : IntKind.i64.wrap ((m : Int) + K) = (m : Int) + K := by rw [i64_w, w64 (by omega) (by omega)]
theorem rnum_call (A : Option Addr) (c : Nat) (bs : List Nat) (m k : Nat) (K : Int) (n : Nat) (w' : World) (hb : Bytes bs) (hl : bs.length = m + 24) (hm : m ≤ 262144) (hk : k ≤ 16) (hK : K = (k : Int)) (hC : Kd.C (Kd.int .u8) w' A (ints bs).length (ints bs)) (hc : (ints bs).length ≤ c) (hn : num ((bs.drop (m + k)).take 4) = n) :
    Calls Try.prog 37 #[.slice A (m + 24) c, .int .i64 ((m : Int) + K), .int .i64 4] w' fun e w'' => e = .returned (.int .u64 (n : Int)) ∧ Drawn0 w' w'' := by
  subst hK
  have h := cellarref05_number.calls 9 A c (ints bs) ((m + k : Nat) : Int) ((4 : Nat) : Int) _ w' hC hc (rnumber_eq 9 bs (m + k) 4 hb (by decide) (by omega) (by omega) (by decide))
  rw [show (ints bs).length = m + 24 by rw [ints_length, hl], hn] at h
  exact h
set_option maxHeartbeats 4000000 in
set_option maxRecDepth 100000 in
theorem rfoot_walk (p s r a : Int) (A : Option Addr) (c : Nat) (bs : List Nat) (hb : Bytes bs) (hm : bs.length < 140737488355328) (w : World) (hC : Kd.C (Kd.int .u8) w A (ints bs).length (ints bs)) (hc : (ints bs).length ≤ c) :
    Calls Try.prog 24 #[.agg #[.int .i64 p, .int .i64 s, .int .i64 r, .int .i64 a], .slice A (ints bs).length c] w fun e w' => e = .returned (.tuple #[.agg #[.int .i64 ((ffoot p s r a bs).1.1 : Nat), .int .i64 ((ffoot p s r a bs).1.2.1 : Nat), .int .u32 ((ffoot p s r a bs).1.2.2.1 : Nat), .int .u32 ((ffoot p s r a bs).1.2.2.2 : Nat)], .int .i64 (ffoot p s r a bs).2]) ∧ Below w.heap.size w w' := by
  have hB0 := ((Below.refl w.heap.size w).alloc (Nat.le_refl _) (.cells #[.int .i64 p, .int .i64 s, .int .i64 r, .int .i64 a] 23)).alloc (by simp) (.cells #[.int .i64 0, .int .i64 0, .int .u32 0, .int .u32 0] 45)
  have hF := blk_new (w.alloc (.cells #[.int .i64 p, .int .i64 s, .int .i64 r, .int .i64 a] 23)) (.cells #[.int .i64 0, .int .i64 0, .int .u32 0, .int .u32 0] 45)
  have hG := blk_alloc (blk_new w (.cells #[.int .i64 p, .int .i64 s, .int .i64 r, .int .i64 a] 23)) (.cells #[.int .i64 0, .int .i64 0, .int .u32 0, .int .u32 0] 45)
  simp only [World.size_alloc] at hF
  have SB := Aside0.mk hB0
  have SF := Aside0.mk hF
  have SG := Aside0.mk hG
  have HC := Aside0.mk hC
  have HCC := Aside0.mk hc
  clear hB0 hF hG hC hc
  by_cases ho : Ok p s r a
  · have hck : Aside0 (cellarref02_Check.f (0 + 20) p s r a = some 0) := ⟨by rw [rcheck_eq]; unfold chk; rw [if_pos ho]⟩
    have bd := Ok.bounds ho
    obtain ⟨q, hq⟩ : ∃ q, p * s = q := ⟨_, rfl⟩
    rw [hq] at bd
    have q0 : 128 ≤ q := by omega
    have q1 : q ≤ 262144 := by omega
    have hpq : IntKind.i64.wrap (p * s) = q := by rw [i64_w, hq]; exact w64 (by omega) (by omega)
    have hpq' : wrap64 (p * s) = q := by rw [hq]; exact w64 (by omega) (by omega)
    by_cases hL : (bs.length : Int) = q
    · obtain ⟨m, hmq⟩ : ∃ m : Nat, bs.length = m + 24 := ⟨bs.length - 24, by omega⟩
      have hq2 : q = ((m + 24 : Nat) : Int) := by omega
      subst hq2
      have hil : (ints bs).length = m + 24 := by rw [ints_length, hmq]
      have hcm : m + 24 ≤ c := by have := HCC.out; omega
      have CS := Kd.C_drop (c := c) (m := m) HC.out (by omega) HCC.out
      rw [if_neg (by omega), ints_drop] at CS
      replace CS : Kd.C (Kd.int .u8) w (Option.map (fun x => x.add m) A) (ints (bs.drop m)).length (ints (bs.drop m)) := by
        have e : (fun x : Addr => x.add (m * (Kd.int .u8).sz)) = fun x => x.add m := by
          funext x
          show x.add (m * 1) = _
          rw [Nat.mul_one]
        rw [← e]
        exact CS
      obtain ⟨t, ht⟩ : ∃ t, bs.drop m = t := ⟨_, rfl⟩
      rw [ht] at CS
      have htl : t.length = 24 := by rw [← ht, List.length_drop]; omega
      have hbt : Bytes t := by rw [← ht]; exact bytes_drop hb m
      have htl2 : (ints t).length = 24 := by rw [ints_length, htl]
      rw [htl2] at CS
      rw [hil] at *
      have pq : IntKind.i64.wrap (p * s) = (m : Int) + 24 := hpq
      have pq' : wrap64 (p * s) = (m : Int) + 24 := hpq'
      have SHP := Aside0.mk hq
      clear hpq hpq' hq bd
      go_enter Try.func24, Try.ntmps24
      go_upto_region 4 with (go_at_call 31; refine (cellarref02_Check.calls (0 + 20) p s r a 0 _ hck.out).mono ?_; rintro e w1 ⟨rfl, hb1⟩; have B1 := Aside0.mk (below_then SB.out SB.out.size hb1); have F1 := Aside0.mk (blk_below SF.out hb1); have G1 := Aside0.mk (blk_below SG.out hb1); have x0 := blk_cell G1.out 0; have x1 := blk_cell G1.out 1; simp only [List.getElem?_toArray, List.getElem?_cons_zero, List.getElem?_cons_succ] at x0 x1; clear hb1)
      go_upto_region 6 with fail
      have SB3 := B1
      have U3 := Aside0.mk (Below.refl w1.heap.size w1)
      clear x0 x1 pq pq'
      have hm26 : m ≤ 262144 := by omega
      have hw0 : IntKind.i64.wrap (m : Int) = (m : Int) := by have := w_near m hm26 0 (by decide) (by decide); rwa [Int.add_zero] at this
      have hw9 : wrap64 (m : Int) = (m : Int) := (i64_w _).symm.trans hw0
      go_upto_region 7 with fail
      clear hw0 hw9
      have SCS := Aside0.mk CS
      have SHQ := SHP
      have SHT := Aside0.mk ht
      have SHM := Aside0.mk hmq
      have SHL := Aside0.mk htl
      have SO := Aside0.mk ho
      clear CS ho ht hmq htl htl2 hil hL hm
      obtain ⟨n1, f1⟩ : ∃ n, fourth bs 1 = n := ⟨_, rfl⟩
      obtain ⟨n2, f2⟩ : ∃ n, fourth bs 2 = n := ⟨_, rfl⟩
      obtain ⟨n3, f3⟩ : ∃ n, fourth bs 3 = n := ⟨_, rfl⟩
      obtain ⟨n4, f4⟩ : ∃ n, fourth bs 4 = n := ⟨_, rfl⟩
      have e1 : Aside0 (num ((bs.drop (m + 4)).take 4) = n1) := ⟨by rw [← f1]; unfold fourth; rw [SHM.out, Nat.add_sub_cancel]⟩
      have e2 : Aside0 (num ((bs.drop (m + 8)).take 4) = n2) := ⟨by rw [← f2]; unfold fourth; rw [SHM.out, Nat.add_sub_cancel]⟩
      have e3 : Aside0 (num ((bs.drop (m + 12)).take 4) = n3) := ⟨by rw [← f3]; unfold fourth; rw [SHM.out, Nat.add_sub_cancel]⟩
      have e4 : Aside0 (num ((bs.drop (m + 16)).take 4) = n4) := ⟨by rw [← f4]; unfold fourth; rw [SHM.out, Nat.add_sub_cancel]⟩
      have l1 : n1 < 4294967296 := f1 ▸ fourth_lt bs 1 hb
      have l2 : n2 < 4294967296 := f2 ▸ fourth_lt bs 2 hb
      have l3 : n3 < 4294967296 := f3 ▸ fourth_lt bs 3 hb
      have l4 : n4 < 4294967296 := f4 ▸ fourth_lt bs 4 hb
      have c1 : IntKind.i64.wrap (n1 : Int) = (n1 : Int) := by rw [i64_w]; exact w64 (by omega) (by omega)
      have c2 : IntKind.i64.wrap (n2 : Int) = (n2 : Int) := by rw [i64_w]; exact w64 (by omega) (by omega)
      have c3 : IntKind.u32.wrap (n3 : Int) = (n3 : Int) := by show (n3 : Int) % 4294967296 = (n3 : Int); omega
      have c4 : IntKind.u32.wrap (n4 : Int) = (n4 : Int) := by show (n4 : Int) % 4294967296 = (n4 : Int); omega
      have Sn := Aside0.mk (And.intro f1 (And.intro f2 (And.intro f3 f4)))
      clear f1 f2 f3 f4
      have SH1 : Aside0 (∀ w', Below w.heap.size w w' → Calls Try.prog 37 #[.slice A (m + 24) c, .int .i64 ((m : Int) + 4), .int .i64 4] w' fun e w'' => e = .returned (.int .u64 (n1 : Int)) ∧ Drawn0 w' w'') := ⟨fun w' hB => rnum_call A c bs m 4 4 n1 w' hb SHM.out hm26 (by decide) rfl (Kd.C_below HC.out hB) HCC.out e1.out⟩
      have SH2 : Aside0 (∀ w', Below w.heap.size w w' → Calls Try.prog 37 #[.slice A (m + 24) c, .int .i64 ((m : Int) + 8), .int .i64 4] w' fun e w'' => e = .returned (.int .u64 (n2 : Int)) ∧ Drawn0 w' w'') := ⟨fun w' hB => rnum_call A c bs m 8 8 n2 w' hb SHM.out hm26 (by decide) rfl (Kd.C_below HC.out hB) HCC.out e2.out⟩
      have SH3 : Aside0 (∀ w', Below w.heap.size w w' → Calls Try.prog 37 #[.slice A (m + 24) c, .int .i64 ((m : Int) + 12), .int .i64 4] w' fun e w'' => e = .returned (.int .u64 (n3 : Int)) ∧ Drawn0 w' w'') := ⟨fun w' hB => rnum_call A c bs m 12 12 n3 w' hb SHM.out hm26 (by decide) rfl (Kd.C_below HC.out hB) HCC.out e3.out⟩
      have SH4 : Aside0 (∀ w', Below w.heap.size w w' → Calls Try.prog 37 #[.slice A (m + 24) c, .int .i64 ((m : Int) + 16), .int .i64 4] w' fun e w'' => e = .returned (.int .u64 (n4 : Int)) ∧ Drawn0 w' w'') := ⟨fun w' hB => rnum_call A c bs m 16 16 n4 w' hb SHM.out hm26 (by decide) rfl (Kd.C_below HC.out hB) HCC.out e4.out⟩
      clear e1 e2 e3 e4
      go_upto_region 8 with (first
        | (go_at_call 37; refine (SH4.out w6 (below_then SB3.out SB3.out.size U6.out)).mono ?_; rintro e w7 ⟨rfl, ⟨nd, hnd⟩⟩; have U7 := Aside0.mk (show Below w1.heap.size w1 w7 by rw [hnd]; exact pw_below_drewN U6.out nd); clear hnd)
        | (go_at_call 37; refine (SH3.out w5 (below_then SB3.out SB3.out.size U5.out)).mono ?_; rintro e w6 ⟨rfl, ⟨nd, hnd⟩⟩; have U6 := Aside0.mk (show Below w1.heap.size w1 w6 by rw [hnd]; exact pw_below_drewN U5.out nd); clear hnd)
        | (go_at_call 37; refine (SH2.out w4 (below_then SB3.out SB3.out.size U4.out)).mono ?_; rintro e w5 ⟨rfl, ⟨nd, hnd⟩⟩; have U5 := Aside0.mk (show Below w1.heap.size w1 w5 by rw [hnd]; exact pw_below_drewN U4.out nd); clear hnd)
        | (go_at_call 37; refine (SH1.out w1 SB3.out).mono ?_; rintro e w4 ⟨rfl, ⟨nd, hnd⟩⟩; have U4 := Aside0.mk (show Below w1.heap.size w1 w4 by rw [hnd]; exact pw_below_drewN (Below.refl _ _) nd); clear hnd))
      have U7' := U7
      obtain ⟨w8, hw8⟩ : ∃ w8, w7.alloc (.cells #[.int .i64 (n1 : Int), .int .i64 (n2 : Int), .int .u32 (n3 : Int), .int .u32 (n4 : Int)] 45) = w8 := ⟨_, rfl⟩
      have U8 : Below w1.heap.size w1 w8 := by rw [← hw8]; exact below_alloc U7.out _
      have D8 : w8.heap[w7.heap.size]? = some (.cells #[.int .i64 (n1 : Int), .int .i64 (n2 : Int), .int .u32 (n3 : Int), .int .u32 (n4 : Int)] 45) := by rw [← hw8]; exact blk_new _ _
      rw [hw8]
      clear hw8
      have B8 := Aside0.mk (below_then SB3.out SB3.out.size U8)
      have G8 := blk_below G1.out U8
      have F8 := Aside0.mk (blk_below F1.out U8)
      have SD8 := Aside0.mk D8
      have x0 := blk_cell G8 0
      have x1 := blk_cell G8 1
      have x2 := blk_cell G8 2
      have x3 := blk_cell G8 3
      have d0 := blk_cell D8 0
      have d1 := blk_cell D8 1
      have d2 := blk_cell D8 2
      have d3 := blk_cell D8 3
      simp only [List.getElem?_toArray, List.getElem?_cons_zero, List.getElem?_cons_succ] at x0 x1 x2 x3 d0 d1 d2 d3
      clear G8 D8 U8 U4 U5 U6 U7 U7' c1 c2 c3 c4
      have hE := refoot_walk p s r a n1 n2 n3 n4 l3 l4
      have hEB := efoot_bytes p s r a n1 n2 n3 n4
      have hEO := fun h => efoot_ok (p := p) (s := s) (r := r) (a := a) (n := n1) (u := n2) (x := n3) (y := n4) h
      have hEL := efoot_length p s r a n1 n2 n3 n4
      have hans : ffoot p s r a bs = if (efoot p s r a n1 n2 n3 n4).2 = 0 ∧ (efoot p s r a n1 n2 n3 n4).1 = t ∧ ext 0 (bs.take n2) = n4 then ((n1, n2, n3, n4), 0) else ((0, 0, 0, 0), 51) := by
        obtain ⟨f1, f2, f3, f4⟩ := Sn.out
        unfold ffoot
        rw [if_pos SO.out, if_pos (by rw [SHQ.out, SHM.out]), f1, f2, f3, f4, SHM.out, Nat.add_sub_cancel, SHT.out]
      obtain ⟨⟨es, ec⟩, hEE⟩ : ∃ E, efoot p s r a n1 n2 n3 n4 = E := ⟨_, rfl⟩
      rw [hEE] at hE hEB hEO hans hEL
      simp only at hEB hEO hans hEL
      have SEO := Aside0.mk hEO
      have SEL := Aside0.mk hEL
      have SA := Aside0.mk hans
      have SE := Aside0.mk hE
      clear hEE hE hEO hans hEL
      go_upto_region 9 with (go_at_call 22; refine (SE.out _).mono ?_; rintro e w9 ⟨v9, rfl, hR9, hb9⟩; obtain ⟨A9, c9, rfl⟩ := Kd.R_slice hR9; have R9 := Aside0.mk hR9; have U9 := Aside0.mk hb9; clear hR9 hb9)
      clear x0 x1 x2 x3 d0 d1 d2 d3
      have B9 := Aside0.mk (below_then B8.out B8.out.size U9.out)
      have F9 := Aside0.mk (blk_below F8.out U9.out)
      have D9 := blk_below SD8.out U9.out
      have C9 := Aside0.mk (Kd.C_below SCS.out B9.out)
      have CB9 := Aside0.mk (Kd.C_below HC.out B9.out)
      have y0 := blk_cell F9.out 0
      have y1 := blk_cell F9.out 1
      have y2 := blk_cell F9.out 2
      have y3 := blk_cell F9.out 3
      have z0 := blk_frozen F9.out 0
      have z1 := blk_frozen F9.out 1
      have z2 := blk_frozen F9.out 2
      have z3 := blk_frozen F9.out 3
      have d0 := blk_cell D9 0
      have d1 := blk_cell D9 1
      have d2 := blk_cell D9 2
      have d3 := blk_cell D9 3
      simp only [List.getElem?_toArray, List.getElem?_cons_zero, List.getElem?_cons_succ] at y0 y1 y2 y3 d0 d1 d2 d3
      clear D9
      have k1 : ((m + 24 : Nat) : Int) ≤ (c : Int) := by omega
      have k2 : (m : Int) ≤ ((m + 24 : Nat) : Int) := by omega
      have k3 : (m : Int) ≤ (c : Int) := by omega
      have k4 : (c = m) = False := eq_false (by omega)
      have k5 : (m = 0) = False := eq_false (by omega)
      have HEQ : Aside0 (∀ (n : Nat), Calls Try.prog 38 #[.slice A9 (ints es).length c9, .slice (Option.map (fun x => x.add m) A) 24 (c - m)] (w9.drewN n) fun e w'' => e = .returned (.bool (decide (es = t))) ∧ ∃ k, w'' = w9.drewN k) := ⟨fun n => by
        have h := cellarref05_same.calls (es.length + 10) A9 c9 (ints es) (Option.map (fun x => x.add m) A) (c - m) (ints t) _ (w9.drewN n) (Kd.R_reads' (Kd.R_drewN R9.out n)).2.2 (Kd.R_reads' (Kd.R_drewN R9.out n)).2.1 (by rw [ints_length, SHL.out]; exact Kd.C_drewN C9.out n) (by rw [ints_length, SHL.out]; omega) (rsame_eq (es.length + 10) es t (by have := SEL.out; omega) (by omega))
        rw [show (ints t).length = 24 by rw [ints_length, SHL.out]] at h
        exact Calls.quiet_of (h.mono fun _ _ ⟨he, k, hk⟩ => ⟨he, k, hk⟩)⟩
      clear hEB
      by_cases he : ec = 0
      · subst he
        have hu := SEO.out rfl
        rw [SHQ.out] at hu
        have hnm : n2 ≤ m := by omega
        have u1 : (0 : Int) ≤ (n2 : Int) := by omega
        have u2 : (n2 : Int) ≤ ((m + 24 : Nat) : Int) := by omega
        have u3 : (n2 : Int) ≤ (c : Int) := by omega
        have hx0 : ext 0 (bs.take n2) < 4294967296 := ext_lt (by decide) (bytes_take hb n2)
        have HCR : Aside0 (∀ (n : Nat), Calls Try.prog 33 #[.slice A n2 c] (w9.drewN n) fun e w'' => e = .returned (.int .u32 ((ext 0 (bs.take n2) : Nat) : Int)) ∧ ∃ k, w'' = w9.drewN k) := ⟨fun n => by
          have hli : (ints bs).length = m + 24 := by rw [ints_length, SHM.out]
          have hlt : ((ints bs).take n2).length = n2 := by rw [List.length_take]; omega
          have h := cellarref01_Crc.calls (10 * n2 + 10) A c ((ints bs).take n2) ((ext 0 (bs.take n2) : Nat) : Int) (w9.drewN n) (Kd.C_take (Kd.C_drewN CB9.out n) (by omega)) (by omega) (by
            rw [ints_take]; exact rcrc_eq (10 * n2 + 10) (bs.take n2) (bytes_take hb n2) (by rw [List.length_take]; omega) (by rw [List.length_take]; omega))
          rw [hlt] at h
          exact Calls.quiet_of (h.mono fun _ _ ⟨he, k, hk⟩ => ⟨he, k, hk⟩)⟩
        obtain ⟨x, hx⟩ : ∃ x, ext 0 (bs.take n2) = x := ⟨_, rfl⟩
        rw [hx] at HCR hx0
        have SX := Aside0.mk hx
        clear hx hu
        by_cases heq : es = t
        · have he1 : decide (es = t) = true := decide_eq_true heq
          have SQ := Aside0.mk heq
          clear heq
          by_cases hxx : x = n4
          · have hr : ffoot p s r a bs = ((n1, n2, n3, n4), 0) := by rw [SA.out, if_pos ⟨rfl, SQ.out, SX.out.trans hxx⟩]
            subst hxx
            rw [he1] at HEQ
            clear he1
            go_quiet (first | (go_at_call 38; exact HEQ.out _) | (go_at_call 33; exact HCR.out _))
            go_wp2
            try rw [hr]
            refine bodyPost_ret (results_ct rfl _ _ (w.heap.size + 1) 45 #[.int .i64 (n1 : Int), .int .i64 (n2 : Int), .int .u32 (n3 : Int), .int .u32 (x : Int)] (0, 0) _ rfl (put4 (blk_drewN F9.out _) _ _ _ _) Try.underlying45 rfl (by kernel_rfl)) rfl ?_
            exact ⟨rfl, below4 (pw_below_drewN B9.out _) (by omega) _ _ _ _⟩
          · have hr : ffoot p s r a bs = ((0, 0, 0, 0), 51) := by rw [SA.out, if_neg (fun h => hxx (SX.out.symm.trans h.2.2))]
            have hx1 : ((x : Int) != (n4 : Int)) = true := by simpa using (show ¬ (x : Int) = (n4 : Int) by omega)
            have hx2 : ¬ (x : Int) = (n4 : Int) := by omega
            rw [he1] at HEQ
            clear he1
            go_quiet (first | (go_at_call 38; exact HEQ.out _) | (go_at_call 33; exact HCR.out _))
            go_wp2
            try rw [hr]
            refine bodyPost_ret (results_ct rfl _ _ (w.heap.size + 1) 45 #[.int .i64 0, .int .i64 0, .int .u32 0, .int .u32 0] (0, 0) _ rfl (put4 (blk_drewN F9.out _) _ _ _ _) Try.underlying45 rfl (by kernel_rfl)) rfl ?_
            exact ⟨rfl, below4 (pw_below_drewN B9.out _) (by omega) _ _ _ _⟩
        · have he1 : decide (es = t) = false := decide_eq_false heq
          have hr : ffoot p s r a bs = ((0, 0, 0, 0), 51) := by rw [SA.out, if_neg (fun h => heq h.2.1)]
          rw [he1] at HEQ
          clear he1 heq
          clear d0 d1 d2 d3
          go_quiet (first | (go_at_call 38; exact HEQ.out _))
          go_wp2
          try rw [hr]
          refine bodyPost_ret (results_ct rfl _ _ (w.heap.size + 1) 45 #[.int .i64 0, .int .i64 0, .int .u32 0, .int .u32 0] (0, 0) _ rfl (put4 (blk_drewN F9.out _) _ _ _ _) Try.underlying45 rfl (by kernel_rfl)) rfl ?_
          exact ⟨rfl, below4 (pw_below_drewN B9.out _) (by omega) _ _ _ _⟩
      · have hr : ffoot p s r a bs = ((0, 0, 0, 0), 51) := by rw [SA.out, if_neg (fun h => he h.1)]
        have he1 : (ec != 0) = true := by simpa using he
        have he2 : decide (ec = 0) = false := decide_eq_false he
        clear d0 d1 d2 d3
        go_quiet (fail)
        go_wp2
        try rw [hr]
        refine bodyPost_ret (results_ct rfl _ _ (w.heap.size + 1) 45 #[.int .i64 0, .int .i64 0, .int .u32 0, .int .u32 0] (0, 0) _ rfl (put4 (blk_drewN F9.out _) _ _ _ _) Try.underlying45 rfl (by kernel_rfl)) rfl ?_
        exact ⟨rfl, below4 (pw_below_drewN B9.out _) (by omega) _ _ _ _⟩
    · have hr : ffoot p s r a bs = ((0, 0, 0, 0), 51) := by unfold ffoot; rw [if_pos ho, hq, if_neg hL]
      try rw [hr]
      have HQ := Aside0.mk hq
      clear ho bd hr hq
      obtain ⟨n, hn⟩ : ∃ n, (ints bs).length = n := ⟨_, rfl⟩
      have hN : (n : Int) ≠ q := by rw [← hn, ints_length]; exact hL
      have hN1 : decide ((n : Int) = q) = false := decide_eq_false hN
      have hN2 : ((n : Int) == q) = false := by simpa using hN
      rw [hn]
      clear hL hN hn hm
      go_enter Try.func24, Try.ntmps24
      go_wp2_with (go_at_call 31; refine (cellarref02_Check.calls (0 + 20) p s r a 0 _ hck.out).mono ?_; rintro e w1 ⟨rfl, hb1⟩; have B1 := Aside0.mk (below_then SB.out SB.out.size hb1); have F1 := Aside0.mk (blk_below SF.out hb1); have G1 := Aside0.mk (blk_below SG.out hb1); have x0 := blk_cell G1.out 0; have x1 := blk_cell G1.out 1; have x2 := blk_cell G1.out 2; have x3 := blk_cell G1.out 3; have y0 := blk_cell F1.out 0; have y1 := blk_cell F1.out 1; have y2 := blk_cell F1.out 2; have y3 := blk_cell F1.out 3; have z0 := blk_frozen F1.out 0; have z1 := blk_frozen F1.out 1; have z2 := blk_frozen F1.out 2; have z3 := blk_frozen F1.out 3; simp only [List.getElem?_toArray, List.getElem?_cons_zero, List.getElem?_cons_succ] at x0 x1 x2 x3 y0 y1 y2 y3; clear hb1)
      refine bodyPost_ret (results_ct rfl _ _ (w.heap.size + 1) 45 #[.int .i64 0, .int .i64 0, .int .u32 0, .int .u32 0] (0, 0) _ rfl (put4 F1.out _ _ _ _) Try.underlying45 rfl (by kernel_rfl)) rfl ?_
      exact ⟨rfl, below4 B1.out (by omega) _ _ _ _⟩
  · have hck : Aside0 (cellarref02_Check.f (0 + 20) p s r a = some 20) := ⟨by rw [rcheck_eq]; unfold chk; rw [if_neg ho]⟩
    have hr : ffoot p s r a bs = ((0, 0, 0, 0), 20) := by unfold ffoot; rw [if_neg ho]
    try rw [hr]
    clear ho hr
    go_enter Try.func24, Try.ntmps24
    go_wp2_with (go_at_call 31; refine (cellarref02_Check.calls (0 + 20) p s r a 20 _ hck.out).mono ?_; rintro e w1 ⟨rfl, hb1⟩; have B1 := Aside0.mk (below_then SB.out SB.out.size hb1); have F1 := Aside0.mk (blk_below SF.out hb1); have y0 := blk_cell F1.out 0; have y1 := blk_cell F1.out 1; have y2 := blk_cell F1.out 2; have y3 := blk_cell F1.out 3; have z0 := blk_frozen F1.out 0; have z1 := blk_frozen F1.out 1; have z2 := blk_frozen F1.out 2; have z3 := blk_frozen F1.out 3; simp only [List.getElem?_toArray, List.getElem?_cons_zero, List.getElem?_cons_succ] at y0 y1 y2 y3; clear hb1)
    refine bodyPost_ret (results_ct rfl _ _ (w.heap.size + 1) 45 #[.int .i64 0, .int .i64 0, .int .u32 0, .int .u32 0] (0, 0) _ rfl (put4 F1.out _ _ _ _) Try.underlying45 rfl (by kernel_rfl)) rfl ?_
    exact ⟨rfl, below4 B1.out (by omega) _ _ _ _⟩
end Go.Proofs.Ytochhjimahcamaa.QRecordEncodes
