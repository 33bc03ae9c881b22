/- The call of SumLinear: true, whatever the arguments; and the facts that it rests on.
   No condition. -/
import Derived.Test.YtbnbpnnpbnpidaaSame
import Derived.StillTailTactics
namespace Go.Proofs.Ytbnbpnnpbnpidaa.RSumLinear
open Go.Proofs.Ytbnbpnnpbnpidaa.QSumHashes Hash Crc Hasher
open Go.RowKit Go.Proofs.YtbnbpnnpbnpidaaW.PrintWords Go.Proofs.YtbnbpnnpbnpidaaW.PrintLast Go.Proofs.YtbnbpnnpbnpidaaW.PrintMore
set_option linter.unusedVariables false
set_option linter.unusedSimpArgs false
theorem xors_num : ∀ (a b c : List Nat), Bytes a → Bytes b → Bytes c → b.length = a.length → c.length = a.length → num (List.zipWith (· ^^^ ·) (List.zipWith (· ^^^ ·) a b) c) = num a ^^^ num b ^^^ num c := by
  intro a
  induction a with
  | nil =>
    intro b c _ _ _ hb hc
    rw [List.eq_nil_of_length_eq_zero hb, List.eq_nil_of_length_eq_zero hc]; rfl
  | cons x a ih =>
    intro b c ha hb hc hbl hcl
    cases b with
    | nil => simp at hbl
    | cons y b =>
      cases c with
      | nil => simp at hcl
      | cons z c =>
        simp only [List.zipWith_cons_cons]
        have hx := ha x (by simp)
        have hy := hb y (by simp)
        have hz := hc z (by simp)
        rw [num_cons _ _ (Nat.xor_lt_two_pow (n := 8) (Nat.xor_lt_two_pow (n := 8) hx hy) hz), num_cons _ _ hx, num_cons _ _ hy, num_cons _ _ hz,
          ih b c (fun w hw => ha w (by simp [hw])) (fun w hw => hb w (by simp [hw])) (fun w hw => hc w (by simp [hw])) (by simpa using hbl) (by simpa using hcl)]
        apply Nat.eq_of_testBit_eq
        intro j
        simp only [Nat.testBit_xor, Nat.testBit_two_pow_mul]
        by_cases h : 8 ≤ j
        · simp only [h, decide_true, Bool.true_and]
          cases (num a).testBit (j - 8) <;> cases (num b).testBit (j - 8) <;> cases (num c).testBit (j - 8) <;> cases x.testBit j <;> cases y.testBit j <;> cases z.testBit j <;> rfl
        · simp [h]
theorem ext_three (a b c x : List Nat) (ha : Bytes a) (hb : Bytes b) (hc : Bytes c) (hx : Bytes x) (hbl : b.length = a.length) (hcl : c.length = a.length) (hxl : x.length = a.length) (h : num x = num a ^^^ num b ^^^ num c) :
    ext 0 x = ext 0 a ^^^ ext 0 b ^^^ ext 0 c := by
  unfold ext
  rw [reg_num _ _ ha, reg_num _ _ hb, reg_num _ _ hc, reg_num _ _ hx, hbl, hcl, hxl, h]
  simp only [Nat.xor_zero, csteps_xor]
  generalize csteps (8 * a.length) 4294967295 = p
  generalize csteps (8 * a.length) (num a) = u
  generalize csteps (8 * a.length) (num b) = v
  generalize csteps (8 * a.length) (num c) = z
  apply Nat.eq_of_testBit_eq
  intro j
  simp only [Nat.testBit_xor]
  cases (4294967295 : Nat).testBit j <;> cases p.testBit j <;> cases u.testBit j <;> cases v.testBit j <;> cases z.testBit j <;> rfl
/-- The first i bytes of the exclusive or of three, the others 0. -/
def Xo (a b c : List Nat) (n i : Nat) : List Nat := (List.range n).map fun j => if j < i then a.getD j 0 ^^^ b.getD j 0 ^^^ c.getD j 0 else 0
theorem Xo_length (a b c : List Nat) (n i : Nat) : (Xo a b c n i).length = n := by simp [Xo]
theorem Xo_zero (a b c : List Nat) (n : Nat) : Xo a b c n 0 = List.replicate n 0 := by
  unfold Xo
  rw [List.eq_replicate_iff]
  refine ⟨by simp, fun x hx => ?_⟩
  obtain ⟨j, _, rfl⟩ := List.mem_map.1 hx
  rw [if_neg (by omega)]
theorem Xo_set (a b c : List Nat) (n i : Nat) (hi : i < n) : (Xo a b c n i).set i (a.getD i 0 ^^^ b.getD i 0 ^^^ c.getD i 0) = Xo a b c n (i + 1) := by
  apply List.ext_getElem
  · simp [Xo]
  · intro m h1 h2
    have hn : m < n := by simpa [Xo] using h2
    rw [List.getElem_set]
    simp only [Xo, List.getElem_map, List.getElem_range]
    by_cases c : i = m
    · subst c; rw [if_pos rfl, if_pos (by omega)]
    · rw [if_neg c]
      by_cases c2 : m < i
      · rw [if_pos c2, if_pos (by omega)]
      · rw [if_neg c2, if_neg (by omega)]
theorem Xo_all (a b c : List Nat) (n : Nat) (ha : n ≤ a.length) (hb : n ≤ b.length) (hc : n ≤ c.length) : Xo a b c n n = List.zipWith (· ^^^ ·) (List.zipWith (· ^^^ ·) (a.take n) (b.take n)) (c.take n) := by
  apply List.ext_getElem
  · simp [Xo]; omega
  · intro m h1 h2
    have hn : m < n := by simpa [Xo] using h1
    simp only [Xo, List.getElem_map, List.getElem_range, List.getElem_zipWith, List.getElem_take]
    rw [if_pos hn, List.getD_eq_getElem?_getD, List.getElem?_eq_getElem (by omega), List.getD_eq_getElem?_getD, List.getElem?_eq_getElem (by omega), List.getD_eq_getElem?_getD, List.getElem?_eq_getElem (by omega)]
    rfl
theorem Xo_bytes (a b c : List Nat) (n i : Nat) (ha : Bytes a) (hb : Bytes b) (hc : Bytes c) : Bytes (Xo a b c n i) := by
  intro x hx
  obtain ⟨j, _, rfl⟩ := List.mem_map.1 hx
  by_cases h : j < i
  · rw [if_pos h]; exact Nat.xor_lt_two_pow (n := 8) (Nat.xor_lt_two_pow (n := 8) (getD_byte ha _) (getD_byte hb _)) (getD_byte hc _)
  · rw [if_neg h]; omega
theorem src_take {w : World} {A : Option Addr} {l : List Nat} (h : Src w A l) (n : Nat) : Src w A (l.take n) := by
  intro h0
  have hl : 0 < l.length := by rw [List.length_take] at h0; omega
  obtain ⟨b, o, e, hc⟩ := h hl
  refine ⟨b, o, e, fun j hj => ?_⟩
  rw [List.length_take] at hj
  rw [hc j (by omega), List.getD_eq_getElem?_getD, List.getD_eq_getElem?_getD, List.getElem?_take_of_lt (by omega)]
theorem make_zeros (n : Nat) (h : n ≤ 281474976710656) (k : IntKind) (W : World) : (Instr.makeSlice 23 (.int k (n : Int)) (.int k (n : Int))).run Try.prog W = .ok (.slice (some ⟨W.heap.size, 0, none⟩) n n) (W.alloc (.cells (nums .u8 (ints (List.replicate n 0))).toArray 5)) := by
  obtain ⟨i0, hi, hz0, hz1, hz2⟩ := info_parts (show (Try.prog.info? 5).map (fun i => (i.zero, i.size, i.bytes)) = some (some (.int .u8 0), 1, 1) by kernel_rfl)
  have := run_make (P := Try.prog) W 23 5 i0 (.int .u8 0) Try.underlying23 hi hz0 k k (n : Int) (n : Int) (by omega) (by omega) (by rw [hz2]; omega) (by omega)
  rw [this, hz1]
  congr 3
  apply Array.toList_inj.1
  simp [madeCells, nums, ints, Value.cells]
  rw [List.eq_replicate_iff]
  refine ⟨by simp, fun b hb => ?_⟩
  obtain ⟨x, _, rfl⟩ := List.mem_map.1 hb
  simp [Nat.mod_one]
def bcells (l : List Nat) : Array Value := (nums .u8 (ints l)).toArray
theorem bcells_get (l : List Nat) (i : Nat) (hi : i < l.length) : (bcells l)[i]? = some (.int .u8 ((l.getD i 0 : Nat) : Int)) := by
  rw [bcells, List.getElem?_toArray, nums, ints, List.getElem?_map, List.getElem?_map, List.getElem?_eq_getElem hi, List.getD_eq_getElem?_getD, List.getElem?_eq_getElem hi]; rfl
theorem bcells_set (l : List Nat) (i v : Nat) : (bcells l).setIfInBounds i (.int .u8 (v : Int)) = bcells (l.set i v) := by
  unfold bcells
  rw [List.setIfInBounds_toArray]
  congr 1
  simp [nums, ints, List.map_set]
set_option maxHeartbeats 8000000 in
set_option maxRecDepth 100000 in
theorem linear_a (A0 A1 A2 : Option Addr) (c0 c1 c2 : Nat) (a b c : List Nat) (W : World) (N : Nat) (hN : N ≤ 140737488351232) (hla : N ≤ a.length) (hlb : N ≤ b.length) (hlc : N ≤ c.length) (ha : Bytes a) (hb : Bytes b) (hc : Bytes c) (sa : Src W A0 a) (sb : Src W A1 b) (sc : Src W A2 c) (h0 : a.length ≤ c0) (h1 : b.length ≤ c1) (h2 : c.length ≤ c2) (hm0 : a.length ≤ 140737488351232) (hm1 : b.length ≤ 140737488351232) (hm2 : c.length ≤ 140737488351232)
    (he : a.length = N) :
    Calls Try.prog 6 #[.slice A0 a.length c0, .slice A1 b.length c1, .slice A2 c.length c2] W fun e w' => e = .returned (.bool true) ∧ Below W.heap.size W w' := by
  have hmk := make_zeros N (by omega) .i64
  change ∀ W : World, (Instr.makeSlice 23 (.int .i64 (N : Int)) (.int .i64 (N : Int))).run Try.prog W = .ok (.slice (some ⟨W.heap.size, 0, none⟩) N N) (W.alloc (.cells (bcells (List.replicate N 0)) 5)) at hmk
  rw [← Xo_zero a b c N] at hmk
  have hX := fun (wz : World) (hS : Src wz (some ⟨W.heap.size, 0, none⟩) (Xo a b c N N)) => crc_walk (some ⟨W.heap.size, 0, none⟩) N N (Xo a b c N N) wz (Xo_length _ _ _ _ _) hS (Nat.le_refl _) (Xo_bytes a b c N N ha hb hc) (by omega)
  have hA := fun (wz : World) (hS : Src wz A0 a) => crc_walk A0 N c0 (a.take N) wz (by rw [List.length_take]; omega) (src_take hS N) (by omega) (bytes_take ha _) (by omega)
  have hB := fun (wz : World) (hS : Src wz A1 b) => crc_walk A1 N c1 (b.take N) wz (by rw [List.length_take]; omega) (src_take hS N) (by omega) (bytes_take hb _) (by omega)
  have hC := fun (wz : World) (hS : Src wz A2 c) => crc_walk A2 N c2 (c.take N) wz (by rw [List.length_take]; omega) (src_take hS N) (by omega) (bytes_take hc _) (by omega)
  have e := ext_three (a.take N) (b.take N) (c.take N) (Xo a b c N N) (bytes_take ha _) (bytes_take hb _) (bytes_take hc _) (Xo_bytes a b c N N ha hb hc) (by simp only [List.length_take]; omega) (by simp only [List.length_take]; omega) (by rw [Xo_length, List.length_take]; omega)
    (by rw [Xo_all a b c N hla hlb hlc]; exact xors_num _ _ _ (bytes_take ha _) (bytes_take hb _) (bytes_take hc _) (by simp only [List.length_take]; omega) (by simp only [List.length_take]; omega))
  obtain ⟨px, hpx⟩ : ∃ p, ext 0 (Xo a b c N N) = p := ⟨_, rfl⟩
  obtain ⟨pa, hpa⟩ : ∃ p, ext 0 (a.take N) = p := ⟨_, rfl⟩
  obtain ⟨pb, hpb⟩ : ∃ p, ext 0 (b.take N) = p := ⟨_, rfl⟩
  obtain ⟨pc, hpc⟩ : ∃ p, ext 0 (c.take N) = p := ⟨_, rfl⟩
  have la := ext_lt (s := 0) (by decide) (bytes_take ha N)
  have lb := ext_lt (s := 0) (by decide) (bytes_take hb N)
  have lc := ext_lt (s := 0) (by decide) (bytes_take hc N)
  rw [hpx] at e hX
  rw [hpa] at e hA la
  rw [hpb] at e hB lb
  rw [hpc] at e hC lc
  obtain ⟨pab, hpab⟩ : ∃ p, pa ^^^ pb = p := ⟨_, rfl⟩
  have v1 := u32_xor_nat pa pb la lb
  have lab := xor32 la lb
  rw [hpab] at v1 lab e
  have v2 := u32_xor_nat pab pc lab lc
  rw [← e] at v2
  have HX := Aside0.mk hX
  have HA := Aside0.mk hA
  have HB := Aside0.mk hB
  have HC := Aside0.mk hC
  have SRA := Aside0.mk sa
  have SRB := Aside0.mk sb
  have SRC := Aside0.mk sc
  have HBA := Aside0.mk ha
  have HBB := Aside0.mk hb
  have HBC := Aside0.mk hc
  have HLA := Aside0.mk hla
  have HLB := Aside0.mk hlb
  have HLC := Aside0.mk hlc
  have t1 : decide ((b.length : Int) < (N : Int)) = false := decide_eq_false (by omega)
  have t2 : decide (b.length < N) = false := decide_eq_false (by omega)
  have t3 : decide ((c.length : Int) < (N : Int)) = false := decide_eq_false (by omega)
  have t4 : decide (c.length < N) = false := decide_eq_false (by omega)
  have hz0 := h0
  have hz1 := h1
  have hz2 := h2
  clear hX hA hB hC sa sb sc ha hb hc hpx hpa hpb hpc la lb lc lab hpab e
  have N0 : (0 : Int) ≤ (N : Int) := by omega
  have N1 : (N : Int) ≤ 281474976710656 := by omega
  have N2 : (N : Int).toNat = N := by omega
  have N3 : N ≤ c0 := by have := HLA.out; omega
  have N4 : N ≤ c1 := by have := HLB.out; omega
  have N5 : N ≤ c2 := by have := HLC.out; omega
  rw [he]
  go_enter Try.func6, Try.ntmps6
  go_wp2
  have B0 := Aside0.mk (blk_new W (.cells (bcells (Xo a b c N 0)) 5))
  have BL := Aside0.mk (below_alloc (Below.refl _ W) (.cells (bcells (Xo a b c N 0)) 5))
  go_loopw [9] (fun i wr => ∃ k : Nat, k ≤ N ∧ i = .int .i64 k ∧ Aside0 (wr.heap[W.heap.size]? = some (.cells (bcells (Xo a b c N k)) 5 (0, 0))) ∧ Aside0 (Below W.heap.size W wr)) (fun i _ => N - (intOf i).toNat)
  case atStart => exact ⟨0, by omega, rfl, B0, BL⟩
  case round =>
    clear B0 BL
    obtain ⟨k, hk, rfl, B0, BL⟩ := hrel
    by_cases hlt : k < N
    · obtain ⟨ab, ao, hAe, hca⟩ := (SRA.out.below BL.out) (by have := HLA.out; omega)
      obtain ⟨bb, bo, hBe, hcb⟩ := (SRB.out.below BL.out) (by have := HLB.out; omega)
      obtain ⟨cb, co, hCe, hcc⟩ := (SRC.out.below BL.out) (by have := HLC.out; omega)
      have ga := hca k (by have := HLA.out; omega)
      have gb := hcb k (by have := HLB.out; omega)
      have gc := hcc k (by have := HLC.out; omega)
      obtain ⟨xa, hxa⟩ : ∃ x, a.getD k 0 = x := ⟨_, rfl⟩
      obtain ⟨xb, hxb⟩ : ∃ x, b.getD k 0 = x := ⟨_, rfl⟩
      obtain ⟨xc, hxc⟩ : ∃ x, c.getD k 0 = x := ⟨_, rfl⟩
      have ya := getD_byte HBA.out k
      have yb := getD_byte HBB.out k
      have yc := getD_byte HBC.out k
      have hput := blk_put B0.out k (.int .u8 ((a.getD k 0 ^^^ b.getD k 0 ^^^ c.getD k 0 : Nat) : Int)) (by rw [bcells_set, Xo_set a b c N k hlt])
      rw [hxa] at ga ya hput
      rw [hxb] at gb yb hput
      rw [hxc] at gc yc hput
      have w1 := u8_xor_nat xa xb ya yb
      have w2 := u8_xor_nat (xa ^^^ xb) xc (Nat.xor_lt_two_pow (n := 8) ya yb) yc
      obtain ⟨xab, hxab⟩ : ∃ x, xa ^^^ xb = x := ⟨_, rfl⟩
      obtain ⟨xx, hxx⟩ : ∃ x, xa ^^^ xb ^^^ xc = x := ⟨_, rfl⟩
      rw [hxx] at w2 hput
      rw [hxab] at w1 w2
      have HP := Aside0.mk hput
      have gx := blk_cell B0.out k
      rw [bcells_get _ _ (by rw [Xo_length]; exact hlt)] at gx
      have gf := blk_frozen B0.out k
      have k0 : (0 : Int) ≤ (k : Int) := by omega
      have k1 : (k : Int) < (N : Int) := by omega
      have k2 : (k : Int) < (a.length : Int) := by have := HLA.out; omega
      have k3 : (k : Int) < (b.length : Int) := by have := HLB.out; omega
      have k4 : (k : Int) < (c.length : Int) := by have := HLC.out; omega
      have k5 : (k : Int).toNat = k := by omega
      have k6 : k < a.length := by have := HLA.out; omega
      have k7 : k < b.length := by have := HLB.out; omega
      have k8 : k < c.length := by have := HLC.out; omega
      clear hca hcb hcc hxa hxb hxc ya yb yc hput hxab hxx
      subst hAe; subst hBe; subst hCe
      go_wp2
      refine wp_region_still_tail 16 (by kernel_rfl) (by kernel_rfl) ?_
      simp only [List.take_succ_cons, List.take_zero, List.drop_succ_cons, List.drop_zero]
      repeat still_step
      refine wpStill_nil ?_
      change wpList _ _ _ _ _ wr.drew
      go_wp2
      go_roundw
      case rel => exact ⟨k + 1, by omega, by go_num, HP, ⟨Below.setCell (below_drew1 BL.out) (Nat.le_refl _) _⟩⟩
      case measure => simp [intOf]; omega
    · obtain rfl : N = k := by omega
      go_wp2
      refine start_ (n := 21) (S := fun w' => True) (ds := []) #[false, false, false, false, false, false, false, false, false, false, false, false, false, false, false, false, false, false, false, false, false] (by kernel_rfl) rfl rfl (trivial) (fun hHeld => ?_)
      refine one_ (i := 0) (N := some 48) #[true, false, false, false, false, false, false, false, false, false, false, false, false, false, false, false, false, false, false, false, false] rfl rfl (by kernel_rfl) (by decide) (fun K hK => ?_)
      refine goes_ Try.func18 (by kernel_rfl) rfl #[] (by rfl) rfl rfl (by (try simp only [List.map_toArray, List.map_cons, List.map_nil]); first | done | rfl) ?_
      refine (Hasher.lives_walk _).mono ?_
      rintro e w5 ⟨rfl, hb⟩
      refine ⟨_, rfl, ?_⟩
      have BL5 := Aside0.mk (below_step (below_drew1 BL.out) hb)
      have X5 := Aside0.mk (blk_below (blk_drew B0.out) hb)
      clear hb hHeld
      refine hK.out _ _ (trivial) (fun hHeld => ?_)
      clear hK K
      refine norm_ (a' := ?_) ?_ ?_
      rotate_left
      · show Act.put _ (some 48) _ = _
        simp only [Act.put, List.setIfInBounds_toArray, List.set_cons_zero, List.set_cons_succ, i64_w, i32_w]
        rfl
      refine pure_ (i := 1) (N := some 49) (v := ?_) (a' := ?_) #[true, true, false, false, false, false, false, false, false, false, false, false, false, false, false, false, false, false, false, false, false] rfl rfl (by kernel_rfl) (fun _ _ _ h => h) (Or.inl ⟨by rfl, ?_⟩) ?_ ?_
      rotate_left
      · intro w'
        go_simp
        with_reducible rfl
      rotate_left
      · simp only [Act.put, List.setIfInBounds_toArray, List.set_cons_zero, List.set_cons_succ, i64_w, i32_w]
        rfl
      refine pure_ (i := 2) (N := some 50) (v := ?_) (a' := ?_) #[true, true, true, false, false, false, false, false, false, false, false, false, false, false, false, false, false, false, false, false, false] rfl rfl (by kernel_rfl) (fun _ _ _ h => h) (Or.inl ⟨by rfl, ?_⟩) ?_ ?_
      rotate_left
      · intro w'
        go_simp
        with_reducible rfl
      rotate_left
      · simp only [Act.put, List.setIfInBounds_toArray, List.set_cons_zero, List.set_cons_succ, i64_w, i32_w]
        rfl
      refine pure_ (i := 4) (N := some 52) (v := ?_) (a' := ?_) #[true, true, true, false, true, false, false, false, false, false, false, false, false, false, false, false, false, false, false, false, false] rfl rfl (by kernel_rfl) (fun _ _ _ h => h) (Or.inl ⟨by rfl, ?_⟩) ?_ ?_
      rotate_left
      · intro w'
        go_simp
        with_reducible rfl
      rotate_left
      · simp only [Act.put, List.setIfInBounds_toArray, List.set_cons_zero, List.set_cons_succ, i64_w, i32_w]
        rfl
      refine pure_ (i := 5) (N := some 53) (v := ?_) (a' := ?_) #[true, true, true, false, true, true, false, false, false, false, false, false, false, false, false, false, false, false, false, false, false] rfl rfl (by kernel_rfl) (fun _ _ _ h => h) (Or.inl ⟨by rfl, ?_⟩) ?_ ?_
      rotate_left
      · intro w'
        go_simp
        with_reducible rfl
      rotate_left
      · simp only [Act.put, List.setIfInBounds_toArray, List.set_cons_zero, List.set_cons_succ, i64_w, i32_w]
        rfl
      refine pure_ (i := 6) (N := some 54) (v := ?_) (a' := ?_) #[true, true, true, false, true, true, true, false, false, false, false, false, false, false, false, false, false, false, false, false, false] rfl rfl (by kernel_rfl) (fun _ _ _ h => h) (Or.inl ⟨by rfl, ?_⟩) ?_ ?_
      rotate_left
      · intro w'
        go_simp
        with_reducible rfl
      rotate_left
      · simp only [Act.put, List.setIfInBounds_toArray, List.set_cons_zero, List.set_cons_succ, i64_w, i32_w]
        rfl
      refine pure_ (i := 8) (N := some 56) (v := ?_) (a' := ?_) #[true, true, true, false, true, true, true, false, true, false, false, false, false, false, false, false, false, false, false, false, false] rfl rfl (by kernel_rfl) (fun _ _ _ h => h) (Or.inl ⟨by rfl, ?_⟩) ?_ ?_
      rotate_left
      · intro w'
        go_simp
        with_reducible rfl
      rotate_left
      · simp only [Act.put, List.setIfInBounds_toArray, List.set_cons_zero, List.set_cons_succ, i64_w, i32_w]
        rfl
      refine pure_ (i := 9) (N := some 57) (v := ?_) (a' := ?_) #[true, true, true, false, true, true, true, false, true, true, false, false, false, false, false, false, false, false, false, false, false] rfl rfl (by kernel_rfl) (fun _ _ _ h => h) (Or.inl ⟨by rfl, ?_⟩) ?_ ?_
      rotate_left
      · intro w'
        go_simp
        with_reducible rfl
      rotate_left
      · simp only [Act.put, List.setIfInBounds_toArray, List.set_cons_zero, List.set_cons_succ, i64_w, i32_w]
        rfl
      refine pure_ (i := 10) (N := some 58) (v := ?_) (a' := ?_) #[true, true, true, false, true, true, true, false, true, true, true, false, false, false, false, false, false, false, false, false, false] rfl rfl (by kernel_rfl) (fun _ _ _ h => h) (Or.inl ⟨by rfl, ?_⟩) ?_ ?_
      rotate_left
      · intro w'
        go_simp
        with_reducible rfl
      rotate_left
      · simp only [Act.put, List.setIfInBounds_toArray, List.set_cons_zero, List.set_cons_succ, i64_w, i32_w]
        rfl
      refine pure_ (i := 13) (N := some 61) (v := ?_) (a' := ?_) #[true, true, true, false, true, true, true, false, true, true, true, false, false, true, false, false, false, false, false, false, false] rfl rfl (by kernel_rfl) (fun _ _ _ h => h) (Or.inl ⟨by rfl, ?_⟩) ?_ ?_
      rotate_left
      · intro w'
        go_simp
        with_reducible rfl
      rotate_left
      · simp only [Act.put, List.setIfInBounds_toArray, List.set_cons_zero, List.set_cons_succ, i64_w, i32_w]
        rfl
      refine pure_ (i := 14) (N := some 62) (v := ?_) (a' := ?_) #[true, true, true, false, true, true, true, false, true, true, true, false, false, true, true, false, false, false, false, false, false] rfl rfl (by kernel_rfl) (fun _ _ _ h => h) (Or.inl ⟨by rfl, ?_⟩) ?_ ?_
      rotate_left
      · intro w'
        go_simp
        with_reducible rfl
      rotate_left
      · simp only [Act.put, List.setIfInBounds_toArray, List.set_cons_zero, List.set_cons_succ, i64_w, i32_w]
        rfl
      refine pure_ (i := 15) (N := some 63) (v := ?_) (a' := ?_) #[true, true, true, false, true, true, true, false, true, true, true, false, false, true, true, true, false, false, false, false, false] rfl rfl (by kernel_rfl) (fun _ _ _ h => h) (Or.inl ⟨by rfl, ?_⟩) ?_ ?_
      rotate_left
      · intro w'
        go_simp
        with_reducible rfl
      rotate_left
      · simp only [Act.put, List.setIfInBounds_toArray, List.set_cons_zero, List.set_cons_succ, i64_w, i32_w]
        rfl
      refine one_ (i := 3) (N := some 51) #[true, true, true, true, true, true, true, false, true, true, true, false, false, true, true, true, false, false, false, false, false] rfl rfl (by kernel_rfl) (by decide) (fun K hK => ?_)
      refine goes_ Try.func19 (by kernel_rfl) rfl #[.slice (some ⟨W.heap.size, 0, none⟩) N N] (by rfl) rfl rfl (by (try simp only [List.map_toArray, List.map_cons, List.map_nil]); first | done | rfl) ?_
      refine (HX.out _ (src_of_block X5.out)).mono ?_
      rintro e w' ⟨rfl, ⟨nX, rfl⟩⟩
      refine ⟨_, rfl, ?_⟩
      clear hHeld
      refine hK.out _ _ (trivial) (fun hHeld => ?_)
      clear hK K
      refine norm_ (a' := ?_) ?_ ?_
      rotate_left
      · show Act.put _ (some 51) _ = _
        simp only [Act.put, List.setIfInBounds_toArray, List.set_cons_zero, List.set_cons_succ, i64_w, i32_w]
        rfl
      refine one_ (i := 7) (N := some 55) #[true, true, true, true, true, true, true, true, true, true, true, false, false, true, true, true, false, false, false, false, false] rfl rfl (by kernel_rfl) (by decide) (fun K hK => ?_)
      refine goes_ Try.func19 (by kernel_rfl) rfl #[.slice A0 N c0] (by rfl) rfl rfl (by (try simp only [List.map_toArray, List.map_cons, List.map_nil]); first | done | rfl) ?_
      refine (HA.out _ (SRA.out.below (pw_below_drewN BL5.out nX))).mono ?_
      rintro e w' ⟨rfl, ⟨nA, rfl⟩⟩
      refine ⟨_, rfl, ?_⟩
      clear hHeld
      refine hK.out _ _ (trivial) (fun hHeld => ?_)
      clear hK K
      refine norm_ (a' := ?_) ?_ ?_
      rotate_left
      · show Act.put _ (some 55) _ = _
        simp only [Act.put, List.setIfInBounds_toArray, List.set_cons_zero, List.set_cons_succ, i64_w, i32_w]
        rfl
      refine one_ (i := 11) (N := some 59) #[true, true, true, true, true, true, true, true, true, true, true, true, false, true, true, true, false, false, false, false, false] rfl rfl (by kernel_rfl) (by decide) (fun K hK => ?_)
      refine goes_ Try.func19 (by kernel_rfl) rfl #[.slice A1 N c1] (by rfl) rfl rfl (by (try simp only [List.map_toArray, List.map_cons, List.map_nil]); first | done | rfl) ?_
      refine (HB.out _ (SRB.out.below (pw_below_drewN (pw_below_drewN BL5.out nX) nA))).mono ?_
      rintro e w' ⟨rfl, ⟨nB, rfl⟩⟩
      refine ⟨_, rfl, ?_⟩
      clear hHeld
      refine hK.out _ _ (trivial) (fun hHeld => ?_)
      clear hK K
      refine norm_ (a' := ?_) ?_ ?_
      rotate_left
      · show Act.put _ (some 59) _ = _
        simp only [Act.put, List.setIfInBounds_toArray, List.set_cons_zero, List.set_cons_succ, i64_w, i32_w]
        rfl
      refine pure_ (i := 12) (N := some 60) (v := ?_) (a' := ?_) #[true, true, true, true, true, true, true, true, true, true, true, true, true, true, true, true, false, false, false, false, false] rfl rfl (by kernel_rfl) (fun _ _ _ h => h) (Or.inl ⟨by rfl, ?_⟩) ?_ ?_
      rotate_left
      · intro w'
        go_simp
        with_reducible rfl
      rotate_left
      · simp only [Act.put, List.setIfInBounds_toArray, List.set_cons_zero, List.set_cons_succ, i64_w, i32_w]
        rfl
      refine one_ (i := 16) (N := some 64) #[true, true, true, true, true, true, true, true, true, true, true, true, true, true, true, true, true, false, false, false, false] rfl rfl (by kernel_rfl) (by decide) (fun K hK => ?_)
      refine goes_ Try.func19 (by kernel_rfl) rfl #[.slice A2 N c2] (by rfl) rfl rfl (by (try simp only [List.map_toArray, List.map_cons, List.map_nil]); first | done | rfl) ?_
      refine (HC.out _ (SRC.out.below (pw_below_drewN (pw_below_drewN (pw_below_drewN BL5.out nX) nA) nB))).mono ?_
      rintro e w' ⟨rfl, ⟨nC, rfl⟩⟩
      refine ⟨_, rfl, ?_⟩
      clear hHeld
      refine hK.out _ _ (trivial) (fun hHeld => ?_)
      clear hK K
      refine norm_ (a' := ?_) ?_ ?_
      rotate_left
      · show Act.put _ (some 64) _ = _
        simp only [Act.put, List.setIfInBounds_toArray, List.set_cons_zero, List.set_cons_succ, i64_w, i32_w]
        rfl
      refine pure_ (i := 17) (N := some 65) (v := ?_) (a' := ?_) #[true, true, true, true, true, true, true, true, true, true, true, true, true, true, true, true, true, true, false, false, false] rfl rfl (by kernel_rfl) (fun _ _ _ h => h) (Or.inl ⟨by rfl, ?_⟩) ?_ ?_
      rotate_left
      · intro w'
        go_simp
        with_reducible rfl
      rotate_left
      · simp only [Act.put, List.setIfInBounds_toArray, List.set_cons_zero, List.set_cons_succ, i64_w, i32_w]
        rfl
      refine pure_ (i := 18) (N := some 66) (v := ?_) (a' := ?_) #[true, true, true, true, true, true, true, true, true, true, true, true, true, true, true, true, true, true, true, false, false] rfl rfl (by kernel_rfl) (fun _ _ _ h => h) (Or.inl ⟨by rfl, ?_⟩) ?_ ?_
      rotate_left
      · intro w'
        go_simp
        with_reducible rfl
      rotate_left
      · simp only [Act.put, List.setIfInBounds_toArray, List.set_cons_zero, List.set_cons_succ, i64_w, i32_w]
        rfl
      refine pure_ (i := 19) (N := some 67) (v := ?_) (a' := ?_) #[true, true, true, true, true, true, true, true, true, true, true, true, true, true, true, true, true, true, true, true, false] rfl rfl (by kernel_rfl) (fun _ _ _ h => h) (Or.inl ⟨by rfl, ?_⟩) ?_ ?_
      rotate_left
      · intro w'
        go_simp
        with_reducible rfl
      rotate_left
      · simp only [Act.put, List.setIfInBounds_toArray, List.set_cons_zero, List.set_cons_succ, i64_w, i32_w]
        rfl
      refine pure_ (i := 20) (N := some 6) (v := ?_) (a' := ?_) #[true, true, true, true, true, true, true, true, true, true, true, true, true, true, true, true, true, true, true, true, true] rfl rfl (by kernel_rfl) (fun _ _ _ h => h) (Or.inl ⟨by rfl, ?_⟩) ?_ ?_
      rotate_left
      · intro w'
        go_simp
        with_reducible rfl
      rotate_left
      · simp only [Act.put, List.setIfInBounds_toArray, List.set_cons_zero, List.set_cons_succ, i64_w, i32_w]
        rfl
      refine done_ (by kernel_rfl) ?_
      try go_wp2
      go_ret
      exact ⟨rfl, pw_below_drewN (pw_below_drewN (pw_below_drewN (pw_below_drewN BL5.out nX) nA) nB) nC⟩
set_option maxHeartbeats 8000000 in
set_option maxRecDepth 100000 in
theorem linear_b (A0 A1 A2 : Option Addr) (c0 c1 c2 : Nat) (a b c : List Nat) (W : World) (N : Nat) (hN : N ≤ 140737488351232) (hla : N ≤ a.length) (hlb : N ≤ b.length) (hlc : N ≤ c.length) (ha : Bytes a) (hb : Bytes b) (hc : Bytes c) (sa : Src W A0 a) (sb : Src W A1 b) (sc : Src W A2 c) (h0 : a.length ≤ c0) (h1 : b.length ≤ c1) (h2 : c.length ≤ c2) (hm0 : a.length ≤ 140737488351232) (hm1 : b.length ≤ 140737488351232) (hm2 : c.length ≤ 140737488351232)
    (he : b.length = N) (hx : N < a.length) :
    Calls Try.prog 6 #[.slice A0 a.length c0, .slice A1 b.length c1, .slice A2 c.length c2] W fun e w' => e = .returned (.bool true) ∧ Below W.heap.size W w' := by
  have hmk := make_zeros N (by omega) .i64
  change ∀ W : World, (Instr.makeSlice 23 (.int .i64 (N : Int)) (.int .i64 (N : Int))).run Try.prog W = .ok (.slice (some ⟨W.heap.size, 0, none⟩) N N) (W.alloc (.cells (bcells (List.replicate N 0)) 5)) at hmk
  rw [← Xo_zero a b c N] at hmk
  have hX := fun (wz : World) (hS : Src wz (some ⟨W.heap.size, 0, none⟩) (Xo a b c N N)) => crc_walk (some ⟨W.heap.size, 0, none⟩) N N (Xo a b c N N) wz (Xo_length _ _ _ _ _) hS (Nat.le_refl _) (Xo_bytes a b c N N ha hb hc) (by omega)
  have hA := fun (wz : World) (hS : Src wz A0 a) => crc_walk A0 N c0 (a.take N) wz (by rw [List.length_take]; omega) (src_take hS N) (by omega) (bytes_take ha _) (by omega)
  have hB := fun (wz : World) (hS : Src wz A1 b) => crc_walk A1 N c1 (b.take N) wz (by rw [List.length_take]; omega) (src_take hS N) (by omega) (bytes_take hb _) (by omega)
  have hC := fun (wz : World) (hS : Src wz A2 c) => crc_walk A2 N c2 (c.take N) wz (by rw [List.length_take]; omega) (src_take hS N) (by omega) (bytes_take hc _) (by omega)
  have e := ext_three (a.take N) (b.take N) (c.take N) (Xo a b c N N) (bytes_take ha _) (bytes_take hb _) (bytes_take hc _) (Xo_bytes a b c N N ha hb hc) (by simp only [List.length_take]; omega) (by simp only [List.length_take]; omega) (by rw [Xo_length, List.length_take]; omega)
    (by rw [Xo_all a b c N hla hlb hlc]; exact xors_num _ _ _ (bytes_take ha _) (bytes_take hb _) (bytes_take hc _) (by simp only [List.length_take]; omega) (by simp only [List.length_take]; omega))
  obtain ⟨px, hpx⟩ : ∃ p, ext 0 (Xo a b c N N) = p := ⟨_, rfl⟩
  obtain ⟨pa, hpa⟩ : ∃ p, ext 0 (a.take N) = p := ⟨_, rfl⟩
  obtain ⟨pb, hpb⟩ : ∃ p, ext 0 (b.take N) = p := ⟨_, rfl⟩
  obtain ⟨pc, hpc⟩ : ∃ p, ext 0 (c.take N) = p := ⟨_, rfl⟩
  have la := ext_lt (s := 0) (by decide) (bytes_take ha N)
  have lb := ext_lt (s := 0) (by decide) (bytes_take hb N)
  have lc := ext_lt (s := 0) (by decide) (bytes_take hc N)
  rw [hpx] at e hX
  rw [hpa] at e hA la
  rw [hpb] at e hB lb
  rw [hpc] at e hC lc
  obtain ⟨pab, hpab⟩ : ∃ p, pa ^^^ pb = p := ⟨_, rfl⟩
  have v1 := u32_xor_nat pa pb la lb
  have lab := xor32 la lb
  rw [hpab] at v1 lab e
  have v2 := u32_xor_nat pab pc lab lc
  rw [← e] at v2
  have HX := Aside0.mk hX
  have HA := Aside0.mk hA
  have HB := Aside0.mk hB
  have HC := Aside0.mk hC
  have SRA := Aside0.mk sa
  have SRB := Aside0.mk sb
  have SRC := Aside0.mk sc
  have HBA := Aside0.mk ha
  have HBB := Aside0.mk hb
  have HBC := Aside0.mk hc
  have HLA := Aside0.mk hla
  have HLB := Aside0.mk hlb
  have HLC := Aside0.mk hlc
  have t1 : decide ((N : Int) < (a.length : Int)) = true := decide_eq_true (by omega)
  have t2 : decide (N < a.length) = true := decide_eq_true (by omega)
  have t3 : decide ((c.length : Int) < (N : Int)) = false := decide_eq_false (by omega)
  have t4 : decide (c.length < N) = false := decide_eq_false (by omega)
  have hz0 := h0
  have hz1 := h1
  have hz2 := h2
  clear hX hA hB hC sa sb sc ha hb hc hpx hpa hpb hpc la lb lc lab hpab e
  have N0 : (0 : Int) ≤ (N : Int) := by omega
  have N1 : (N : Int) ≤ 281474976710656 := by omega
  have N2 : (N : Int).toNat = N := by omega
  have N3 : N ≤ c0 := by have := HLA.out; omega
  have N4 : N ≤ c1 := by have := HLB.out; omega
  have N5 : N ≤ c2 := by have := HLC.out; omega
  rw [he]
  go_enter Try.func6, Try.ntmps6
  go_wp2
  have B0 := Aside0.mk (blk_new W (.cells (bcells (Xo a b c N 0)) 5))
  have BL := Aside0.mk (below_alloc (Below.refl _ W) (.cells (bcells (Xo a b c N 0)) 5))
  go_loopw [9] (fun i wr => ∃ k : Nat, k ≤ N ∧ i = .int .i64 k ∧ Aside0 (wr.heap[W.heap.size]? = some (.cells (bcells (Xo a b c N k)) 5 (0, 0))) ∧ Aside0 (Below W.heap.size W wr)) (fun i _ => N - (intOf i).toNat)
  case atStart => exact ⟨0, by omega, rfl, B0, BL⟩
  case round =>
    clear B0 BL
    obtain ⟨k, hk, rfl, B0, BL⟩ := hrel
    by_cases hlt : k < N
    · obtain ⟨ab, ao, hAe, hca⟩ := (SRA.out.below BL.out) (by have := HLA.out; omega)
      obtain ⟨bb, bo, hBe, hcb⟩ := (SRB.out.below BL.out) (by have := HLB.out; omega)
      obtain ⟨cb, co, hCe, hcc⟩ := (SRC.out.below BL.out) (by have := HLC.out; omega)
      have ga := hca k (by have := HLA.out; omega)
      have gb := hcb k (by have := HLB.out; omega)
      have gc := hcc k (by have := HLC.out; omega)
      obtain ⟨xa, hxa⟩ : ∃ x, a.getD k 0 = x := ⟨_, rfl⟩
      obtain ⟨xb, hxb⟩ : ∃ x, b.getD k 0 = x := ⟨_, rfl⟩
      obtain ⟨xc, hxc⟩ : ∃ x, c.getD k 0 = x := ⟨_, rfl⟩
      have ya := getD_byte HBA.out k
      have yb := getD_byte HBB.out k
      have yc := getD_byte HBC.out k
      have hput := blk_put B0.out k (.int .u8 ((a.getD k 0 ^^^ b.getD k 0 ^^^ c.getD k 0 : Nat) : Int)) (by rw [bcells_set, Xo_set a b c N k hlt])
      rw [hxa] at ga ya hput
      rw [hxb] at gb yb hput
      rw [hxc] at gc yc hput
      have w1 := u8_xor_nat xa xb ya yb
      have w2 := u8_xor_nat (xa ^^^ xb) xc (Nat.xor_lt_two_pow (n := 8) ya yb) yc
      obtain ⟨xab, hxab⟩ : ∃ x, xa ^^^ xb = x := ⟨_, rfl⟩
      obtain ⟨xx, hxx⟩ : ∃ x, xa ^^^ xb ^^^ xc = x := ⟨_, rfl⟩
      rw [hxx] at w2 hput
      rw [hxab] at w1 w2
      have HP := Aside0.mk hput
      have gx := blk_cell B0.out k
      rw [bcells_get _ _ (by rw [Xo_length]; exact hlt)] at gx
      have gf := blk_frozen B0.out k
      have k0 : (0 : Int) ≤ (k : Int) := by omega
      have k1 : (k : Int) < (N : Int) := by omega
      have k2 : (k : Int) < (a.length : Int) := by have := HLA.out; omega
      have k3 : (k : Int) < (b.length : Int) := by have := HLB.out; omega
      have k4 : (k : Int) < (c.length : Int) := by have := HLC.out; omega
      have k5 : (k : Int).toNat = k := by omega
      have k6 : k < a.length := by have := HLA.out; omega
      have k7 : k < b.length := by have := HLB.out; omega
      have k8 : k < c.length := by have := HLC.out; omega
      clear hca hcb hcc hxa hxb hxc ya yb yc hput hxab hxx
      subst hAe; subst hBe; subst hCe
      go_wp2
      refine wp_region_still_tail 16 (by kernel_rfl) (by kernel_rfl) ?_
      simp only [List.take_succ_cons, List.take_zero, List.drop_succ_cons, List.drop_zero]
      repeat still_step
      refine wpStill_nil ?_
      change wpList _ _ _ _ _ wr.drew
      go_wp2
      go_roundw
      case rel => exact ⟨k + 1, by omega, by go_num, HP, ⟨Below.setCell (below_drew1 BL.out) (Nat.le_refl _) _⟩⟩
      case measure => simp [intOf]; omega
    · obtain rfl : N = k := by omega
      go_wp2
      refine start_ (n := 21) (S := fun w' => True) (ds := []) #[false, false, false, false, false, false, false, false, false, false, false, false, false, false, false, false, false, false, false, false, false] (by kernel_rfl) rfl rfl (trivial) (fun hHeld => ?_)
      refine one_ (i := 0) (N := some 48) #[true, false, false, false, false, false, false, false, false, false, false, false, false, false, false, false, false, false, false, false, false] rfl rfl (by kernel_rfl) (by decide) (fun K hK => ?_)
      refine goes_ Try.func18 (by kernel_rfl) rfl #[] (by rfl) rfl rfl (by (try simp only [List.map_toArray, List.map_cons, List.map_nil]); first | done | rfl) ?_
      refine (Hasher.lives_walk _).mono ?_
      rintro e w5 ⟨rfl, hb⟩
      refine ⟨_, rfl, ?_⟩
      have BL5 := Aside0.mk (below_step (below_drew1 BL.out) hb)
      have X5 := Aside0.mk (blk_below (blk_drew B0.out) hb)
      clear hb hHeld
      refine hK.out _ _ (trivial) (fun hHeld => ?_)
      clear hK K
      refine norm_ (a' := ?_) ?_ ?_
      rotate_left
      · show Act.put _ (some 48) _ = _
        simp only [Act.put, List.setIfInBounds_toArray, List.set_cons_zero, List.set_cons_succ, i64_w, i32_w]
        rfl
      refine pure_ (i := 1) (N := some 49) (v := ?_) (a' := ?_) #[true, true, false, false, false, false, false, false, false, false, false, false, false, false, false, false, false, false, false, false, false] rfl rfl (by kernel_rfl) (fun _ _ _ h => h) (Or.inl ⟨by rfl, ?_⟩) ?_ ?_
      rotate_left
      · intro w'
        go_simp
        with_reducible rfl
      rotate_left
      · simp only [Act.put, List.setIfInBounds_toArray, List.set_cons_zero, List.set_cons_succ, i64_w, i32_w]
        rfl
      refine pure_ (i := 2) (N := some 50) (v := ?_) (a' := ?_) #[true, true, true, false, false, false, false, false, false, false, false, false, false, false, false, false, false, false, false, false, false] rfl rfl (by kernel_rfl) (fun _ _ _ h => h) (Or.inl ⟨by rfl, ?_⟩) ?_ ?_
      rotate_left
      · intro w'
        go_simp
        with_reducible rfl
      rotate_left
      · simp only [Act.put, List.setIfInBounds_toArray, List.set_cons_zero, List.set_cons_succ, i64_w, i32_w]
        rfl
      refine pure_ (i := 4) (N := some 52) (v := ?_) (a' := ?_) #[true, true, true, false, true, false, false, false, false, false, false, false, false, false, false, false, false, false, false, false, false] rfl rfl (by kernel_rfl) (fun _ _ _ h => h) (Or.inl ⟨by rfl, ?_⟩) ?_ ?_
      rotate_left
      · intro w'
        go_simp
        with_reducible rfl
      rotate_left
      · simp only [Act.put, List.setIfInBounds_toArray, List.set_cons_zero, List.set_cons_succ, i64_w, i32_w]
        rfl
      refine pure_ (i := 5) (N := some 53) (v := ?_) (a' := ?_) #[true, true, true, false, true, true, false, false, false, false, false, false, false, false, false, false, false, false, false, false, false] rfl rfl (by kernel_rfl) (fun _ _ _ h => h) (Or.inl ⟨by rfl, ?_⟩) ?_ ?_
      rotate_left
      · intro w'
        go_simp
        with_reducible rfl
      rotate_left
      · simp only [Act.put, List.setIfInBounds_toArray, List.set_cons_zero, List.set_cons_succ, i64_w, i32_w]
        rfl
      refine pure_ (i := 6) (N := some 54) (v := ?_) (a' := ?_) #[true, true, true, false, true, true, true, false, false, false, false, false, false, false, false, false, false, false, false, false, false] rfl rfl (by kernel_rfl) (fun _ _ _ h => h) (Or.inl ⟨by rfl, ?_⟩) ?_ ?_
      rotate_left
      · intro w'
        go_simp
        with_reducible rfl
      rotate_left
      · simp only [Act.put, List.setIfInBounds_toArray, List.set_cons_zero, List.set_cons_succ, i64_w, i32_w]
        rfl
      refine pure_ (i := 8) (N := some 56) (v := ?_) (a' := ?_) #[true, true, true, false, true, true, true, false, true, false, false, false, false, false, false, false, false, false, false, false, false] rfl rfl (by kernel_rfl) (fun _ _ _ h => h) (Or.inl ⟨by rfl, ?_⟩) ?_ ?_
      rotate_left
      · intro w'
        go_simp
        with_reducible rfl
      rotate_left
      · simp only [Act.put, List.setIfInBounds_toArray, List.set_cons_zero, List.set_cons_succ, i64_w, i32_w]
        rfl
      refine pure_ (i := 9) (N := some 57) (v := ?_) (a' := ?_) #[true, true, true, false, true, true, true, false, true, true, false, false, false, false, false, false, false, false, false, false, false] rfl rfl (by kernel_rfl) (fun _ _ _ h => h) (Or.inl ⟨by rfl, ?_⟩) ?_ ?_
      rotate_left
      · intro w'
        go_simp
        with_reducible rfl
      rotate_left
      · simp only [Act.put, List.setIfInBounds_toArray, List.set_cons_zero, List.set_cons_succ, i64_w, i32_w]
        rfl
      refine pure_ (i := 10) (N := some 58) (v := ?_) (a' := ?_) #[true, true, true, false, true, true, true, false, true, true, true, false, false, false, false, false, false, false, false, false, false] rfl rfl (by kernel_rfl) (fun _ _ _ h => h) (Or.inl ⟨by rfl, ?_⟩) ?_ ?_
      rotate_left
      · intro w'
        go_simp
        with_reducible rfl
      rotate_left
      · simp only [Act.put, List.setIfInBounds_toArray, List.set_cons_zero, List.set_cons_succ, i64_w, i32_w]
        rfl
      refine pure_ (i := 13) (N := some 61) (v := ?_) (a' := ?_) #[true, true, true, false, true, true, true, false, true, true, true, false, false, true, false, false, false, false, false, false, false] rfl rfl (by kernel_rfl) (fun _ _ _ h => h) (Or.inl ⟨by rfl, ?_⟩) ?_ ?_
      rotate_left
      · intro w'
        go_simp
        with_reducible rfl
      rotate_left
      · simp only [Act.put, List.setIfInBounds_toArray, List.set_cons_zero, List.set_cons_succ, i64_w, i32_w]
        rfl
      refine pure_ (i := 14) (N := some 62) (v := ?_) (a' := ?_) #[true, true, true, false, true, true, true, false, true, true, true, false, false, true, true, false, false, false, false, false, false] rfl rfl (by kernel_rfl) (fun _ _ _ h => h) (Or.inl ⟨by rfl, ?_⟩) ?_ ?_
      rotate_left
      · intro w'
        go_simp
        with_reducible rfl
      rotate_left
      · simp only [Act.put, List.setIfInBounds_toArray, List.set_cons_zero, List.set_cons_succ, i64_w, i32_w]
        rfl
      refine pure_ (i := 15) (N := some 63) (v := ?_) (a' := ?_) #[true, true, true, false, true, true, true, false, true, true, true, false, false, true, true, true, false, false, false, false, false] rfl rfl (by kernel_rfl) (fun _ _ _ h => h) (Or.inl ⟨by rfl, ?_⟩) ?_ ?_
      rotate_left
      · intro w'
        go_simp
        with_reducible rfl
      rotate_left
      · simp only [Act.put, List.setIfInBounds_toArray, List.set_cons_zero, List.set_cons_succ, i64_w, i32_w]
        rfl
      refine one_ (i := 3) (N := some 51) #[true, true, true, true, true, true, true, false, true, true, true, false, false, true, true, true, false, false, false, false, false] rfl rfl (by kernel_rfl) (by decide) (fun K hK => ?_)
      refine goes_ Try.func19 (by kernel_rfl) rfl #[.slice (some ⟨W.heap.size, 0, none⟩) N N] (by rfl) rfl rfl (by (try simp only [List.map_toArray, List.map_cons, List.map_nil]); first | done | rfl) ?_
      refine (HX.out _ (src_of_block X5.out)).mono ?_
      rintro e w' ⟨rfl, ⟨nX, rfl⟩⟩
      refine ⟨_, rfl, ?_⟩
      clear hHeld
      refine hK.out _ _ (trivial) (fun hHeld => ?_)
      clear hK K
      refine norm_ (a' := ?_) ?_ ?_
      rotate_left
      · show Act.put _ (some 51) _ = _
        simp only [Act.put, List.setIfInBounds_toArray, List.set_cons_zero, List.set_cons_succ, i64_w, i32_w]
        rfl
      refine one_ (i := 7) (N := some 55) #[true, true, true, true, true, true, true, true, true, true, true, false, false, true, true, true, false, false, false, false, false] rfl rfl (by kernel_rfl) (by decide) (fun K hK => ?_)
      refine goes_ Try.func19 (by kernel_rfl) rfl #[.slice A0 N c0] (by rfl) rfl rfl (by (try simp only [List.map_toArray, List.map_cons, List.map_nil]); first | done | rfl) ?_
      refine (HA.out _ (SRA.out.below (pw_below_drewN BL5.out nX))).mono ?_
      rintro e w' ⟨rfl, ⟨nA, rfl⟩⟩
      refine ⟨_, rfl, ?_⟩
      clear hHeld
      refine hK.out _ _ (trivial) (fun hHeld => ?_)
      clear hK K
      refine norm_ (a' := ?_) ?_ ?_
      rotate_left
      · show Act.put _ (some 55) _ = _
        simp only [Act.put, List.setIfInBounds_toArray, List.set_cons_zero, List.set_cons_succ, i64_w, i32_w]
        rfl
      refine one_ (i := 11) (N := some 59) #[true, true, true, true, true, true, true, true, true, true, true, true, false, true, true, true, false, false, false, false, false] rfl rfl (by kernel_rfl) (by decide) (fun K hK => ?_)
      refine goes_ Try.func19 (by kernel_rfl) rfl #[.slice A1 N c1] (by rfl) rfl rfl (by (try simp only [List.map_toArray, List.map_cons, List.map_nil]); first | done | rfl) ?_
      refine (HB.out _ (SRB.out.below (pw_below_drewN (pw_below_drewN BL5.out nX) nA))).mono ?_
      rintro e w' ⟨rfl, ⟨nB, rfl⟩⟩
      refine ⟨_, rfl, ?_⟩
      clear hHeld
      refine hK.out _ _ (trivial) (fun hHeld => ?_)
      clear hK K
      refine norm_ (a' := ?_) ?_ ?_
      rotate_left
      · show Act.put _ (some 59) _ = _
        simp only [Act.put, List.setIfInBounds_toArray, List.set_cons_zero, List.set_cons_succ, i64_w, i32_w]
        rfl
      refine pure_ (i := 12) (N := some 60) (v := ?_) (a' := ?_) #[true, true, true, true, true, true, true, true, true, true, true, true, true, true, true, true, false, false, false, false, false] rfl rfl (by kernel_rfl) (fun _ _ _ h => h) (Or.inl ⟨by rfl, ?_⟩) ?_ ?_
      rotate_left
      · intro w'
        go_simp
        with_reducible rfl
      rotate_left
      · simp only [Act.put, List.setIfInBounds_toArray, List.set_cons_zero, List.set_cons_succ, i64_w, i32_w]
        rfl
      refine one_ (i := 16) (N := some 64) #[true, true, true, true, true, true, true, true, true, true, true, true, true, true, true, true, true, false, false, false, false] rfl rfl (by kernel_rfl) (by decide) (fun K hK => ?_)
      refine goes_ Try.func19 (by kernel_rfl) rfl #[.slice A2 N c2] (by rfl) rfl rfl (by (try simp only [List.map_toArray, List.map_cons, List.map_nil]); first | done | rfl) ?_
      refine (HC.out _ (SRC.out.below (pw_below_drewN (pw_below_drewN (pw_below_drewN BL5.out nX) nA) nB))).mono ?_
      rintro e w' ⟨rfl, ⟨nC, rfl⟩⟩
      refine ⟨_, rfl, ?_⟩
      clear hHeld
      refine hK.out _ _ (trivial) (fun hHeld => ?_)
      clear hK K
      refine norm_ (a' := ?_) ?_ ?_
      rotate_left
      · show Act.put _ (some 64) _ = _
        simp only [Act.put, List.setIfInBounds_toArray, List.set_cons_zero, List.set_cons_succ, i64_w, i32_w]
        rfl
      refine pure_ (i := 17) (N := some 65) (v := ?_) (a' := ?_) #[true, true, true, true, true, true, true, true, true, true, true, true, true, true, true, true, true, true, false, false, false] rfl rfl (by kernel_rfl) (fun _ _ _ h => h) (Or.inl ⟨by rfl, ?_⟩) ?_ ?_
      rotate_left
      · intro w'
        go_simp
        with_reducible rfl
      rotate_left
      · simp only [Act.put, List.setIfInBounds_toArray, List.set_cons_zero, List.set_cons_succ, i64_w, i32_w]
        rfl
      refine pure_ (i := 18) (N := some 66) (v := ?_) (a' := ?_) #[true, true, true, true, true, true, true, true, true, true, true, true, true, true, true, true, true, true, true, false, false] rfl rfl (by kernel_rfl) (fun _ _ _ h => h) (Or.inl ⟨by rfl, ?_⟩) ?_ ?_
      rotate_left
      · intro w'
        go_simp
        with_reducible rfl
      rotate_left
      · simp only [Act.put, List.setIfInBounds_toArray, List.set_cons_zero, List.set_cons_succ, i64_w, i32_w]
        rfl
      refine pure_ (i := 19) (N := some 67) (v := ?_) (a' := ?_) #[true, true, true, true, true, true, true, true, true, true, true, true, true, true, true, true, true, true, true, true, false] rfl rfl (by kernel_rfl) (fun _ _ _ h => h) (Or.inl ⟨by rfl, ?_⟩) ?_ ?_
      rotate_left
      · intro w'
        go_simp
        with_reducible rfl
      rotate_left
      · simp only [Act.put, List.setIfInBounds_toArray, List.set_cons_zero, List.set_cons_succ, i64_w, i32_w]
        rfl
      refine pure_ (i := 20) (N := some 6) (v := ?_) (a' := ?_) #[true, true, true, true, true, true, true, true, true, true, true, true, true, true, true, true, true, true, true, true, true] rfl rfl (by kernel_rfl) (fun _ _ _ h => h) (Or.inl ⟨by rfl, ?_⟩) ?_ ?_
      rotate_left
      · intro w'
        go_simp
        with_reducible rfl
      rotate_left
      · simp only [Act.put, List.setIfInBounds_toArray, List.set_cons_zero, List.set_cons_succ, i64_w, i32_w]
        rfl
      refine done_ (by kernel_rfl) ?_
      try go_wp2
      go_ret
      exact ⟨rfl, pw_below_drewN (pw_below_drewN (pw_below_drewN (pw_below_drewN BL5.out nX) nA) nB) nC⟩
set_option maxHeartbeats 8000000 in
set_option maxRecDepth 100000 in
theorem linear_c (A0 A1 A2 : Option Addr) (c0 c1 c2 : Nat) (a b c : List Nat) (W : World) (N : Nat) (hN : N ≤ 140737488351232) (hla : N ≤ a.length) (hlb : N ≤ b.length) (hlc : N ≤ c.length) (ha : Bytes a) (hb : Bytes b) (hc : Bytes c) (sa : Src W A0 a) (sb : Src W A1 b) (sc : Src W A2 c) (h0 : a.length ≤ c0) (h1 : b.length ≤ c1) (h2 : c.length ≤ c2) (hm0 : a.length ≤ 140737488351232) (hm1 : b.length ≤ 140737488351232) (hm2 : c.length ≤ 140737488351232)
    (he : c.length = N) (hx : a.length ≤ b.length) (hy : N < a.length) :
    Calls Try.prog 6 #[.slice A0 a.length c0, .slice A1 b.length c1, .slice A2 c.length c2] W fun e w' => e = .returned (.bool true) ∧ Below W.heap.size W w' := by
  have hmk := make_zeros N (by omega) .i64
  change ∀ W : World, (Instr.makeSlice 23 (.int .i64 (N : Int)) (.int .i64 (N : Int))).run Try.prog W = .ok (.slice (some ⟨W.heap.size, 0, none⟩) N N) (W.alloc (.cells (bcells (List.replicate N 0)) 5)) at hmk
  rw [← Xo_zero a b c N] at hmk
  have hX := fun (wz : World) (hS : Src wz (some ⟨W.heap.size, 0, none⟩) (Xo a b c N N)) => crc_walk (some ⟨W.heap.size, 0, none⟩) N N (Xo a b c N N) wz (Xo_length _ _ _ _ _) hS (Nat.le_refl _) (Xo_bytes a b c N N ha hb hc) (by omega)
  have hA := fun (wz : World) (hS : Src wz A0 a) => crc_walk A0 N c0 (a.take N) wz (by rw [List.length_take]; omega) (src_take hS N) (by omega) (bytes_take ha _) (by omega)
  have hB := fun (wz : World) (hS : Src wz A1 b) => crc_walk A1 N c1 (b.take N) wz (by rw [List.length_take]; omega) (src_take hS N) (by omega) (bytes_take hb _) (by omega)
  have hC := fun (wz : World) (hS : Src wz A2 c) => crc_walk A2 N c2 (c.take N) wz (by rw [List.length_take]; omega) (src_take hS N) (by omega) (bytes_take hc _) (by omega)
  have e := ext_three (a.take N) (b.take N) (c.take N) (Xo a b c N N) (bytes_take ha _) (bytes_take hb _) (bytes_take hc _) (Xo_bytes a b c N N ha hb hc) (by simp only [List.length_take]; omega) (by simp only [List.length_take]; omega) (by rw [Xo_length, List.length_take]; omega)
    (by rw [Xo_all a b c N hla hlb hlc]; exact xors_num _ _ _ (bytes_take ha _) (bytes_take hb _) (bytes_take hc _) (by simp only [List.length_take]; omega) (by simp only [List.length_take]; omega))
  obtain ⟨px, hpx⟩ : ∃ p, ext 0 (Xo a b c N N) = p := ⟨_, rfl⟩
  obtain ⟨pa, hpa⟩ : ∃ p, ext 0 (a.take N) = p := ⟨_, rfl⟩
  obtain ⟨pb, hpb⟩ : ∃ p, ext 0 (b.take N) = p := ⟨_, rfl⟩
  obtain ⟨pc, hpc⟩ : ∃ p, ext 0 (c.take N) = p := ⟨_, rfl⟩
  have la := ext_lt (s := 0) (by decide) (bytes_take ha N)
  have lb := ext_lt (s := 0) (by decide) (bytes_take hb N)
  have lc := ext_lt (s := 0) (by decide) (bytes_take hc N)
  rw [hpx] at e hX
  rw [hpa] at e hA la
  rw [hpb] at e hB lb
  rw [hpc] at e hC lc
  obtain ⟨pab, hpab⟩ : ∃ p, pa ^^^ pb = p := ⟨_, rfl⟩
  have v1 := u32_xor_nat pa pb la lb
  have lab := xor32 la lb
  rw [hpab] at v1 lab e
  have v2 := u32_xor_nat pab pc lab lc
  rw [← e] at v2
  have HX := Aside0.mk hX
  have HA := Aside0.mk hA
  have HB := Aside0.mk hB
  have HC := Aside0.mk hC
  have SRA := Aside0.mk sa
  have SRB := Aside0.mk sb
  have SRC := Aside0.mk sc
  have HBA := Aside0.mk ha
  have HBB := Aside0.mk hb
  have HBC := Aside0.mk hc
  have HLA := Aside0.mk hla
  have HLB := Aside0.mk hlb
  have HLC := Aside0.mk hlc
  have t1 : decide ((b.length : Int) < (a.length : Int)) = false := decide_eq_false (by omega)
  have t2 : decide (b.length < a.length) = false := decide_eq_false (by omega)
  have t3 : decide ((N : Int) < (a.length : Int)) = true := decide_eq_true (by omega)
  have t4 : decide (N < a.length) = true := decide_eq_true (by omega)
  have hz0 := h0
  have hz1 := h1
  have hz2 := h2
  clear hX hA hB hC sa sb sc ha hb hc hpx hpa hpb hpc la lb lc lab hpab e
  have N0 : (0 : Int) ≤ (N : Int) := by omega
  have N1 : (N : Int) ≤ 281474976710656 := by omega
  have N2 : (N : Int).toNat = N := by omega
  have N3 : N ≤ c0 := by have := HLA.out; omega
  have N4 : N ≤ c1 := by have := HLB.out; omega
  have N5 : N ≤ c2 := by have := HLC.out; omega
  rw [he]
  go_enter Try.func6, Try.ntmps6
  go_wp2
  have B0 := Aside0.mk (blk_new W (.cells (bcells (Xo a b c N 0)) 5))
  have BL := Aside0.mk (below_alloc (Below.refl _ W) (.cells (bcells (Xo a b c N 0)) 5))
  go_loopw [9] (fun i wr => ∃ k : Nat, k ≤ N ∧ i = .int .i64 k ∧ Aside0 (wr.heap[W.heap.size]? = some (.cells (bcells (Xo a b c N k)) 5 (0, 0))) ∧ Aside0 (Below W.heap.size W wr)) (fun i _ => N - (intOf i).toNat)
  case atStart => exact ⟨0, by omega, rfl, B0, BL⟩
  case round =>
    clear B0 BL
    obtain ⟨k, hk, rfl, B0, BL⟩ := hrel
    by_cases hlt : k < N
    · obtain ⟨ab, ao, hAe, hca⟩ := (SRA.out.below BL.out) (by have := HLA.out; omega)
      obtain ⟨bb, bo, hBe, hcb⟩ := (SRB.out.below BL.out) (by have := HLB.out; omega)
      obtain ⟨cb, co, hCe, hcc⟩ := (SRC.out.below BL.out) (by have := HLC.out; omega)
      have ga := hca k (by have := HLA.out; omega)
      have gb := hcb k (by have := HLB.out; omega)
      have gc := hcc k (by have := HLC.out; omega)
      obtain ⟨xa, hxa⟩ : ∃ x, a.getD k 0 = x := ⟨_, rfl⟩
      obtain ⟨xb, hxb⟩ : ∃ x, b.getD k 0 = x := ⟨_, rfl⟩
      obtain ⟨xc, hxc⟩ : ∃ x, c.getD k 0 = x := ⟨_, rfl⟩
      have ya := getD_byte HBA.out k
      have yb := getD_byte HBB.out k
      have yc := getD_byte HBC.out k
      have hput := blk_put B0.out k (.int .u8 ((a.getD k 0 ^^^ b.getD k 0 ^^^ c.getD k 0 : Nat) : Int)) (by rw [bcells_set, Xo_set a b c N k hlt])
      rw [hxa] at ga ya hput
      rw [hxb] at gb yb hput
      rw [hxc] at gc yc hput
      have w1 := u8_xor_nat xa xb ya yb
      have w2 := u8_xor_nat (xa ^^^ xb) xc (Nat.xor_lt_two_pow (n := 8) ya yb) yc
      obtain ⟨xab, hxab⟩ : ∃ x, xa ^^^ xb = x := ⟨_, rfl⟩
      obtain ⟨xx, hxx⟩ : ∃ x, xa ^^^ xb ^^^ xc = x := ⟨_, rfl⟩
      rw [hxx] at w2 hput
      rw [hxab] at w1 w2
      have HP := Aside0.mk hput
      have gx := blk_cell B0.out k
      rw [bcells_get _ _ (by rw [Xo_length]; exact hlt)] at gx
      have gf := blk_frozen B0.out k
      have k0 : (0 : Int) ≤ (k : Int) := by omega
      have k1 : (k : Int) < (N : Int) := by omega
      have k2 : (k : Int) < (a.length : Int) := by have := HLA.out; omega
      have k3 : (k : Int) < (b.length : Int) := by have := HLB.out; omega
      have k4 : (k : Int) < (c.length : Int) := by have := HLC.out; omega
      have k5 : (k : Int).toNat = k := by omega
      have k6 : k < a.length := by have := HLA.out; omega
      have k7 : k < b.length := by have := HLB.out; omega
      have k8 : k < c.length := by have := HLC.out; omega
      clear hca hcb hcc hxa hxb hxc ya yb yc hput hxab hxx
      subst hAe; subst hBe; subst hCe
      go_wp2
      refine wp_region_still_tail 16 (by kernel_rfl) (by kernel_rfl) ?_
      simp only [List.take_succ_cons, List.take_zero, List.drop_succ_cons, List.drop_zero]
      repeat still_step
      refine wpStill_nil ?_
      change wpList _ _ _ _ _ wr.drew
      go_wp2
      go_roundw
      case rel => exact ⟨k + 1, by omega, by go_num, HP, ⟨Below.setCell (below_drew1 BL.out) (Nat.le_refl _) _⟩⟩
      case measure => simp [intOf]; omega
    · obtain rfl : N = k := by omega
      go_wp2
      refine start_ (n := 21) (S := fun w' => True) (ds := []) #[false, false, false, false, false, false, false, false, false, false, false, false, false, false, false, false, false, false, false, false, false] (by kernel_rfl) rfl rfl (trivial) (fun hHeld => ?_)
      refine one_ (i := 0) (N := some 48) #[true, false, false, false, false, false, false, false, false, false, false, false, false, false, false, false, false, false, false, false, false] rfl rfl (by kernel_rfl) (by decide) (fun K hK => ?_)
      refine goes_ Try.func18 (by kernel_rfl) rfl #[] (by rfl) rfl rfl (by (try simp only [List.map_toArray, List.map_cons, List.map_nil]); first | done | rfl) ?_
      refine (Hasher.lives_walk _).mono ?_
      rintro e w5 ⟨rfl, hb⟩
      refine ⟨_, rfl, ?_⟩
      have BL5 := Aside0.mk (below_step (below_drew1 BL.out) hb)
      have X5 := Aside0.mk (blk_below (blk_drew B0.out) hb)
      clear hb hHeld
      refine hK.out _ _ (trivial) (fun hHeld => ?_)
      clear hK K
      refine norm_ (a' := ?_) ?_ ?_
      rotate_left
      · show Act.put _ (some 48) _ = _
        simp only [Act.put, List.setIfInBounds_toArray, List.set_cons_zero, List.set_cons_succ, i64_w, i32_w]
        rfl
      refine pure_ (i := 1) (N := some 49) (v := ?_) (a' := ?_) #[true, true, false, false, false, false, false, false, false, false, false, false, false, false, false, false, false, false, false, false, false] rfl rfl (by kernel_rfl) (fun _ _ _ h => h) (Or.inl ⟨by rfl, ?_⟩) ?_ ?_
      rotate_left
      · intro w'
        go_simp
        with_reducible rfl
      rotate_left
      · simp only [Act.put, List.setIfInBounds_toArray, List.set_cons_zero, List.set_cons_succ, i64_w, i32_w]
        rfl
      refine pure_ (i := 2) (N := some 50) (v := ?_) (a' := ?_) #[true, true, true, false, false, false, false, false, false, false, false, false, false, false, false, false, false, false, false, false, false] rfl rfl (by kernel_rfl) (fun _ _ _ h => h) (Or.inl ⟨by rfl, ?_⟩) ?_ ?_
      rotate_left
      · intro w'
        go_simp
        with_reducible rfl
      rotate_left
      · simp only [Act.put, List.setIfInBounds_toArray, List.set_cons_zero, List.set_cons_succ, i64_w, i32_w]
        rfl
      refine pure_ (i := 4) (N := some 52) (v := ?_) (a' := ?_) #[true, true, true, false, true, false, false, false, false, false, false, false, false, false, false, false, false, false, false, false, false] rfl rfl (by kernel_rfl) (fun _ _ _ h => h) (Or.inl ⟨by rfl, ?_⟩) ?_ ?_
      rotate_left
      · intro w'
        go_simp
        with_reducible rfl
      rotate_left
      · simp only [Act.put, List.setIfInBounds_toArray, List.set_cons_zero, List.set_cons_succ, i64_w, i32_w]
        rfl
      refine pure_ (i := 5) (N := some 53) (v := ?_) (a' := ?_) #[true, true, true, false, true, true, false, false, false, false, false, false, false, false, false, false, false, false, false, false, false] rfl rfl (by kernel_rfl) (fun _ _ _ h => h) (Or.inl ⟨by rfl, ?_⟩) ?_ ?_
      rotate_left
      · intro w'
        go_simp
        with_reducible rfl
      rotate_left
      · simp only [Act.put, List.setIfInBounds_toArray, List.set_cons_zero, List.set_cons_succ, i64_w, i32_w]
        rfl
      refine pure_ (i := 6) (N := some 54) (v := ?_) (a' := ?_) #[true, true, true, false, true, true, true, false, false, false, false, false, false, false, false, false, false, false, false, false, false] rfl rfl (by kernel_rfl) (fun _ _ _ h => h) (Or.inl ⟨by rfl, ?_⟩) ?_ ?_
      rotate_left
      · intro w'
        go_simp
        with_reducible rfl
      rotate_left
      · simp only [Act.put, List.setIfInBounds_toArray, List.set_cons_zero, List.set_cons_succ, i64_w, i32_w]
        rfl
      refine pure_ (i := 8) (N := some 56) (v := ?_) (a' := ?_) #[true, true, true, false, true, true, true, false, true, false, false, false, false, false, false, false, false, false, false, false, false] rfl rfl (by kernel_rfl) (fun _ _ _ h => h) (Or.inl ⟨by rfl, ?_⟩) ?_ ?_
      rotate_left
      · intro w'
        go_simp
        with_reducible rfl
      rotate_left
      · simp only [Act.put, List.setIfInBounds_toArray, List.set_cons_zero, List.set_cons_succ, i64_w, i32_w]
        rfl
      refine pure_ (i := 9) (N := some 57) (v := ?_) (a' := ?_) #[true, true, true, false, true, true, true, false, true, true, false, false, false, false, false, false, false, false, false, false, false] rfl rfl (by kernel_rfl) (fun _ _ _ h => h) (Or.inl ⟨by rfl, ?_⟩) ?_ ?_
      rotate_left
      · intro w'
        go_simp
        with_reducible rfl
      rotate_left
      · simp only [Act.put, List.setIfInBounds_toArray, List.set_cons_zero, List.set_cons_succ, i64_w, i32_w]
        rfl
      refine pure_ (i := 10) (N := some 58) (v := ?_) (a' := ?_) #[true, true, true, false, true, true, true, false, true, true, true, false, false, false, false, false, false, false, false, false, false] rfl rfl (by kernel_rfl) (fun _ _ _ h => h) (Or.inl ⟨by rfl, ?_⟩) ?_ ?_
      rotate_left
      · intro w'
        go_simp
        with_reducible rfl
      rotate_left
      · simp only [Act.put, List.setIfInBounds_toArray, List.set_cons_zero, List.set_cons_succ, i64_w, i32_w]
        rfl
      refine pure_ (i := 13) (N := some 61) (v := ?_) (a' := ?_) #[true, true, true, false, true, true, true, false, true, true, true, false, false, true, false, false, false, false, false, false, false] rfl rfl (by kernel_rfl) (fun _ _ _ h => h) (Or.inl ⟨by rfl, ?_⟩) ?_ ?_
      rotate_left
      · intro w'
        go_simp
        with_reducible rfl
      rotate_left
      · simp only [Act.put, List.setIfInBounds_toArray, List.set_cons_zero, List.set_cons_succ, i64_w, i32_w]
        rfl
      refine pure_ (i := 14) (N := some 62) (v := ?_) (a' := ?_) #[true, true, true, false, true, true, true, false, true, true, true, false, false, true, true, false, false, false, false, false, false] rfl rfl (by kernel_rfl) (fun _ _ _ h => h) (Or.inl ⟨by rfl, ?_⟩) ?_ ?_
      rotate_left
      · intro w'
        go_simp
        with_reducible rfl
      rotate_left
      · simp only [Act.put, List.setIfInBounds_toArray, List.set_cons_zero, List.set_cons_succ, i64_w, i32_w]
        rfl
      refine pure_ (i := 15) (N := some 63) (v := ?_) (a' := ?_) #[true, true, true, false, true, true, true, false, true, true, true, false, false, true, true, true, false, false, false, false, false] rfl rfl (by kernel_rfl) (fun _ _ _ h => h) (Or.inl ⟨by rfl, ?_⟩) ?_ ?_
      rotate_left
      · intro w'
        go_simp
        with_reducible rfl
      rotate_left
      · simp only [Act.put, List.setIfInBounds_toArray, List.set_cons_zero, List.set_cons_succ, i64_w, i32_w]
        rfl
      refine one_ (i := 3) (N := some 51) #[true, true, true, true, true, true, true, false, true, true, true, false, false, true, true, true, false, false, false, false, false] rfl rfl (by kernel_rfl) (by decide) (fun K hK => ?_)
      refine goes_ Try.func19 (by kernel_rfl) rfl #[.slice (some ⟨W.heap.size, 0, none⟩) N N] (by rfl) rfl rfl (by (try simp only [List.map_toArray, List.map_cons, List.map_nil]); first | done | rfl) ?_
      refine (HX.out _ (src_of_block X5.out)).mono ?_
      rintro e w' ⟨rfl, ⟨nX, rfl⟩⟩
      refine ⟨_, rfl, ?_⟩
      clear hHeld
      refine hK.out _ _ (trivial) (fun hHeld => ?_)
      clear hK K
      refine norm_ (a' := ?_) ?_ ?_
      rotate_left
      · show Act.put _ (some 51) _ = _
        simp only [Act.put, List.setIfInBounds_toArray, List.set_cons_zero, List.set_cons_succ, i64_w, i32_w]
        rfl
      refine one_ (i := 7) (N := some 55) #[true, true, true, true, true, true, true, true, true, true, true, false, false, true, true, true, false, false, false, false, false] rfl rfl (by kernel_rfl) (by decide) (fun K hK => ?_)
      refine goes_ Try.func19 (by kernel_rfl) rfl #[.slice A0 N c0] (by rfl) rfl rfl (by (try simp only [List.map_toArray, List.map_cons, List.map_nil]); first | done | rfl) ?_
      refine (HA.out _ (SRA.out.below (pw_below_drewN BL5.out nX))).mono ?_
      rintro e w' ⟨rfl, ⟨nA, rfl⟩⟩
      refine ⟨_, rfl, ?_⟩
      clear hHeld
      refine hK.out _ _ (trivial) (fun hHeld => ?_)
      clear hK K
      refine norm_ (a' := ?_) ?_ ?_
      rotate_left
      · show Act.put _ (some 55) _ = _
        simp only [Act.put, List.setIfInBounds_toArray, List.set_cons_zero, List.set_cons_succ, i64_w, i32_w]
        rfl
      refine one_ (i := 11) (N := some 59) #[true, true, true, true, true, true, true, true, true, true, true, true, false, true, true, true, false, false, false, false, false] rfl rfl (by kernel_rfl) (by decide) (fun K hK => ?_)
      refine goes_ Try.func19 (by kernel_rfl) rfl #[.slice A1 N c1] (by rfl) rfl rfl (by (try simp only [List.map_toArray, List.map_cons, List.map_nil]); first | done | rfl) ?_
      refine (HB.out _ (SRB.out.below (pw_below_drewN (pw_below_drewN BL5.out nX) nA))).mono ?_
      rintro e w' ⟨rfl, ⟨nB, rfl⟩⟩
      refine ⟨_, rfl, ?_⟩
      clear hHeld
      refine hK.out _ _ (trivial) (fun hHeld => ?_)
      clear hK K
      refine norm_ (a' := ?_) ?_ ?_
      rotate_left
      · show Act.put _ (some 59) _ = _
        simp only [Act.put, List.setIfInBounds_toArray, List.set_cons_zero, List.set_cons_succ, i64_w, i32_w]
        rfl
      refine pure_ (i := 12) (N := some 60) (v := ?_) (a' := ?_) #[true, true, true, true, true, true, true, true, true, true, true, true, true, true, true, true, false, false, false, false, false] rfl rfl (by kernel_rfl) (fun _ _ _ h => h) (Or.inl ⟨by rfl, ?_⟩) ?_ ?_
      rotate_left
      · intro w'
        go_simp
        with_reducible rfl
      rotate_left
      · simp only [Act.put, List.setIfInBounds_toArray, List.set_cons_zero, List.set_cons_succ, i64_w, i32_w]
        rfl
      refine one_ (i := 16) (N := some 64) #[true, true, true, true, true, true, true, true, true, true, true, true, true, true, true, true, true, false, false, false, false] rfl rfl (by kernel_rfl) (by decide) (fun K hK => ?_)
      refine goes_ Try.func19 (by kernel_rfl) rfl #[.slice A2 N c2] (by rfl) rfl rfl (by (try simp only [List.map_toArray, List.map_cons, List.map_nil]); first | done | rfl) ?_
      refine (HC.out _ (SRC.out.below (pw_below_drewN (pw_below_drewN (pw_below_drewN BL5.out nX) nA) nB))).mono ?_
      rintro e w' ⟨rfl, ⟨nC, rfl⟩⟩
      refine ⟨_, rfl, ?_⟩
      clear hHeld
      refine hK.out _ _ (trivial) (fun hHeld => ?_)
      clear hK K
      refine norm_ (a' := ?_) ?_ ?_
      rotate_left
      · show Act.put _ (some 64) _ = _
        simp only [Act.put, List.setIfInBounds_toArray, List.set_cons_zero, List.set_cons_succ, i64_w, i32_w]
        rfl
      refine pure_ (i := 17) (N := some 65) (v := ?_) (a' := ?_) #[true, true, true, true, true, true, true, true, true, true, true, true, true, true, true, true, true, true, false, false, false] rfl rfl (by kernel_rfl) (fun _ _ _ h => h) (Or.inl ⟨by rfl, ?_⟩) ?_ ?_
      rotate_left
      · intro w'
        go_simp
        with_reducible rfl
      rotate_left
      · simp only [Act.put, List.setIfInBounds_toArray, List.set_cons_zero, List.set_cons_succ, i64_w, i32_w]
        rfl
      refine pure_ (i := 18) (N := some 66) (v := ?_) (a' := ?_) #[true, true, true, true, true, true, true, true, true, true, true, true, true, true, true, true, true, true, true, false, false] rfl rfl (by kernel_rfl) (fun _ _ _ h => h) (Or.inl ⟨by rfl, ?_⟩) ?_ ?_
      rotate_left
      · intro w'
        go_simp
        with_reducible rfl
      rotate_left
      · simp only [Act.put, List.setIfInBounds_toArray, List.set_cons_zero, List.set_cons_succ, i64_w, i32_w]
        rfl
      refine pure_ (i := 19) (N := some 67) (v := ?_) (a' := ?_) #[true, true, true, true, true, true, true, true, true, true, true, true, true, true, true, true, true, true, true, true, false] rfl rfl (by kernel_rfl) (fun _ _ _ h => h) (Or.inl ⟨by rfl, ?_⟩) ?_ ?_
      rotate_left
      · intro w'
        go_simp
        with_reducible rfl
      rotate_left
      · simp only [Act.put, List.setIfInBounds_toArray, List.set_cons_zero, List.set_cons_succ, i64_w, i32_w]
        rfl
      refine pure_ (i := 20) (N := some 6) (v := ?_) (a' := ?_) #[true, true, true, true, true, true, true, true, true, true, true, true, true, true, true, true, true, true, true, true, true] rfl rfl (by kernel_rfl) (fun _ _ _ h => h) (Or.inl ⟨by rfl, ?_⟩) ?_ ?_
      rotate_left
      · intro w'
        go_simp
        with_reducible rfl
      rotate_left
      · simp only [Act.put, List.setIfInBounds_toArray, List.set_cons_zero, List.set_cons_succ, i64_w, i32_w]
        rfl
      refine done_ (by kernel_rfl) ?_
      try go_wp2
      go_ret
      exact ⟨rfl, pw_below_drewN (pw_below_drewN (pw_below_drewN (pw_below_drewN BL5.out nX) nA) nB) nC⟩
set_option maxHeartbeats 8000000 in
set_option maxRecDepth 100000 in
theorem linear_d (A0 A1 A2 : Option Addr) (c0 c1 c2 : Nat) (a b c : List Nat) (W : World) (N : Nat) (hN : N ≤ 140737488351232) (hla : N ≤ a.length) (hlb : N ≤ b.length) (hlc : N ≤ c.length) (ha : Bytes a) (hb : Bytes b) (hc : Bytes c) (sa : Src W A0 a) (sb : Src W A1 b) (sc : Src W A2 c) (h0 : a.length ≤ c0) (h1 : b.length ≤ c1) (h2 : c.length ≤ c2) (hm0 : a.length ≤ 140737488351232) (hm1 : b.length ≤ 140737488351232) (hm2 : c.length ≤ 140737488351232)
    (he : c.length = N) (hx : b.length < a.length) (hy : N < b.length) :
    Calls Try.prog 6 #[.slice A0 a.length c0, .slice A1 b.length c1, .slice A2 c.length c2] W fun e w' => e = .returned (.bool true) ∧ Below W.heap.size W w' := by
  have hmk := make_zeros N (by omega) .i64
  change ∀ W : World, (Instr.makeSlice 23 (.int .i64 (N : Int)) (.int .i64 (N : Int))).run Try.prog W = .ok (.slice (some ⟨W.heap.size, 0, none⟩) N N) (W.alloc (.cells (bcells (List.replicate N 0)) 5)) at hmk
  rw [← Xo_zero a b c N] at hmk
  have hX := fun (wz : World) (hS : Src wz (some ⟨W.heap.size, 0, none⟩) (Xo a b c N N)) => crc_walk (some ⟨W.heap.size, 0, none⟩) N N (Xo a b c N N) wz (Xo_length _ _ _ _ _) hS (Nat.le_refl _) (Xo_bytes a b c N N ha hb hc) (by omega)
  have hA := fun (wz : World) (hS : Src wz A0 a) => crc_walk A0 N c0 (a.take N) wz (by rw [List.length_take]; omega) (src_take hS N) (by omega) (bytes_take ha _) (by omega)
  have hB := fun (wz : World) (hS : Src wz A1 b) => crc_walk A1 N c1 (b.take N) wz (by rw [List.length_take]; omega) (src_take hS N) (by omega) (bytes_take hb _) (by omega)
  have hC := fun (wz : World) (hS : Src wz A2 c) => crc_walk A2 N c2 (c.take N) wz (by rw [List.length_take]; omega) (src_take hS N) (by omega) (bytes_take hc _) (by omega)
  have e := ext_three (a.take N) (b.take N) (c.take N) (Xo a b c N N) (bytes_take ha _) (bytes_take hb _) (bytes_take hc _) (Xo_bytes a b c N N ha hb hc) (by simp only [List.length_take]; omega) (by simp only [List.length_take]; omega) (by rw [Xo_length, List.length_take]; omega)
    (by rw [Xo_all a b c N hla hlb hlc]; exact xors_num _ _ _ (bytes_take ha _) (bytes_take hb _) (bytes_take hc _) (by simp only [List.length_take]; omega) (by simp only [List.length_take]; omega))
  obtain ⟨px, hpx⟩ : ∃ p, ext 0 (Xo a b c N N) = p := ⟨_, rfl⟩
  obtain ⟨pa, hpa⟩ : ∃ p, ext 0 (a.take N) = p := ⟨_, rfl⟩
  obtain ⟨pb, hpb⟩ : ∃ p, ext 0 (b.take N) = p := ⟨_, rfl⟩
  obtain ⟨pc, hpc⟩ : ∃ p, ext 0 (c.take N) = p := ⟨_, rfl⟩
  have la := ext_lt (s := 0) (by decide) (bytes_take ha N)
  have lb := ext_lt (s := 0) (by decide) (bytes_take hb N)
  have lc := ext_lt (s := 0) (by decide) (bytes_take hc N)
  rw [hpx] at e hX
  rw [hpa] at e hA la
  rw [hpb] at e hB lb
  rw [hpc] at e hC lc
  obtain ⟨pab, hpab⟩ : ∃ p, pa ^^^ pb = p := ⟨_, rfl⟩
  have v1 := u32_xor_nat pa pb la lb
  have lab := xor32 la lb
  rw [hpab] at v1 lab e
  have v2 := u32_xor_nat pab pc lab lc
  rw [← e] at v2
  have HX := Aside0.mk hX
  have HA := Aside0.mk hA
  have HB := Aside0.mk hB
  have HC := Aside0.mk hC
  have SRA := Aside0.mk sa
  have SRB := Aside0.mk sb
  have SRC := Aside0.mk sc
  have HBA := Aside0.mk ha
  have HBB := Aside0.mk hb
  have HBC := Aside0.mk hc
  have HLA := Aside0.mk hla
  have HLB := Aside0.mk hlb
  have HLC := Aside0.mk hlc
  have t1 : decide ((b.length : Int) < (a.length : Int)) = true := decide_eq_true (by omega)
  have t2 : decide (b.length < a.length) = true := decide_eq_true (by omega)
  have t3 : decide ((N : Int) < (b.length : Int)) = true := decide_eq_true (by omega)
  have t4 : decide (N < b.length) = true := decide_eq_true (by omega)
  have hz0 := h0
  have hz1 := h1
  have hz2 := h2
  clear hX hA hB hC sa sb sc ha hb hc hpx hpa hpb hpc la lb lc lab hpab e
  have N0 : (0 : Int) ≤ (N : Int) := by omega
  have N1 : (N : Int) ≤ 281474976710656 := by omega
  have N2 : (N : Int).toNat = N := by omega
  have N3 : N ≤ c0 := by have := HLA.out; omega
  have N4 : N ≤ c1 := by have := HLB.out; omega
  have N5 : N ≤ c2 := by have := HLC.out; omega
  rw [he]
  go_enter Try.func6, Try.ntmps6
  go_wp2
  have B0 := Aside0.mk (blk_new W (.cells (bcells (Xo a b c N 0)) 5))
  have BL := Aside0.mk (below_alloc (Below.refl _ W) (.cells (bcells (Xo a b c N 0)) 5))
  go_loopw [9] (fun i wr => ∃ k : Nat, k ≤ N ∧ i = .int .i64 k ∧ Aside0 (wr.heap[W.heap.size]? = some (.cells (bcells (Xo a b c N k)) 5 (0, 0))) ∧ Aside0 (Below W.heap.size W wr)) (fun i _ => N - (intOf i).toNat)
  case atStart => exact ⟨0, by omega, rfl, B0, BL⟩
  case round =>
    clear B0 BL
    obtain ⟨k, hk, rfl, B0, BL⟩ := hrel
    by_cases hlt : k < N
    · obtain ⟨ab, ao, hAe, hca⟩ := (SRA.out.below BL.out) (by have := HLA.out; omega)
      obtain ⟨bb, bo, hBe, hcb⟩ := (SRB.out.below BL.out) (by have := HLB.out; omega)
      obtain ⟨cb, co, hCe, hcc⟩ := (SRC.out.below BL.out) (by have := HLC.out; omega)
      have ga := hca k (by have := HLA.out; omega)
      have gb := hcb k (by have := HLB.out; omega)
      have gc := hcc k (by have := HLC.out; omega)
      obtain ⟨xa, hxa⟩ : ∃ x, a.getD k 0 = x := ⟨_, rfl⟩
      obtain ⟨xb, hxb⟩ : ∃ x, b.getD k 0 = x := ⟨_, rfl⟩
      obtain ⟨xc, hxc⟩ : ∃ x, c.getD k 0 = x := ⟨_, rfl⟩
      have ya := getD_byte HBA.out k
      have yb := getD_byte HBB.out k
      have yc := getD_byte HBC.out k
      have hput := blk_put B0.out k (.int .u8 ((a.getD k 0 ^^^ b.getD k 0 ^^^ c.getD k 0 : Nat) : Int)) (by rw [bcells_set, Xo_set a b c N k hlt])
      rw [hxa] at ga ya hput
      rw [hxb] at gb yb hput
      rw [hxc] at gc yc hput
      have w1 := u8_xor_nat xa xb ya yb
      have w2 := u8_xor_nat (xa ^^^ xb) xc (Nat.xor_lt_two_pow (n := 8) ya yb) yc
      obtain ⟨xab, hxab⟩ : ∃ x, xa ^^^ xb = x := ⟨_, rfl⟩
      obtain ⟨xx, hxx⟩ : ∃ x, xa ^^^ xb ^^^ xc = x := ⟨_, rfl⟩
      rw [hxx] at w2 hput
      rw [hxab] at w1 w2
      have HP := Aside0.mk hput
      have gx := blk_cell B0.out k
      rw [bcells_get _ _ (by rw [Xo_length]; exact hlt)] at gx
      have gf := blk_frozen B0.out k
      have k0 : (0 : Int) ≤ (k : Int) := by omega
      have k1 : (k : Int) < (N : Int) := by omega
      have k2 : (k : Int) < (a.length : Int) := by have := HLA.out; omega
      have k3 : (k : Int) < (b.length : Int) := by have := HLB.out; omega
      have k4 : (k : Int) < (c.length : Int) := by have := HLC.out; omega
      have k5 : (k : Int).toNat = k := by omega
      have k6 : k < a.length := by have := HLA.out; omega
      have k7 : k < b.length := by have := HLB.out; omega
      have k8 : k < c.length := by have := HLC.out; omega
      clear hca hcb hcc hxa hxb hxc ya yb yc hput hxab hxx
      subst hAe; subst hBe; subst hCe
      go_wp2
      refine wp_region_still_tail 16 (by kernel_rfl) (by kernel_rfl) ?_
      simp only [List.take_succ_cons, List.take_zero, List.drop_succ_cons, List.drop_zero]
      repeat still_step
      refine wpStill_nil ?_
      change wpList _ _ _ _ _ wr.drew
      go_wp2
      go_roundw
      case rel => exact ⟨k + 1, by omega, by go_num, HP, ⟨Below.setCell (below_drew1 BL.out) (Nat.le_refl _) _⟩⟩
      case measure => simp [intOf]; omega
    · obtain rfl : N = k := by omega
      go_wp2
      refine start_ (n := 21) (S := fun w' => True) (ds := []) #[false, false, false, false, false, false, false, false, false, false, false, false, false, false, false, false, false, false, false, false, false] (by kernel_rfl) rfl rfl (trivial) (fun hHeld => ?_)
      refine one_ (i := 0) (N := some 48) #[true, false, false, false, false, false, false, false, false, false, false, false, false, false, false, false, false, false, false, false, false] rfl rfl (by kernel_rfl) (by decide) (fun K hK => ?_)
      refine goes_ Try.func18 (by kernel_rfl) rfl #[] (by rfl) rfl rfl (by (try simp only [List.map_toArray, List.map_cons, List.map_nil]); first | done | rfl) ?_
      refine (Hasher.lives_walk _).mono ?_
      rintro e w5 ⟨rfl, hb⟩
      refine ⟨_, rfl, ?_⟩
      have BL5 := Aside0.mk (below_step (below_drew1 BL.out) hb)
      have X5 := Aside0.mk (blk_below (blk_drew B0.out) hb)
      clear hb hHeld
      refine hK.out _ _ (trivial) (fun hHeld => ?_)
      clear hK K
      refine norm_ (a' := ?_) ?_ ?_
      rotate_left
      · show Act.put _ (some 48) _ = _
        simp only [Act.put, List.setIfInBounds_toArray, List.set_cons_zero, List.set_cons_succ, i64_w, i32_w]
        rfl
      refine pure_ (i := 1) (N := some 49) (v := ?_) (a' := ?_) #[true, true, false, false, false, false, false, false, false, false, false, false, false, false, false, false, false, false, false, false, false] rfl rfl (by kernel_rfl) (fun _ _ _ h => h) (Or.inl ⟨by rfl, ?_⟩) ?_ ?_
      rotate_left
      · intro w'
        go_simp
        with_reducible rfl
      rotate_left
      · simp only [Act.put, List.setIfInBounds_toArray, List.set_cons_zero, List.set_cons_succ, i64_w, i32_w]
        rfl
      refine pure_ (i := 2) (N := some 50) (v := ?_) (a' := ?_) #[true, true, true, false, false, false, false, false, false, false, false, false, false, false, false, false, false, false, false, false, false] rfl rfl (by kernel_rfl) (fun _ _ _ h => h) (Or.inl ⟨by rfl, ?_⟩) ?_ ?_
      rotate_left
      · intro w'
        go_simp
        with_reducible rfl
      rotate_left
      · simp only [Act.put, List.setIfInBounds_toArray, List.set_cons_zero, List.set_cons_succ, i64_w, i32_w]
        rfl
      refine pure_ (i := 4) (N := some 52) (v := ?_) (a' := ?_) #[true, true, true, false, true, false, false, false, false, false, false, false, false, false, false, false, false, false, false, false, false] rfl rfl (by kernel_rfl) (fun _ _ _ h => h) (Or.inl ⟨by rfl, ?_⟩) ?_ ?_
      rotate_left
      · intro w'
        go_simp
        with_reducible rfl
      rotate_left
      · simp only [Act.put, List.setIfInBounds_toArray, List.set_cons_zero, List.set_cons_succ, i64_w, i32_w]
        rfl
      refine pure_ (i := 5) (N := some 53) (v := ?_) (a' := ?_) #[true, true, true, false, true, true, false, false, false, false, false, false, false, false, false, false, false, false, false, false, false] rfl rfl (by kernel_rfl) (fun _ _ _ h => h) (Or.inl ⟨by rfl, ?_⟩) ?_ ?_
      rotate_left
      · intro w'
        go_simp
        with_reducible rfl
      rotate_left
      · simp only [Act.put, List.setIfInBounds_toArray, List.set_cons_zero, List.set_cons_succ, i64_w, i32_w]
        rfl
      refine pure_ (i := 6) (N := some 54) (v := ?_) (a' := ?_) #[true, true, true, false, true, true, true, false, false, false, false, false, false, false, false, false, false, false, false, false, false] rfl rfl (by kernel_rfl) (fun _ _ _ h => h) (Or.inl ⟨by rfl, ?_⟩) ?_ ?_
      rotate_left
      · intro w'
        go_simp
        with_reducible rfl
      rotate_left
      · simp only [Act.put, List.setIfInBounds_toArray, List.set_cons_zero, List.set_cons_succ, i64_w, i32_w]
        rfl
      refine pure_ (i := 8) (N := some 56) (v := ?_) (a' := ?_) #[true, true, true, false, true, true, true, false, true, false, false, false, false, false, false, false, false, false, false, false, false] rfl rfl (by kernel_rfl) (fun _ _ _ h => h) (Or.inl ⟨by rfl, ?_⟩) ?_ ?_
      rotate_left
      · intro w'
        go_simp
        with_reducible rfl
      rotate_left
      · simp only [Act.put, List.setIfInBounds_toArray, List.set_cons_zero, List.set_cons_succ, i64_w, i32_w]
        rfl
      refine pure_ (i := 9) (N := some 57) (v := ?_) (a' := ?_) #[true, true, true, false, true, true, true, false, true, true, false, false, false, false, false, false, false, false, false, false, false] rfl rfl (by kernel_rfl) (fun _ _ _ h => h) (Or.inl ⟨by rfl, ?_⟩) ?_ ?_
      rotate_left
      · intro w'
        go_simp
        with_reducible rfl
      rotate_left
      · simp only [Act.put, List.setIfInBounds_toArray, List.set_cons_zero, List.set_cons_succ, i64_w, i32_w]
        rfl
      refine pure_ (i := 10) (N := some 58) (v := ?_) (a' := ?_) #[true, true, true, false, true, true, true, false, true, true, true, false, false, false, false, false, false, false, false, false, false] rfl rfl (by kernel_rfl) (fun _ _ _ h => h) (Or.inl ⟨by rfl, ?_⟩) ?_ ?_
      rotate_left
      · intro w'
        go_simp
        with_reducible rfl
      rotate_left
      · simp only [Act.put, List.setIfInBounds_toArray, List.set_cons_zero, List.set_cons_succ, i64_w, i32_w]
        rfl
      refine pure_ (i := 13) (N := some 61) (v := ?_) (a' := ?_) #[true, true, true, false, true, true, true, false, true, true, true, false, false, true, false, false, false, false, false, false, false] rfl rfl (by kernel_rfl) (fun _ _ _ h => h) (Or.inl ⟨by rfl, ?_⟩) ?_ ?_
      rotate_left
      · intro w'
        go_simp
        with_reducible rfl
      rotate_left
      · simp only [Act.put, List.setIfInBounds_toArray, List.set_cons_zero, List.set_cons_succ, i64_w, i32_w]
        rfl
      refine pure_ (i := 14) (N := some 62) (v := ?_) (a' := ?_) #[true, true, true, false, true, true, true, false, true, true, true, false, false, true, true, false, false, false, false, false, false] rfl rfl (by kernel_rfl) (fun _ _ _ h => h) (Or.inl ⟨by rfl, ?_⟩) ?_ ?_
      rotate_left
      · intro w'
        go_simp
        with_reducible rfl
      rotate_left
      · simp only [Act.put, List.setIfInBounds_toArray, List.set_cons_zero, List.set_cons_succ, i64_w, i32_w]
        rfl
      refine pure_ (i := 15) (N := some 63) (v := ?_) (a' := ?_) #[true, true, true, false, true, true, true, false, true, true, true, false, false, true, true, true, false, false, false, false, false] rfl rfl (by kernel_rfl) (fun _ _ _ h => h) (Or.inl ⟨by rfl, ?_⟩) ?_ ?_
      rotate_left
      · intro w'
        go_simp
        with_reducible rfl
      rotate_left
      · simp only [Act.put, List.setIfInBounds_toArray, List.set_cons_zero, List.set_cons_succ, i64_w, i32_w]
        rfl
      refine one_ (i := 3) (N := some 51) #[true, true, true, true, true, true, true, false, true, true, true, false, false, true, true, true, false, false, false, false, false] rfl rfl (by kernel_rfl) (by decide) (fun K hK => ?_)
      refine goes_ Try.func19 (by kernel_rfl) rfl #[.slice (some ⟨W.heap.size, 0, none⟩) N N] (by rfl) rfl rfl (by (try simp only [List.map_toArray, List.map_cons, List.map_nil]); first | done | rfl) ?_
      refine (HX.out _ (src_of_block X5.out)).mono ?_
      rintro e w' ⟨rfl, ⟨nX, rfl⟩⟩
      refine ⟨_, rfl, ?_⟩
      clear hHeld
      refine hK.out _ _ (trivial) (fun hHeld => ?_)
      clear hK K
      refine norm_ (a' := ?_) ?_ ?_
      rotate_left
      · show Act.put _ (some 51) _ = _
        simp only [Act.put, List.setIfInBounds_toArray, List.set_cons_zero, List.set_cons_succ, i64_w, i32_w]
        rfl
      refine one_ (i := 7) (N := some 55) #[true, true, true, true, true, true, true, true, true, true, true, false, false, true, true, true, false, false, false, false, false] rfl rfl (by kernel_rfl) (by decide) (fun K hK => ?_)
      refine goes_ Try.func19 (by kernel_rfl) rfl #[.slice A0 N c0] (by rfl) rfl rfl (by (try simp only [List.map_toArray, List.map_cons, List.map_nil]); first | done | rfl) ?_
      refine (HA.out _ (SRA.out.below (pw_below_drewN BL5.out nX))).mono ?_
      rintro e w' ⟨rfl, ⟨nA, rfl⟩⟩
      refine ⟨_, rfl, ?_⟩
      clear hHeld
      refine hK.out _ _ (trivial) (fun hHeld => ?_)
      clear hK K
      refine norm_ (a' := ?_) ?_ ?_
      rotate_left
      · show Act.put _ (some 55) _ = _
        simp only [Act.put, List.setIfInBounds_toArray, List.set_cons_zero, List.set_cons_succ, i64_w, i32_w]
        rfl
      refine one_ (i := 11) (N := some 59) #[true, true, true, true, true, true, true, true, true, true, true, true, false, true, true, true, false, false, false, false, false] rfl rfl (by kernel_rfl) (by decide) (fun K hK => ?_)
      refine goes_ Try.func19 (by kernel_rfl) rfl #[.slice A1 N c1] (by rfl) rfl rfl (by (try simp only [List.map_toArray, List.map_cons, List.map_nil]); first | done | rfl) ?_
      refine (HB.out _ (SRB.out.below (pw_below_drewN (pw_below_drewN BL5.out nX) nA))).mono ?_
      rintro e w' ⟨rfl, ⟨nB, rfl⟩⟩
      refine ⟨_, rfl, ?_⟩
      clear hHeld
      refine hK.out _ _ (trivial) (fun hHeld => ?_)
      clear hK K
      refine norm_ (a' := ?_) ?_ ?_
      rotate_left
      · show Act.put _ (some 59) _ = _
        simp only [Act.put, List.setIfInBounds_toArray, List.set_cons_zero, List.set_cons_succ, i64_w, i32_w]
        rfl
      refine pure_ (i := 12) (N := some 60) (v := ?_) (a' := ?_) #[true, true, true, true, true, true, true, true, true, true, true, true, true, true, true, true, false, false, false, false, false] rfl rfl (by kernel_rfl) (fun _ _ _ h => h) (Or.inl ⟨by rfl, ?_⟩) ?_ ?_
      rotate_left
      · intro w'
        go_simp
        with_reducible rfl
      rotate_left
      · simp only [Act.put, List.setIfInBounds_toArray, List.set_cons_zero, List.set_cons_succ, i64_w, i32_w]
        rfl
      refine one_ (i := 16) (N := some 64) #[true, true, true, true, true, true, true, true, true, true, true, true, true, true, true, true, true, false, false, false, false] rfl rfl (by kernel_rfl) (by decide) (fun K hK => ?_)
      refine goes_ Try.func19 (by kernel_rfl) rfl #[.slice A2 N c2] (by rfl) rfl rfl (by (try simp only [List.map_toArray, List.map_cons, List.map_nil]); first | done | rfl) ?_
      refine (HC.out _ (SRC.out.below (pw_below_drewN (pw_below_drewN (pw_below_drewN BL5.out nX) nA) nB))).mono ?_
      rintro e w' ⟨rfl, ⟨nC, rfl⟩⟩
      refine ⟨_, rfl, ?_⟩
      clear hHeld
      refine hK.out _ _ (trivial) (fun hHeld => ?_)
      clear hK K
      refine norm_ (a' := ?_) ?_ ?_
      rotate_left
      · show Act.put _ (some 64) _ = _
        simp only [Act.put, List.setIfInBounds_toArray, List.set_cons_zero, List.set_cons_succ, i64_w, i32_w]
        rfl
      refine pure_ (i := 17) (N := some 65) (v := ?_) (a' := ?_) #[true, true, true, true, true, true, true, true, true, true, true, true, true, true, true, true, true, true, false, false, false] rfl rfl (by kernel_rfl) (fun _ _ _ h => h) (Or.inl ⟨by rfl, ?_⟩) ?_ ?_
      rotate_left
      · intro w'
        go_simp
        with_reducible rfl
      rotate_left
      · simp only [Act.put, List.setIfInBounds_toArray, List.set_cons_zero, List.set_cons_succ, i64_w, i32_w]
        rfl
      refine pure_ (i := 18) (N := some 66) (v := ?_) (a' := ?_) #[true, true, true, true, true, true, true, true, true, true, true, true, true, true, true, true, true, true, true, false, false] rfl rfl (by kernel_rfl) (fun _ _ _ h => h) (Or.inl ⟨by rfl, ?_⟩) ?_ ?_
      rotate_left
      · intro w'
        go_simp
        with_reducible rfl
      rotate_left
      · simp only [Act.put, List.setIfInBounds_toArray, List.set_cons_zero, List.set_cons_succ, i64_w, i32_w]
        rfl
      refine pure_ (i := 19) (N := some 67) (v := ?_) (a' := ?_) #[true, true, true, true, true, true, true, true, true, true, true, true, true, true, true, true, true, true, true, true, false] rfl rfl (by kernel_rfl) (fun _ _ _ h => h) (Or.inl ⟨by rfl, ?_⟩) ?_ ?_
      rotate_left
      · intro w'
        go_simp
        with_reducible rfl
      rotate_left
      · simp only [Act.put, List.setIfInBounds_toArray, List.set_cons_zero, List.set_cons_succ, i64_w, i32_w]
        rfl
      refine pure_ (i := 20) (N := some 6) (v := ?_) (a' := ?_) #[true, true, true, true, true, true, true, true, true, true, true, true, true, true, true, true, true, true, true, true, true] rfl rfl (by kernel_rfl) (fun _ _ _ h => h) (Or.inl ⟨by rfl, ?_⟩) ?_ ?_
      rotate_left
      · intro w'
        go_simp
        with_reducible rfl
      rotate_left
      · simp only [Act.put, List.setIfInBounds_toArray, List.set_cons_zero, List.set_cons_succ, i64_w, i32_w]
        rfl
      refine done_ (by kernel_rfl) ?_
      try go_wp2
      go_ret
      exact ⟨rfl, pw_below_drewN (pw_below_drewN (pw_below_drewN (pw_below_drewN BL5.out nX) nA) nB) nC⟩
theorem law (A0 A1 A2 : Option Addr) (c0 c1 c2 : Nat) (a b c : List Nat) (W : World) (ha : Bytes a) (hb : Bytes b) (hc : Bytes c) (sa : Src W A0 a) (sb : Src W A1 b) (sc : Src W A2 c) (h0 : a.length ≤ c0) (h1 : b.length ≤ c1) (h2 : c.length ≤ c2) (hm0 : a.length ≤ 140737488351232) (hm1 : b.length ≤ 140737488351232) (hm2 : c.length ≤ 140737488351232) :
    Calls Try.prog 6 #[.slice A0 a.length c0, .slice A1 b.length c1, .slice A2 c.length c2] W fun e w' => e = .returned (.bool true) ∧ Below W.heap.size W w' := by
  by_cases hab : b.length < a.length
  · by_cases hcb : c.length < b.length
    · exact linear_d A0 A1 A2 c0 c1 c2 a b c W c.length (by omega) (by omega) (by omega) (by omega) ha hb hc sa sb sc h0 h1 h2 hm0 hm1 hm2 rfl hab hcb
    · exact linear_b A0 A1 A2 c0 c1 c2 a b c W b.length (by omega) (by omega) (by omega) (by omega) ha hb hc sa sb sc h0 h1 h2 hm0 hm1 hm2 rfl hab
  · by_cases hca : c.length < a.length
    · exact linear_c A0 A1 A2 c0 c1 c2 a b c W c.length (by omega) (by omega) (by omega) (by omega) ha hb hc sa sb sc h0 h1 h2 hm0 hm1 hm2 rfl (by omega) hca
    · exact linear_a A0 A1 A2 c0 c1 c2 a b c W a.length (by omega) (by omega) (by omega) (by omega) ha hb hc sa sb sc h0 h1 h2 hm0 hm1 hm2 rfl
end Go.Proofs.Ytbnbpnnpbnpidaa.RSumLinear
namespace Go.Proofs.Ytbnbpnnpbnpidaa.Main
open Go.RowKit Go.Proofs.YtbnbpnnpbnpidaaW.PrintWords Go.Proofs.YtbnbpnnpbnpidaaW.PrintLast Go.Proofs.YtbnbpnnpbnpidaaW.PrintMore Go.Proofs.Ytbnbpnnpbnpidaa.QSumHashes Crc
set_option linter.unusedVariables false
set_option linter.unusedSimpArgs false
theorem SumLinear (W : World) (A0 : Option Addr) (c0 : Nat) (l0 : List Int) (A1 : Option Addr) (c1 : Nat) (l1 : List Int) (A2 : Option Addr) (c2 : Nat) (l2 : List Int) (hC0 : Kd.C (Kd.int .u8) W A0 l0.length l0) (hc0 : l0.length ≤ c0) (hG0 : (fun l => l.length * 1 ≤ 140737488351232 ∧ l.length ≤ 9223372036854775807 ∧ ∀ x ∈ l, (fun x => (Lit.int .u8 x).wf = true) x) l0) (hC1 : Kd.C (Kd.int .u8) W A1 l1.length l1) (hc1 : l1.length ≤ c1) (hG1 : (fun l => l.length * 1 ≤ 140737488351232 ∧ l.length ≤ 9223372036854775807 ∧ ∀ x ∈ l, (fun x => (Lit.int .u8 x).wf = true) x) l1) (hC2 : Kd.C (Kd.int .u8) W A2 l2.length l2) (hc2 : l2.length ≤ c2) (hG2 : (fun l => l.length * 1 ≤ 140737488351232 ∧ l.length ≤ 9223372036854775807 ∧ ∀ x ∈ l, (fun x => (Lit.int .u8 x).wf = true) x) l2) :
    Calls Try.prog 6 #[.slice A0 l0.length c0, .slice A1 l1.length c1, .slice A2 l2.length c2] W fun e w' => e = .returned (.bool true) ∧ Below W.heap.size W w' := by
  obtain ⟨a, rfl, ha⟩ := nats_wf l0 hG0.2.2
  obtain ⟨b, rfl, hb⟩ := nats_wf l1 hG1.2.2
  obtain ⟨c, rfl, hc⟩ := nats_wf l2 hG2.2.2
  have g0 := hG0.1
  have g1 := hG1.1
  have g2 := hG2.1
  rw [ints_length] at g0 g1 g2 hC0 hC1 hC2 hc0 hc1 hc2 ⊢
  rw [ints_length, ints_length]
  exact RSumLinear.law A0 A1 A2 c0 c1 c2 a b c W ha hb hc (Hasher.src_of_C hC0) (Hasher.src_of_C hC1) (Hasher.src_of_C hC2) hc0 hc1 hc2 (by omega) (by omega) (by omega)
end Go.Proofs.Ytbnbpnnpbnpidaa.Main
