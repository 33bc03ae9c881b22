/- The call of SumTails: true, whatever the arguments; and the facts that it rests on.
   No condition. -/
import Derived.Test.YtbnbpnnpbnpidaaRSumTailsx1
import Derived.Test.YtbnbpnnpbnpidaaSame
import Derived.StillTailTactics
namespace Go.Proofs.Ytbnbpnnpbnpidaa.RSumTails
open Go.Proofs.Ytbnbpnnpbnpidaa.QSumHashes Hash Crc Hasher
open Go.RowKit Go.Proofs.YtbnbpnnpbnpidaaW.PrintWords Go.Proofs.YtbnbpnnpbnpidaaW.PrintLast Go.Proofs.YtbnbpnnpbnpidaaW.PrintMore
set_option linter.unusedVariables false
set_option linter.unusedSimpArgs false
def backN (x : Nat) : Nat := if x / 2147483648 = 1 then (x ^^^ 2197175160) * 2 % 4294967296 + 1 else x * 2 % 4294967296
def backs : Nat → Nat → Nat
  | 0, x => x
  | m + 1, x => backN (backs m x)
theorem top_off {x : Nat} (hx : x < 4294967296) (h : x / 2147483648 = 1) : x ^^^ 2197175160 < 2147483648 := by
  have h1 : (x ^^^ 2197175160) / 2 ^ 31 = x / 2 ^ 31 ^^^ 2197175160 / 2 ^ 31 := Nat.xor_div_two_pow
  have h2 : x / 2 ^ 31 = 1 := h
  rw [h2] at h1
  have h3 : (x ^^^ 2197175160) / 2147483648 = 0 := h1
  omega
theorem backN_lt {x : Nat} (hx : x < 4294967296) : backN x < 4294967296 := by
  unfold backN
  by_cases h : x / 2147483648 = 1
  · rw [if_pos h]; have := top_off hx h; omega
  · rw [if_neg h]; omega
theorem cstep_backN {x : Nat} (hx : x < 4294967296) : cstep (backN x) = x := by
  unfold backN
  by_cases h : x / 2147483648 = 1
  · rw [if_pos h]
    have := top_off hx h
    obtain ⟨y, hy⟩ : ∃ y, x ^^^ 2197175160 = y := ⟨_, rfl⟩
    rw [hy] at this ⊢
    unfold cstep
    rw [if_pos (by omega), show (y * 2 % 4294967296 + 1) / 2 = y by omega, ← hy, Nat.xor_assoc, Nat.xor_self, Nat.xor_zero]
  · rw [if_neg h]
    unfold cstep
    rw [if_neg (by omega)]; omega
theorem backs_lt {x : Nat} (hx : x < 4294967296) (m : Nat) : backs m x < 4294967296 := by
  induction m with
  | zero => exact hx
  | succ m ih => exact backN_lt ih
theorem csteps_backs {x : Nat} (hx : x < 4294967296) (m : Nat) : csteps m (backs m x) = x := by
  induction m with
  | zero => rfl
  | succ m ih =>
    show csteps m (cstep (backN (backs m x))) = x
    rw [cstep_backN (backs_lt hx m)]; exact ih
theorem back_l0 (z : Nat) (hz : z < 4294967296) (m : Nat) : ∀ (k i : Nat), i + m = 32 → m < k → sum_back.l0 k ((backs i z : Nat) : Int) (i : Int) = some ((backs 32 z : Nat) : Int) := by
  induction m with
  | zero =>
    intro k i hi hk
    obtain ⟨k, rfl⟩ := Nat.exists_eq_add_of_lt hk
    obtain rfl : i = 32 := by omega
    simp only [Nat.zero_add, sum_back.l0]
    rw [if_neg (by omega)]
  | succ m ih =>
    intro k i hi hk
    obtain ⟨k, rfl⟩ := Nat.exists_eq_add_of_lt (Nat.zero_lt_of_lt hk)
    simp only [Nat.zero_add, sum_back.l0]
    have hx := backs_lt hz i
    have hs : backs (i + 1) z = backN (backs i z) := rfl
    have h := ih k (i + 1) (by omega) (by omega)
    rw [hs] at h
    obtain ⟨x, hxe⟩ : ∃ x, backs i z = x := ⟨_, rfl⟩
    rw [hxe] at hx h ⊢
    rw [if_pos (by omega), cw64 (by omega) (by omega)]
    have e1 : ((x : Int) / 2147483648) = ((x / 2147483648 : Nat) : Int) := by omega
    by_cases c : x / 2147483648 = 1
    · rw [if_pos (by omega), e1, c, show (2197175160 : Int) = ((2197175160 : Nat) : Int) from rfl, u32_xor_nat x 2197175160 hx (by decide)]
      have ht := top_off hx c
      unfold backN at h
      rw [if_pos c] at h
      obtain ⟨y, hy⟩ : ∃ y, x ^^^ 2197175160 = y := ⟨_, rfl⟩
      rw [hy] at ht h ⊢
      rw [show ((y : Int) * 2) % 4294967296 = ((y * 2 % 4294967296 : Nat) : Int) by omega, u32_or_nat _ _ (by omega) (by omega)]
      have e2 : y * 2 % 4294967296 ||| 1 = y * 2 % 4294967296 + 1 := by
        rw [show y * 2 % 4294967296 = 2 ^ 1 * y by omega, Nat.two_pow_add_eq_or_of_lt (i := 1) (by decide : 1 < 2 ^ 1)]
      rw [e2]; exact h
    · have c0 : x / 2147483648 = 0 := by omega
      unfold backN at h
      rw [if_neg c] at h
      rw [if_neg (by omega), e1, c0, show ((x : Int) * 2) % 4294967296 = ((x * 2 % 4294967296 : Nat) : Int) by omega, u32_or_nat _ _ (by omega) (by omega), Nat.or_zero]
      exact h
theorem back_walk (y : Int) (x : Nat) (hy : y = (x : Int)) (hx : x < 4294967296) (w : World) : Calls Try.prog 52 #[.int .u32 y] w fun e w' => e = .returned (.int .u32 ((backs 32 x : Nat) : Int)) ∧ Drawn0 w w' := by
  subst hy
  exact sum_back.calls 33 _ _ w (back_l0 x hx 32 33 0 rfl (by decide))
/-- What Tail lays. -/
def word (s t : Nat) : Nat := backs 32 (4294967295 ^^^ t) ^^^ (4294967295 ^^^ s)
theorem word_lt {s t : Nat} (hs : s < 4294967296) (ht : t < 4294967296) : word s t < 4294967296 := xor32 (backs_lt (xor32 (by decide) ht) _) (xor32 (by decide) hs)
theorem num_leb (m : Nat) : ∀ x, x < 256 ^ m → num (leb m x) = x := by
  induction m with
  | zero => intro x hx; simp at hx; subst hx; rfl
  | succ m ih =>
    intro x hx
    simp only [leb, num]
    rw [ih _ (by rw [Nat.pow_succ] at hx; omega)]; omega
theorem tail_sum {s t : Nat} (hs : s < 4294967296) (ht : t < 4294967296) : ext s (leb 4 (word s t)) = t := by
  unfold ext
  rw [reg_num _ _ (leb_bytes _ _), leb_length, num_leb 4 _ (word_lt hs ht)]
  unfold word
  rw [Nat.xor_comm (backs 32 _), ← Nat.xor_assoc, Nat.xor_self, Nat.zero_xor, show 8 * 4 = 32 from rfl, csteps_backs (xor32 (by decide) ht), ← Nat.xor_assoc, Nat.xor_self, Nat.zero_xor]
theorem tail_only {s : Nat} (a b : List Nat) (ha : Bytes a) (hb : Bytes b) (hla : a.length = 4) (hlb : b.length = 4) (h : ext s a = ext s b) : a = b := by
  have h1 : num a = num b := by
    have na : num a < 4294967296 := by have := num_lt a ha; rw [hla] at this; exact this
    have nb : num b < 4294967296 := by have := num_lt b hb; rw [hlb] at this; exact this
    have e : reg (4294967295 ^^^ s) a = reg (4294967295 ^^^ s) b := by
      unfold ext at h
      have := congrArg (fun z => 4294967295 ^^^ z) h
      simpa [← Nat.xor_assoc] using this
    rw [reg_num _ _ ha, reg_num _ _ hb, hla, hlb] at e
    have e2 : csteps 32 (num a ^^^ num b) = 0 := by
      have : csteps (8 * 4) ((4294967295 ^^^ s ^^^ num a) ^^^ (4294967295 ^^^ s ^^^ num b)) = 0 := by rw [csteps_xor, e, Nat.xor_self]
      rw [show (4294967295 ^^^ s ^^^ num a) ^^^ (4294967295 ^^^ s ^^^ num b) = num a ^^^ num b by
        rw [Nat.xor_comm (4294967295 ^^^ s) (num a), Nat.xor_assoc, ← Nat.xor_assoc (4294967295 ^^^ s), Nat.xor_self, Nat.zero_xor]] at this
      exact this
    by_cases c : num a ^^^ num b = 0
    · have c2 := congrArg (fun z => z ^^^ num b) c
      simp only [Nat.xor_assoc, Nat.xor_self, Nat.xor_zero, Nat.zero_xor] at c2
      exact c2
    · exact absurd e2 (csteps_ne 32 (xor32 na nb) c)
  exact num_inj a b ha hb (by omega) h1
/-- The bytes laid so far. -/
def laid (x i : Nat) : List Nat := (List.range 4).map fun j => if j < i then x / 256 ^ j % 256 else 0
theorem laid_length (x i : Nat) : (laid x i).length = 4 := by simp [laid]
theorem laid_four (x : Nat) : laid x 4 = leb 4 x := by
  show [x / 256 ^ 0 % 256, x / 256 ^ 1 % 256, x / 256 ^ 2 % 256, x / 256 ^ 3 % 256] = [x % 256, x / 256 % 256, x / 256 / 256 % 256, x / 256 / 256 / 256 % 256]
  rw [Nat.div_div_eq_div_mul, Nat.div_div_eq_div_mul]
  simp
theorem laid_set (x i : Nat) (hi : i < 4) : (laid x i).set i (x / 256 ^ i % 256) = laid x (i + 1) := by
  rcases (show i = 0 ∨ i = 1 ∨ i = 2 ∨ i = 3 by omega) with rfl | rfl | rfl | rfl <;> rfl
def fcells (l : List Nat) : Array Value := (nums .u8 (ints l)).toArray
theorem fcells_set (l : List Nat) (i v : Nat) : (fcells l).setIfInBounds i (.int .u8 (v : Int)) = fcells (l.set i v) := by
  unfold fcells
  rw [List.setIfInBounds_toArray]
  congr 1
  simp [nums, ints, List.map_set]
theorem fcells_size (l : List Nat) : (fcells l).size = l.length := by simp [fcells, nums, ints]
theorem fcells_one (l : List Nat) : (fcells l).all (·.oneCell') = true := by
  unfold fcells
  rw [List.all_toArray, List.all_eq_true]
  intro v hv
  obtain ⟨x, _, rfl⟩ := List.mem_map.1 hv; rfl
set_option maxHeartbeats 1000000 in
set_option maxRecDepth 100000 in
theorem tail_walk (s t : Nat) (hs : s < 4294967296) (ht : t < 4294967296) (w : World) : Calls Try.prog 34 #[.int .u32 (s : Int), .int .u32 (t : Int)] w fun e w' => e = .returned (.agg (fcells (leb 4 (word s t)))) ∧ Below w.heap.size w w' := by
  have v1 : Go.bits .xor .u32 IntKind.u32.max (t : Int) = ((4294967295 ^^^ t : Nat) : Int) := u32_xor_nat 4294967295 t (by decide) ht
  have v2 : Go.bits .xor .u32 IntKind.u32.max (s : Int) = ((4294967295 ^^^ s : Nat) : Int) := u32_xor_nat 4294967295 s (by decide) hs
  have v3 : Go.bits .xor .u32 ((backs 32 (4294967295 ^^^ t) : Nat) : Int) ((4294967295 ^^^ s : Nat) : Int) = ((word s t : Nat) : Int) := u32_xor_nat _ _ (backs_lt (xor32 (by decide) ht) _) (xor32 (by decide) hs)
  have hb := fun (w : World) => back_walk ((4294967295 ^^^ t : Nat) : Int) (4294967295 ^^^ t) rfl (xor32 (by decide) ht) w
  have hwl := word_lt hs ht
  obtain ⟨x, hx⟩ : ∃ x, word s t = x := ⟨_, rfl⟩
  obtain ⟨b1, hb1⟩ : ∃ b, backs 32 (4294967295 ^^^ t) = b := ⟨_, rfl⟩
  obtain ⟨t1, ht1⟩ : ∃ b, 4294967295 ^^^ t = b := ⟨_, rfl⟩
  obtain ⟨s1, hs1⟩ : ∃ b, 4294967295 ^^^ s = b := ⟨_, rfl⟩
  rw [ht1] at v1 hb1 hb v3
  rw [hs1] at v2 v3
  rw [hb1] at v3 hb
  rw [hx] at v3 hwl ⊢
  clear hx hb1 ht1 hs1 hs ht
  have HB := Aside0.mk hb
  have HWL := Aside0.mk hwl
  clear hb hwl
  go_enter Try.func34, Try.ntmps34
  go_wp2_with fail
  refine (HB.out _).mono ?_
  rintro e w1 ⟨rfl, ⟨m, rfl⟩⟩
  go_wp2_with fail
  obtain ⟨w2, hw2⟩ : ∃ z, z = ((w.alloc (Obj.cells #[.int .u8 0, .int .u8 0, .int .u8 0, .int .u8 0] 47)).drewN m).alloc (Obj.cells #[.int .u8 0, .int .u8 0, .int .u8 0, .int .u8 0] 47) := ⟨_, rfl⟩
  rw [← hw2]
  have hsz : ((w.alloc (Obj.cells #[.int .u8 0, .int .u8 0, .int .u8 0, .int .u8 0] 47)).drewN m).heap.size = w.heap.size + 1 := by
    show (w.heap.push _).size = _
    simp
  have HO : Aside0 (w2.heap[w.heap.size + 1]? = some (.cells (fcells (laid x 0)) 47 (0, 0))) := ⟨by rw [hw2, ← hsz]; exact blk_new _ _⟩
  have HR : Aside0 (w2.heap[w.heap.size]? = some (.cells #[.int .u8 0, .int .u8 0, .int .u8 0, .int .u8 0] 47 (0, 0))) := ⟨by rw [hw2]; exact blk_alloc (blk_drewN (blk_new _ _) m) _⟩
  have HBW : Aside0 (Below w.heap.size w w2) := ⟨by rw [hw2]; exact below_alloc (pw_below_drewN (below_alloc (Below.refl _ w) _) m) _⟩
  clear hw2 hsz
  obtain ⟨g1, hg1⟩ : ∃ g, g = w.heap.size := ⟨_, rfl⟩
  obtain ⟨g2, hg2⟩ : ∃ g, g = w.heap.size + 1 := ⟨_, rfl⟩
  rw [← hg2] at HO ⊢
  rw [← hg1] at HR ⊢
  have HNE : Aside0 (w.heap.size ≤ g1 ∧ g1 ≠ g2 ∧ w.heap.size ≤ g2) := ⟨by omega⟩
  rw [hg1]
  rw [← hg1]
  clear hg1 hg2
  go_loopw [14] (fun v wx => ∃ i : Nat, i ≤ 4 ∧ v = .int .i64 (i : Int) ∧ Aside0 (wx.heap[g2]? = some (.cells (fcells (laid x i)) 47 (0, 0))) ∧ Aside0 (w2.grownBy wx (some g2))) (fun v _ => 4 - (intOf v).toNat)
  case atStart => exact ⟨0, by omega, rfl, HO, ⟨grown_refl _ _⟩⟩
  case round =>
    clear HO
    obtain ⟨i, hi, rfl, HO, HG⟩ := hrel
    by_cases hlt : i < 4
    · have hcell : wr.cell? ⟨g2, i, none⟩ = some (.int .u8 (((laid x i).getD i 0 : Nat) : Int)) := by
        rw [blk_cell HO.out]
        unfold fcells
        rw [List.getElem?_toArray, nums, ints, List.getElem?_map, List.getElem?_map, List.getElem?_eq_getElem (by rw [laid_length]; omega), List.getD_eq_getElem?_getD, List.getElem?_eq_getElem (by rw [laid_length]; omega)]; rfl
      have hfz := blk_frozen HO.out i
      have hv : (x : Int) / 2 ^ (8 * i) % 256 = ((x / 256 ^ i % 256 : Nat) : Int) := by
        rw [show (256 : Nat) ^ i = 2 ^ (8 * i) by rw [Nat.pow_mul], Int.natCast_emod, Int.natCast_ediv, Int.natCast_pow]; rfl
      have HPUT := Aside0.mk (blk_put HO.out i (.int .u8 ((x : Int) / 2 ^ (8 * i) % 256)) (cs' := fcells (laid x (i + 1))) (by rw [hv, fcells_set, laid_set x i hlt]))
      clear hv
      have b0 : (0 : Int) ≤ (i : Int) := by omega
      have b1 : (i : Int) < 4 := by omega
      have b2 : (i : Int).toNat = i := by omega
      have m8 : IntKind.i64.wrap (8 * (i : Int)) = ((8 * i : Nat) : Int) := IntWalk.i64_in _ (by omega)
      have m80 : (0 : Int) ≤ ((8 * i : Nat) : Int) := by omega
      go_wp2
      go_roundw
      case rel => exact ⟨i + 1, by omega, by go_num, ⟨HPUT.out⟩, ⟨grown_set HG.out _ _⟩⟩
      case measure => simp [intOf]; omega
    · obtain rfl : i = 4 := by omega
      rw [laid_four] at HO
      have HR2 := Aside0.mk (blk_grown HR.out HG.out (fun e => HNE.out.2.1 (by injection e)))
      obtain ⟨F, hF⟩ : ∃ F, fcells (leb 4 x) = F := ⟨_, rfl⟩
      have HF1 : Aside0 (F.size = 4) := ⟨by rw [← hF, fcells_size, leb_length]⟩
      have HF2 : Aside0 (F.all (·.oneCell') = true) := ⟨by rw [← hF]; exact fcells_one _⟩
      rw [hF] at HO
      have HF := Aside0.mk hF
      clear hF
      go_wp2_with (first
        | (refine wpList_load_row rfl 47 (.tmp 6) rfl g2 rfl 47 F (0, 0) _ HO.out Try.underlying47 rfl (by rw [HF1.out]; kernel_rfl) ?_)
        | (refine wpList_store_row rfl 47 (.tmp 4) (.tmp 25) rfl g1 F rfl rfl 47 _ HR2.out (by rw [HF1.out]; kernel_rfl) (by rw [HF1.out]; rfl) HF2.out ?_))
      have hres := setRow_heap wr g1 _ F 47 (0, 0) HR2.out
      refine bodyPost_ret (results_cell_row rfl _ _ g1 47 F (0, 0) _ rfl hres Try.underlying47 rfl (by rw [HF1.out]; kernel_rfl)) rfl ?_
      refine ⟨by rw [HF.out], Below.grown (Below.grown HBW.out HG.out HBW.out.size (fun k hk => by injection hk with hk; have := HNE.out; omega)) ⟨rfl, rfl, rfl, by simp, fun k _ hk => setRow_other _ _ k _ (fun e => hk (by rw [e]))⟩ (Below.grown HBW.out HG.out HBW.out.size (fun k hk => by injection hk with hk; have := HNE.out; omega)).size (fun k hk => by injection hk with hk; have := HNE.out; omega)⟩
theorem rext_l1 (l : List Int) (j : Int) (m : Nat) : ∀ (k i x : Nat), x < 4294967296 → i + m = 8 → cellarref01_Extend.l1 (k + m + 1) l (x : Int) j (i : Int) = cellarref01_Extend.l0 k l ((csteps m x : Nat) : Int) (wrap64 (j + 1)) := by
  induction m with
  | zero =>
    intro k i x hx hi
    simp only [cellarref01_Extend.l1]
    rw [if_neg (by omega)]; rfl
  | succ m ih =>
    intro k i x hx hi
    rw [show k + (m + 1) + 1 = (k + m + 1) + 1 by omega]
    rw [cellarref01_Extend.l1]
    rw [if_pos (by omega), cw64 (n := (i : Int) + 1) (by omega) (by omega), show ((i : Int) + 1) = ((i + 1 : Nat) : Int) from rfl, Int.tmod_eq_emod_of_nonneg (by omega), Int.tdiv_eq_ediv_of_nonneg (by omega),
      show ((x : Int) / 2 % 4294967296) = ((x / 2 : Nat) : Int) by omega, show (2197175160 : Int) = ((2197175160 : Nat) : Int) from rfl, u32_xor_nat (x / 2) 2197175160 (by omega) (by decide)]
    have hc : csteps (m + 1) x = csteps m (cstep x) := rfl
    have hl := cstep_lt hx
    rw [hc]
    by_cases c : x % 2 = 1
    · rw [if_pos (by omega)]
      have e : cstep x = x / 2 ^^^ 2197175160 := if_pos c
      rw [e] at hl ⊢
      exact ih k (i + 1) _ hl (by omega)
    · rw [if_neg (by omega)]
      have e : cstep x = x / 2 := if_neg c
      rw [e] at hl ⊢
      exact ih k (i + 1) _ hl (by omega)
theorem rext_l0 (bs : List Nat) : ∀ (pre : List Nat) (k x : Nat), x < 4294967296 → Bytes bs → pre.length + bs.length < 4611686018427387904 → 10 * bs.length < k →
    cellarref01_Extend.l0 k (ints (pre ++ bs)) (x : Int) (pre.length : Int) = some ((4294967295 ^^^ reg x bs : Nat) : Int) := by
  induction bs with
  | nil =>
    intro pre k x hx hb hl hk
    obtain ⟨k, rfl⟩ := Nat.exists_eq_add_of_lt (Nat.zero_lt_of_lt hk)
    simp only [Nat.zero_add, cellarref01_Extend.l0]
    rw [if_neg (by rw [ints_length]; simp)]
    exact congrArg some (u32_xor_nat 4294967295 x (by decide) hx)
  | cons b bs ih =>
    intro pre k x hx hb hl hk
    have hb0 := hb b (by simp)
    have hbs : Bytes bs := fun y hy => hb y (by simp [hy])
    simp only [List.length_cons] at hl hk
    obtain ⟨k, rfl⟩ : ∃ k', k = k' + 8 + 1 + 1 := ⟨k - 10, by omega⟩
    rw [cellarref01_Extend.l0]
    rw [if_pos (by rw [ints_length, List.length_append, List.length_cons]; omega), if_pos (by omega), rd_ints, show ((b : Int) % 4294967296) = (b : Int) by omega, u32_xor_nat x b hx (by omega)]
    have h1 := rext_l1 (ints (pre ++ b :: bs)) (pre.length : Int) 8 k 0 (x ^^^ b) (xor32 hx (by omega)) rfl
    rw [show ((0 : Nat) : Int) = 0 from rfl] at h1
    rw [h1, cw64 (by omega) (by omega)]
    have h := ih (pre ++ [b]) k (csteps 8 (x ^^^ b)) (csteps_lt 8 (xor32 hx (by omega))) hbs (by simp only [List.length_append, List.length_cons, List.length_nil]; omega) (by omega)
    rw [List.append_assoc, List.singleton_append, List.length_append, List.length_singleton] at h
    exact h
theorem rext_eq (k s : Nat) (bs : List Nat) (hs : s < 4294967296) (hb : Bytes bs) (hl : bs.length < 4611686018427387904) (hk : 10 * bs.length < k) :
    cellarref01_Extend.f k (s : Int) (ints bs) = some ((ext s bs : Nat) : Int) := by
  unfold cellarref01_Extend.f
  rw [show (4294967295 : Int) = ((4294967295 : Nat) : Int) from rfl, u32_xor_nat 4294967295 s (by decide) hs]
  have h := rext_l0 bs [] k (4294967295 ^^^ s) (xor32 (by decide) hs) hb (by simpa using hl) hk
  simp only [List.nil_append, List.length_nil] at h
  exact h
theorem rextend_walk (s : Nat) (A : Option Addr) (n c : Nat) (l : List Nat) (w : World) (hn : l.length = n) (hs : s < 4294967296) (hS : Hasher.Src w A l) (hc : n ≤ c) (hb : Bytes l) (hl : n < 4611686018427387904) : Calls Try.prog 22 #[.int .u32 (s : Int), .slice A n c] w fun e w' => e = .returned (.int .u32 ((ext s l : Nat) : Int)) ∧ Drawn0 w w' := by
  subst hn
  have h := cellarref01_Extend.calls (10 * l.length + 20) (s : Int) A c (ints l) ((ext s l : Nat) : Int) w (by rw [ints_length]; exact Hasher.C_of_src hS (by omega)) (by rw [ints_length]; exact hc) (rext_eq _ s l hs hb (by omega) (by omega))
  rw [ints_length] at h
  exact h
theorem part5 (xs : Array Value) (i : Nat) (v : Value) (h : xs[i]? = some v) (w : World) : (part 5 xs i).run Try.prog w = .ok v w := by
  unfold part
  have hu := run_underlying Try.underlying5
  simp [Sem.run_bind, h]
theorem eq_arr (a b c d a' b' c' d' : Int) (w : World) : (Op.equalIn 10000 47 (.agg #[.int .u8 a, .int .u8 b, .int .u8 c, .int .u8 d]) (.agg #[.int .u8 a', .int .u8 b', .int .u8 c', .int .u8 d'])).run Try.prog w = .ok (a == a' && (b == b' && (c == c' && d == d'))) w := by
  show (Op.equalIn (9998 + 1 + 1) 47 _ _).run Try.prog w = _
  generalize 9998 = n
  have hs : (sizeOf 5).run Try.prog w = .ok 1 w := by kernel_rfl
  have e : ∀ (x y : Int) (w : World), (Op.equalIn (n + 1) 5 (.int .u8 x) (.int .u8 y)).run Try.prog w = .ok (x == y) w := fun x y w => run_equalIn_int w n 5 .u8 .u8 x y Try.underlying5
  have p : ∀ (xs : Array Value) (i : Nat) (v : Value), xs[i]? = some v → ∀ w : World, (part 5 xs i).run Try.prog w = .ok v w := fun xs i v h w => part5 xs i v h w
  rw [Op.equalIn]
  simp only [Sem.run_bind, run_underlying Try.underlying47, Result.andThen_ok, hs]
  simp only [Std.Legacy.Range.forIn_eq_forIn_range', List.range', Std.Legacy.Range.size, List.forIn_cons, List.forIn_nil]
  have p0 := p #[.int .u8 a, .int .u8 b, .int .u8 c, .int .u8 d] 0 _ rfl
  have q0 := p #[.int .u8 a', .int .u8 b', .int .u8 c', .int .u8 d'] 0 _ rfl
  have p1 := p #[.int .u8 a, .int .u8 b, .int .u8 c, .int .u8 d] 1 _ rfl
  have q1 := p #[.int .u8 a', .int .u8 b', .int .u8 c', .int .u8 d'] 1 _ rfl
  have p2 := p #[.int .u8 a, .int .u8 b, .int .u8 c, .int .u8 d] 2 _ rfl
  have q2 := p #[.int .u8 a', .int .u8 b', .int .u8 c', .int .u8 d'] 2 _ rfl
  have p3 := p #[.int .u8 a, .int .u8 b, .int .u8 c, .int .u8 d] 3 _ rfl
  have q3 := p #[.int .u8 a', .int .u8 b', .int .u8 c', .int .u8 d'] 3 _ rfl
  clear p
  by_cases h1 : a = a'
  · subst h1
    by_cases h2 : b = b'
    · subst h2
      by_cases h3 : c = c'
      · subst h3
        by_cases h4 : d = d'
        · subst h4
          simp [p0, p1, p2, p3, q0, q1, q2, q3, e, Sem.run_bind]
        · simp [p0, p1, p2, p3, q0, q1, q2, q3, e, Sem.run_bind, h4]
      · simp [p0, p1, p2, p3, q0, q1, q2, q3, e, Sem.run_bind, h3]
    · simp [p0, p1, p2, p3, q0, q1, q2, q3, e, Sem.run_bind, h2]
  · simp [p0, p1, p2, p3, q0, q1, q2, q3, e, Sem.run_bind, h1]
theorem eq_rows (o l : List Nat) (ho : o.length = 4) (hl : l.length = 4) (w : World) : (Op.equalIn 10000 47 (.agg (fcells o)) (.agg (fcells l))).run Try.prog w = .ok (decide (o = l)) w := by
  obtain ⟨a, b, c, d, rfl⟩ := lanes_four ho
  obtain ⟨a', b', c', d', rfl⟩ := lanes_four hl
  have h := eq_arr a b c d a' b' c' d' w
  refine Eq.trans h ?_
  congr 1
  rw [Bool.eq_iff_iff]
  simp
  omega
set_option maxHeartbeats 1000000 in
set_option maxRecDepth 100000 in
theorem law (s t : Nat) (hs : s < 4294967296) (ht : t < 4294967296) (o : List Nat) (ho : o.length = 4) (hb : Bytes o) (W : World) :
    Calls Try.prog 11 #[.int .u32 (s : Int), .int .u32 (t : Int), .agg (fcells o)] W fun e w' => e = .returned (.bool true) ∧ Below W.heap.size W w' := by
  have HS := Aside0.mk hs
  have HT := Aside0.mk ht
  have HO := Aside0.mk ho
  have HB := Aside0.mk hb
  have hts := tail_sum hs ht
  obtain ⟨l, hl⟩ : ∃ l, leb 4 (word s t) = l := ⟨_, rfl⟩
  have HL4 : Aside0 (l.length = 4) := ⟨by rw [← hl, leb_length]⟩
  have HLB : Aside0 (Bytes l) := ⟨by rw [← hl]; exact leb_bytes _ _⟩
  have htw := tail_walk s t hs ht
  rw [hl] at hts htw
  have HTS := Aside0.mk hts
  have HTW := Aside0.mk htw
  have F1 : Aside0 ((fcells l).size = 4) := ⟨by rw [fcells_size]; exact HL4.out⟩
  have F2 : Aside0 ((fcells l).all (·.oneCell') = true) := ⟨fcells_one _⟩
  have F3 : Aside0 ((fcells o).size = 4) := ⟨by rw [fcells_size]; exact HO.out⟩
  have heq := eq_rows o l ho HL4.out
  have hne : o ≠ l → ext s o ≠ t := fun h e => h (tail_only o l hb HLB.out ho HL4.out (e.trans hts.symm))
  have HNE := Aside0.mk hne
  clear hs ht ho hb hts htw hl hne
  obtain ⟨r, hr⟩ : ∃ r, decide (o = l) = r := ⟨_, rfl⟩
  rw [hr] at heq
  have HR := Aside0.mk hr
  clear hr
  go_enter Try.func11, Try.ntmps11
  go_wp2_with fail
  refine (HTW.out _).mono ?_
  rintro e w1 ⟨rfl, hb1⟩
  have hO1 : w1.heap[W.heap.size]? = some (.cells (fcells o) 47 (0, 0)) := blk_below (blk_new _ _) hb1
  have HB1 : Aside0 (Below W.heap.size W w1) := ⟨below_step (below_alloc (Below.refl _ W) _) hb1⟩
  have HO1 := Aside0.mk hO1
  clear hO1 hb1
  go_wp2_with (first
    | (refine wpList_store_row rfl 47 (.tmp 7) (.tmp 10) rfl w1.heap.size (fcells l) rfl rfl 47 _ (heap_alloc_new _ _) (by rw [F1.out]; kernel_rfl) (by rw [F1.out]; rfl) F2.out ?_))
  obtain ⟨w2, hw2⟩ : ∃ z, z = (w1.alloc (Obj.cells #[.int .u8 0, .int .u8 0, .int .u8 0, .int .u8 0] 47)).setRow w1.heap.size (fcells l) := ⟨_, rfl⟩
  have HB2 : Aside0 (Below W.heap.size W w2) := ⟨by
    rw [hw2]
    exact Below.grown (below_alloc HB1.out _) ⟨rfl, rfl, rfl, by simp, fun k _ hk => setRow_other _ _ k _ (fun e => hk (by rw [e]))⟩ (below_alloc HB1.out _).size (fun k hk => by injection hk with hk; have := HB1.out.size; omega)⟩
  have HT2 : Aside0 (w2.heap[w1.heap.size]? = some (.cells (fcells l) 47 (0, 0))) := ⟨by rw [hw2]; exact setRow_heap _ _ _ _ _ _ (heap_alloc_new _ _)⟩
  have HO2 : Aside0 (w2.heap[W.heap.size]? = some (.cells (fcells o) 47 (0, 0))) := ⟨by
    rw [hw2, setRow_other _ _ _ _ (by have := blk_lt HO1.out; omega)]
    exact blk_alloc HO1.out _⟩
  rw [← hw2]
  clear hw2
  refine (Hasher.lives_walk w2).mono ?_
  rintro e w3 ⟨rfl, hb3⟩
  have HB3 := Aside0.mk (below_step HB2.out hb3)
  have hT3 := blk_below HT2.out hb3
  have hO3 := blk_below HO2.out hb3
  have HT3 := Aside0.mk hT3
  have HO3 := Aside0.mk hO3
  clear hb3 hT3 hO3
  go_wp2_with fail
  refine (extend_walk s (some ⟨w1.heap.size, 0, none⟩) 4 4 l w3 HL4.out HS.out (src_of_block HT3.out) (Nat.le_refl _) HLB.out (by decide)).mono ?_
  rintro e w4 ⟨rfl, ⟨n4, rfl⟩⟩
  rw [HTS.out]
  cases r
  case false =>
    have hx : ext s o ≠ t := HNE.out (of_decide_eq_false HR.out)
    have hrw := fun (w : World) (hS : Src w (some ⟨W.heap.size, 0, none⟩) o) => rextend_walk s (some ⟨W.heap.size, 0, none⟩) 4 4 o w HO.out HS.out hS (Nat.le_refl _) HB.out (by decide)
    obtain ⟨y, hy⟩ : ∃ y, ext s o = y := ⟨_, rfl⟩
    rw [hy] at hx hrw
    have HRW := Aside0.mk hrw
    have hyi : ((y : Int) != (t : Int)) = true := by rw [bne_iff_ne]; omega
    clear hx hy hrw
    go_wp2_with (first
      | (refine wpList_load_row rfl 47 (.tmp 5) rfl W.heap.size rfl 47 (fcells o) (0, 0) _ HO3.out Try.underlying47 rfl (by rw [F3.out]; kernel_rfl) ?_)
      | (refine wpList_load_row rfl 47 (.tmp 7) rfl w1.heap.size rfl 47 (fcells l) (0, 0) _ HT3.out Try.underlying47 rfl (by rw [F1.out]; kernel_rfl) ?_))
    refine (HRW.out _ (src_of_block (show (World.drewN _ _).heap[_]? = _ from HO3.out))).mono ?_
    rintro e w5 ⟨rfl, ⟨n5, rfl⟩⟩
    go_wp2_with fail
    go_ret
    exact ⟨rfl, pw_below_drewN HB3.out (n4 + n5)⟩
  case true =>
    go_wp2_with (first
      | (refine wpList_load_row rfl 47 (.tmp 5) rfl W.heap.size rfl 47 (fcells o) (0, 0) _ HO3.out Try.underlying47 rfl (by rw [F3.out]; kernel_rfl) ?_)
      | (refine wpList_load_row rfl 47 (.tmp 7) rfl w1.heap.size rfl 47 (fcells l) (0, 0) _ HT3.out Try.underlying47 rfl (by rw [F1.out]; kernel_rfl) ?_))
    go_ret
    exact ⟨rfl, pw_below_drewN HB3.out n4⟩
end Go.Proofs.Ytbnbpnnpbnpidaa.RSumTails
namespace Go.Proofs.Ytbnbpnnpbnpidaa.Main
open Go.RowKit Go.Proofs.YtbnbpnnpbnpidaaW.PrintWords Go.Proofs.YtbnbpnnpbnpidaaW.PrintLast Go.Proofs.YtbnbpnnpbnpidaaW.PrintMore Go.Proofs.Ytbnbpnnpbnpidaa.QSumHashes Crc
set_option linter.unusedVariables false
set_option linter.unusedSimpArgs false
theorem SumTails (W : World) (a0 : Int) (a1 : Int) (l2 : List Int) (w0 : (Lit.int .u32 a0).wf = true) (w1 : (Lit.int .u32 a1).wf = true) (hL2 : l2.length = 4) (hG2 : (fun l => ∀ x ∈ l, (fun x => (Lit.int .u8 x).wf = true) x) l2) :
    Calls Try.prog 11 #[.int .u32 a0, .int .u32 a1, .agg (nums .u8 l2).toArray] W fun e w' => e = .returned (.bool true) ∧ Below W.heap.size W w' := by
  obtain ⟨s, rfl, hs⟩ := nat_u32 w0
  obtain ⟨t, rfl, ht⟩ := nat_u32 w1
  obtain ⟨b, rfl, hb⟩ := nats_wf l2 hG2
  rw [ints_length] at hL2
  exact RSumTails.law s t hs ht b hL2 hb W
end Go.Proofs.Ytbnbpnnpbnpidaa.Main
