/- The plain law of RecordTurned, over the printed functions; and the call.
   No condition. -/
import Derived.Test.YtochhjimahcamaaDecFacts
import Derived.Test.YtochhjimahcamaaRRecordTurnedx
namespace Go.Proofs.Ytochhjimahcamaa.RRecordTurned
open Go.Proofs.Ytochhjimahcamaa.QRecordEncodes
open Geo Crc
open Go.RowKit Go.Proofs.YtochhjimahcamaaW.PrintWords Go.Proofs.YtochhjimahcamaaW.PrintLast Go.Proofs.YtochhjimahcamaaW.PrintMore
set_option linter.unusedVariables false
set_option linter.unusedSimpArgs false

theorem ints_set (l : List Nat) (j v : Nat) : (ints l).set j (v : Int) = ints (l.set j v) := by
  unfold ints; rw [List.map_set]
/-- The bytes differ from what they were by T, laid at a place. -/
def Differ (B B0 : List Nat) (place T : Nat) : Prop := num B = num B0 ^^^ 2 ^ place * T
def Under (T i : Nat) : Prop := T < 2 ^ i
theorem add_w (a b : Nat) (h : a + b < 9000000000000000000) : wrap64 ((a : Int) + (b : Int)) = ((a + b : Nat) : Int) := by
  rw [cw64 (by omega) (by omega)]; exact (Int.natCast_add a b).symm
theorem cut_at (q : Nat) (h : q < 100000000) : wrap64 (24 + wrap64 (Int.tdiv (q : Int) 8)) = ((24 + q / 8 : Nat) : Int) := by
  rw [Int.tdiv_eq_ediv_of_nonneg (by omega), cw64 (n := (q : Int) / 8) (by omega) (by omega), cw64 (by omega) (by omega)]; omega
theorem rem_at (q : Nat) : Int.tmod (q : Int) 8 = ((q % 8 : Nat) : Int) := by rw [Int.tmod_eq_emod_of_nonneg (by omega)]; omega
theorem getD_behind (H B : List Nat) (x : Nat) (hH : H.length = 24) : (H ++ B).getD (24 + x) 0 = B.getD x 0 := by
  rw [List.getD_eq_getElem?_getD, List.getElem?_append_right (by omega), List.getD_eq_getElem?_getD, show 24 + x - H.length = x by omega]
theorem set_behind (H B : List Nat) (x v : Nat) (hH : H.length = 24) : (H ++ B).set (24 + x) v = H ++ B.set x v := by
  rw [List.set_append_right _ _ (by omega), show 24 + x - H.length = x by omega]
theorem getD_byte (B : List Nat) (x : Nat) (hB : Bytes B) (hx : x < B.length) : B.getD x 0 < 256 := by
  rw [List.getD_eq_getElem?_getD, List.getElem?_eq_getElem hx]; exact hB _ (List.getElem_mem hx)
theorem pow_byte (m : Nat) (h : m < 8) : 2 ^ m < 256 := Nat.pow_lt_pow_right (n := 8) (by decide) h
theorem shl_byte (m : Nat) (h : m < 8) : shl .u8 1 (m : Int) = ((2 ^ m : Nat) : Int) := by
  have hp := pow_byte m h
  unfold shl
  rw [Int.toNat_natCast, show min m (IntKind.bits .u8) = m from Nat.min_eq_left (by simp only [IntKind.bits]; omega), Int.one_mul, show (2 : Int) ^ m = ((2 ^ m : Nat) : Int) from (Int.natCast_pow 2 _).symm, IntKind.wrap_u8]
  generalize 2 ^ m = z at hp
  omega
theorem set_bytes (B : List Nat) (x v : Nat) (hB : Bytes B) (hv : v < 256) : Bytes (B.set x v) := fun y hy => by
  rcases List.mem_or_eq_of_mem_set hy with h | h
  · exact hB y h
  · rw [h]; exact hv
theorem differ_step (B B0 : List Nat) (place T i : Nat) (hB : Bytes B) (hj : (place + i) / 8 < B.length) (h : Differ B B0 place T) (hT : Under T i) :
    Differ (B.set ((place + i) / 8) (B.getD ((place + i) / 8) 0 ^^^ 2 ^ ((place + i) % 8))) B0 place (2 ^ i * 1 + T) := by
  have hns := num_set ((place + i) % 8) (Nat.mod_lt _ (by decide)) B ((place + i) / 8) hB hj
  rw [Nat.div_add_mod] at hns
  unfold Differ at h ⊢
  rw [hns, h, Nat.xor_assoc]
  congr 1
  rw [add_xor i 1 T hT, Nat.mul_one]
  apply Nat.eq_of_testBit_eq; intro j
  rw [Nat.pow_add]
  simp only [Nat.testBit_xor, Nat.testBit_two_pow_mul]
  by_cases c : place ≤ j <;> simp [c, Bool.xor_comm]
theorem under_step {T i : Nat} (h : Under T i) : Under (2 ^ i * 1 + T) (i + 1) := by
  unfold Under at h ⊢
  rw [Nat.pow_succ]
  generalize 2 ^ i = z at h
  omega
theorem under_up {T i : Nat} (h : Under T i) : Under T (i + 1) := Nat.lt_of_lt_of_le h (Nat.pow_le_pow_right (by decide) (Nat.le_succ i))
theorem some_bit (i T : Nat) : decide (2 ^ i * 1 + T ≠ 0) = true := by
  have := Nat.two_pow_pos i
  generalize 2 ^ i = z at this
  exact decide_eq_true (by omega)
/-- The law's loop: behind it the bytes differ from what they were by a change of up to 32 bits that lie together; 'changed' tells whether they differ. -/
theorem turn_loop (p s r a : Int) (salt turn : Nat) (H B0 : List Nat) (place : Nat) (hH : H.length = 24) (hbn : B0.length < 1000000) (hpl : place < 8 * B0.length) (m : Nat) :
    ∀ (k i : Nat) (B : List Nat) (T : Nat) (X : Option Bool), i + m = 32 → Bytes B → B.length = B0.length → Differ B B0 place T → Under T i → m < k →
      (∀ (B' : List Nat) (T' k' : Nat), k ≤ k' + m + 1 → Bytes B' → B'.length = B0.length → Differ B' B0 place T' → Under T' 32 →
        ((record_Decode.f k' p s r a (salt : Int) (ints (H ++ B')) 0).bind fun bt => some (decide (T' ≠ 0) == (bt.2.2.2.2.2 == 52))) = X) →
      cellarlaw05_RecordTurned.l0 k (salt : Int) (turn : Int) (ints (H ++ B)) ((8 * B0.length : Nat) : Int) (place : Int) (decide (T ≠ 0)) (i : Int) p s r a = X := by
  induction m with
  | zero =>
    intro k i B T X hi hB hl hT hTi hk hX
    obtain ⟨k, rfl⟩ := Nat.exists_eq_add_of_lt hk
    obtain rfl : i = 32 := hi
    simp only [Nat.zero_add, cellarlaw05_RecordTurned.l0]
    rw [if_neg (by decide)]
    exact hX B T k (by omega) hB hl hT hTi
  | succ m ih =>
    intro k i B T X hi hB hl hT hTi hk hX
    obtain ⟨k, rfl⟩ := Nat.exists_eq_add_of_lt (Nat.zero_lt_of_lt hk)
    simp only [Nat.zero_add, cellarlaw05_RecordTurned.l0]
    have hX2 : ∀ (B' : List Nat) (T' k' : Nat), k ≤ k' + m + 1 → Bytes B' → B'.length = B0.length → Differ B' B0 place T' → Under T' 32 →
        ((record_Decode.f k' p s r a (salt : Int) (ints (H ++ B')) 0).bind fun bt => some (decide (T' ≠ 0) == (bt.2.2.2.2.2 == 52))) = X := fun B' T' k' hk' => hX B' T' k' (by omega)
    clear hX
    have hi32 : (i : Int) < 32 := by omega
    have hskip := ih k (i + 1) B T X (by omega) hB hl hT (under_up hTi) (by omega) hX2
    rw [if_pos hi32, if_pos (Int.natCast_nonneg i), show ((i : Int) + 1) = ((i : Int) + ((1 : Nat) : Int)) from rfl, add_w i 1 (by omega), add_w place i (by omega)]
    by_cases c1 : Int.tmod (shr .u32 (turn : Int) (i : Int)) 2 = 1
    · rw [if_pos c1]
      by_cases c2 : ((place + i : Nat) : Int) < ((8 * B0.length : Nat) : Int)
      · have hq : place + i < 8 * B0.length := Int.ofNat_lt.mp c2
        have hj : (place + i) / 8 < B.length := by omega
        have hbj := getD_byte B _ hB hj
        have hlt : (((24 + (place + i) / 8 : Nat) : Int)) < ((ints (H ++ B)).length : Int) := by rw [ints_length, List.length_append]; omega
        have hm8 : (place + i) % 8 < 8 := Nat.mod_lt _ (by decide)
        rw [if_pos c2, cut_at (place + i) (by omega), rem_at, if_pos (Int.natCast_nonneg _), if_pos hlt, if_pos (Int.natCast_nonneg _), Int.toNat_natCast, rd_getD, Int.toNat_natCast, getD_behind H B _ hH, shl_byte _ hm8,
          u8_xor_nat _ _ hbj (pow_byte _ hm8), ints_set, set_behind H B _ _ hH, ← some_bit i T]
        exact ih k (i + 1) _ (2 ^ i * 1 + T) X (by omega) (set_bytes B _ _ hB (Nat.xor_lt_two_pow (n := 8) hbj (pow_byte _ hm8))) (by rw [List.length_set]; exact hl) (differ_step B B0 place T i hB hj hT hTi) (under_step hTi) (by omega) hX2
      · rw [if_neg c2]; exact hskip
    · rw [if_neg c1]; exact hskip
set_option maxHeartbeats 4000000 in
theorem pure (p s r a salt kind ver : Int) (K V : ByteArray) (at' turn other : Int) (h0 : 0 ≤ salt) (h1 : salt < 4294967296) (h2 : 0 ≤ ver) (h3 : ver < 18446744073709551616) (h4 : 0 ≤ turn) (h5 : turn < 4294967296) (h6 : 0 ≤ other) (h7 : other < 4294967296) :
    ∃ k, cellarlaw05_RecordTurned.f k p s r a salt kind ver K V at' turn other = some true := by
  obtain ⟨salt, rfl⟩ := Int.eq_ofNat_of_zero_le h0
  obtain ⟨ver, rfl⟩ := Int.eq_ofNat_of_zero_le h2
  obtain ⟨turn, rfl⟩ := Int.eq_ofNat_of_zero_le h4
  obtain ⟨other, rfl⟩ := Int.eq_ofNat_of_zero_le h6
  have gen : ∀ N, 300000 ≤ N → cellarlaw05_RecordTurned.f (N + 1) p s r a salt kind ver K V at' turn other = some true := by
    intro N hN
    unfold cellarlaw05_RecordTurned.f
    rw [lives_eq (N + 1) (by omega), encode_eq N p s r a salt ver kind K V (by omega) (by omega) (by omega)]
    simp only [Option.bind_some]
    rw [if_true, ints_length]
    by_cases c : (enc p s r a salt kind ver K V).2 = 0
    · rw [if_pos c]
      obtain ⟨ho, kd, rfl, hkd, hz, he⟩ := enc_ok c
      have hsm := siz_small ho hz
      generalize hB : natsOf K ++ natsOf V = B at he
      have hBb : Bytes B := by rw [← hB]; exact Bytes.append (natsOf_bytes K) (natsOf_bytes V)
      have hBl : B.length = K.size + V.size := by rw [← hB, List.length_append, natsOf_length, natsOf_length]
      rw [he]
      generalize hK : K.size = ks at hsm hz hBl ⊢
      generalize hV : V.size = vs at hsm hz hBl hkd ⊢
      have hC := ext_lt (s := 0) (by decide) (Bytes.append (hdr_bytes kd ks vs ver salt (by omega)) hBb)
      have hlen := laid_length kd ks vs ver salt (ext 0 (hdr kd ks vs ver salt ++ B)) B
      have hlb := laid_bytes kd ks vs ver salt (ext 0 (hdr kd ks vs ver salt ++ B)) B (by omega) hBb
      obtain ⟨j, rfl⟩ : ∃ j, N = j + 2 := ⟨N - 2, by omega⟩
      rw [decide_eq_false (by omega)]
      simp only [cellarlaw05_RecordTurned.j0]
      rw [if_neg (by decide), decode_eq j p s r a other _ 0 hlb (by omega) (by omega) (by omega), Option.bind_some]
      -- what Decode tells at 0
      have dec0 : ∀ (sl sl' c' : Nat) (B' : List Nat), Bytes B' → B'.length = ks + vs → dec p s r a sl (laid kd ks vs ver sl' c' B') 0 =
          if hdr kd ks vs ver sl ++ leb 4 (ext 0 (hdr kd ks vs ver sl ++ B')) = hdr kd ks vs ver sl' ++ leb 4 c' then
            ((kd : Int), (ver : Int), strOfNums (ints (B'.take ks)), strOfNums (ints (B'.drop ks)), ((24 + ks + vs : Nat) : Int), 0) else noA 52 := by
        intro sl sl' c' B' hb' hl'
        have h24 := laid_length kd ks vs ver sl' c' B'
        have ht := decT_laid (p := p) (s := s) (r := r) (a := a) sl sl' kd ks vs ver c' B' [] ho hb' (by omega) (by omega) (by omega) hl' hkd hz
        rw [List.append_nil] at ht
        unfold dec
        rw [if_pos ho, if_neg (by omega), if_neg (by omega), show (0 : Int).toNat = 0 from rfl, laid_head, if_neg (by omega), List.drop_zero, ht]
      have hfirst : (((dec p s r a other (laid kd ks vs ver salt (ext 0 (hdr kd ks vs ver salt ++ B)) B) 0).2.2.2.2.2 == 0) != ((other : Int) == (salt : Int))) = false := by
        rw [dec0 other salt _ B hBb hBl]
        by_cases ce : other = salt
        · subst ce
          rw [if_pos rfl, beq_self_eq_true, beq_self_eq_true]; rfl
        · rw [if_neg]
          · have : ((other : Int) == (salt : Int)) = false := by rw [beq_eq_false_iff_ne]; omega
            rw [this]; rfl
          · intro h
            have h' := congrArg (fun l => (l.drop 16).take 4) h
            have e1 : ∀ (sl x : Nat), ((hdr kd ks vs ver sl ++ leb 4 x).drop 16).take 4 = leb 4 sl := fun _ _ => rfl
            simp only [e1] at h'
            exact ce (leb_inj (by omega) (by omega) h')
      rw [hfirst, if_neg (by decide)]
      have hbits : wrap64 (8 * wrap64 (((laid kd ks vs ver salt (ext 0 (hdr kd ks vs ver salt ++ B)) B).length : Int) - 24)) = ((8 * B.length : Nat) : Int) := by
        rw [hlen, cw64 (n := ((24 + B.length : Nat) : Int) - 24) (by omega) (by omega), cw64 (by omega) (by omega)]; omega
      rw [ints_length, hbits, if_neg (by omega)]
      -- the loop
      have hloop : ∀ place : Nat, place < 8 * B.length → cellarlaw05_RecordTurned.j1 (j + 2) (salt : Int) (turn : Int) (ints (laid kd ks vs ver salt (ext 0 (hdr kd ks vs ver salt ++ B)) B)) ((8 * B.length : Nat) : Int) (place : Int) p s r a = some true := by
        intro place hpl
        simp only [cellarlaw05_RecordTurned.j1]
        refine turn_loop p s r a salt turn (hdr kd ks vs ver salt ++ leb 4 (ext 0 (hdr kd ks vs ver salt ++ B))) B place (head_length _ _ _ _ _ _) (by omega) hpl 32 (j + 1) 0 B 0 (some true) rfl hBb rfl (by unfold Differ; rw [Nat.mul_zero, Nat.xor_zero]) Nat.one_pos (by omega) ?_
        intro B' T' k' hk' hB' hl' hT' hT32
        unfold Differ at hT'
        have hT33 : T' < 4294967296 := hT32
        obtain ⟨i, rfl⟩ : ∃ i, k' = i + 2 := ⟨k' - 2, by omega⟩
        have hd := dec0 salt salt (ext 0 (hdr kd ks vs ver salt ++ B)) B' hB' (by omega)
        have hlb' := laid_bytes kd ks vs ver salt (ext 0 (hdr kd ks vs ver salt ++ B)) B' (by omega) hB'
        have hlen' := laid_length kd ks vs ver salt (ext 0 (hdr kd ks vs ver salt ++ B)) B'
        have hde := decode_eq i p s r a salt (laid kd ks vs ver salt (ext 0 (hdr kd ks vs ver salt ++ B)) B') 0 hlb' (by omega) (by omega) (by omega)
        rw [show hdr kd ks vs ver salt ++ leb 4 (ext 0 (hdr kd ks vs ver salt ++ B)) ++ B' = laid kd ks vs ver salt (ext 0 (hdr kd ks vs ver salt ++ B)) B' from rfl, hde, Option.bind_some, hd]
        by_cases c0 : T' = 0
        · have hBB : B' = B := by
            rw [c0, Nat.mul_zero, Nat.xor_zero] at hT'
            exact num_inj B' B hB' hBb hl'.symm hT'
          rw [hBB, if_pos rfl, decide_eq_false (by omega)]; rfl
        · rw [if_neg, decide_eq_true (by omega)]
          · rfl
          · intro h
            have h' := List.append_cancel_left h
            have hx := leb_inj (m := 4) (Nat.lt_of_lt_of_le (ext_lt (by decide) (Bytes.append (hdr_bytes kd ks vs ver salt (by omega)) hB')) (by decide)) (Nat.lt_of_lt_of_le hC (by decide)) h'
            have hr : reg (4294967295 ^^^ 0) (hdr kd ks vs ver salt ++ B') = reg (4294967295 ^^^ 0) (hdr kd ks vs ver salt ++ B) := by
              have := congrArg (fun x => 4294967295 ^^^ x) hx
              simp only [ext, xor_twice] at this
              exact this
            rw [reg_append, reg_append] at hr
            exact burst _ T' place B B' hBb hB' hl' (by rw [hT', ← Nat.xor_assoc, Nat.xor_self, Nat.zero_xor]) (by omega) hT33 c0 hr.symm
      have hb8 : (0 : Int) < ((8 * B.length : Nat) : Int) := by omega
      by_cases cp : Int.tmod at' ((8 * B.length : Nat) : Int) < 0
      · rw [if_pos cp]
        have hlo : -((8 * B.length : Nat) : Int) < Int.tmod at' ((8 * B.length : Nat) : Int) := by
          have := Int.lt_tmod_of_pos at' hb8; omega
        obtain ⟨place, hpe⟩ := Int.eq_ofNat_of_zero_le (show 0 ≤ wrap64 (Int.tmod at' ((8 * B.length : Nat) : Int) + ((8 * B.length : Nat) : Int)) by rw [cw64 (by omega) (by omega)]; omega)
        rw [hpe]
        refine hloop place ?_
        rw [cw64 (by omega) (by omega)] at hpe
        omega
      · rw [if_neg cp]
        have hhi := Int.tmod_lt_of_pos at' hb8
        obtain ⟨place, hpe⟩ := Int.eq_ofNat_of_zero_le (show 0 ≤ Int.tmod at' ((8 * B.length : Nat) : Int) by omega)
        rw [hpe] at hhi ⊢
        exact hloop place (by omega)
    · rw [if_neg c, enc_bad c]
      simp only [cellarlaw05_RecordTurned.j0]
      rw [if_true]; rfl
  exact ⟨_, gen 300000 (Nat.le_refl _)⟩

end Go.Proofs.Ytochhjimahcamaa.RRecordTurned
namespace Go.Proofs.Ytochhjimahcamaa.Main
open Go.RowKit Go.Proofs.YtochhjimahcamaaW.PrintWords Go.Proofs.YtochhjimahcamaaW.PrintLast Go.Proofs.YtochhjimahcamaaW.PrintMore Go.Proofs.Ytochhjimahcamaa.RRecordTurned Geo Crc
set_option linter.unusedVariables false
set_option linter.unusedSimpArgs false
theorem RecordTurned (W : World) (a0_0 : Int) (a0_1 : Int) (a0_2 : Int) (a0_3 : Int) (a1 : Int) (a2_0 : Int) (a2_1 : Int) (a2_2 : ByteArray) (a2_3 : ByteArray) (a3 : Int) (a4 : Int) (a5 : Int) (w0_0 : (Lit.int .i64 a0_0).wf = true) (w0_1 : (Lit.int .i64 a0_1).wf = true) (w0_2 : (Lit.int .i64 a0_2).wf = true) (w0_3 : (Lit.int .i64 a0_3).wf = true) (w1 : (Lit.int .u32 a1).wf = true) (w2_0 : (Lit.int .i64 a2_0).wf = true) (w2_1 : (Lit.int .u64 a2_1).wf = true) (y2_2 : a2_2.size ≤ 140737488351232) (y2_3 : a2_3.size ≤ 140737488351232) (w3 : (Lit.int .i64 a3).wf = true) (w4 : (Lit.int .u32 a4).wf = true) (w5 : (Lit.int .u32 a5).wf = true) :
    Calls Try.prog 6 #[.agg #[.int .i64 a0_0, .int .i64 a0_1, .int .i64 a0_2, .int .i64 a0_3], .int .u32 a1, .agg #[.int .i64 a2_0, .int .u64 a2_1, .string a2_2, .string a2_3], .int .i64 a3, .int .u32 a4, .int .u32 a5] W fun e w' => e = .returned (.bool true) ∧ Below W.heap.size W w' := by
  obtain ⟨k, h⟩ := pure a0_0 a0_1 a0_2 a0_3 a1 a2_0 a2_1 a2_2 a2_3 a3 a4 a5 (wf_u32 w1).1 (by have := (wf_u32 w1).2; omega) (wf_u64 w2_1).1 (by have := (wf_u64 w2_1).2; omega) (wf_u32 w4).1 (by have := (wf_u32 w4).2; omega) (wf_u32 w5).1 (by have := (wf_u32 w5).2; omega)
  exact cellarlaw05_RecordTurned.calls k a0_0 a0_1 a0_2 a0_3 a1 a2_0 a2_1 a2_2 a2_3 a3 a4 a5 true W h
end Go.Proofs.Ytochhjimahcamaa.Main
