/- What Decode tells, of whatever bytes, and of what Encode gave.
   No condition. -/
import Derived.Test.YtochhjimahcamaaEncFacts
namespace Go.Proofs.Ytochhjimahcamaa.QRecordEncodes
open Geo Crc
open Go.RowKit Go.Proofs.YtochhjimahcamaaW.PrintWords Go.Proofs.YtochhjimahcamaaW.PrintLast Go.Proofs.YtochhjimahcamaaW.PrintMore
set_option linter.unusedVariables false
set_option linter.unusedSimpArgs false

theorem num_le8 (l : List Nat) (h : Bytes l) (hl : l.length ≤ 8) : num l < 18446744073709551616 :=
  Nat.lt_of_lt_of_le (num_lt l h) (Nat.le_trans (Nat.pow_le_pow_right (by decide) hl) (by decide))
theorem shl8 (b i : Nat) (hb : b < 256) (hi : i < 8) : shl .u64 (IntKind.u64.wrap (b : Int)) (wrap64 (8 * (i : Int))) = ((2 ^ (8 * i) * b : Nat) : Int) := by
  have hp : 2 ^ (8 * i) ≤ 2 ^ 56 := Nat.pow_le_pow_right (by decide) (by omega)
  have hm : 2 ^ (8 * i) * b ≤ 2 ^ 56 * 255 := Nat.mul_le_mul hp (by omega)
  rw [u64w (by omega), cw64 (by omega) (by omega)]
  unfold shl
  rw [show (8 * (i : Int)).toNat = 8 * i by omega, show min (8 * i) (IntKind.bits .u64) = 8 * i from Nat.min_eq_left (by simp only [IntKind.bits]; omega), show (2 : Int) ^ (8 * i) = ((2 ^ (8 * i) : Nat) : Int) from (Int.natCast_pow 2 (8 * i)).symm, ← Int.natCast_mul, Nat.mul_comm]
  exact u64w (Nat.lt_of_le_of_lt hm (by decide))
theorem number_l0 (bs : List Nat) : ∀ (pre : List Nat) (k : Nat), Bytes pre → Bytes bs → pre.length + bs.length ≤ 8 → bs.length < k →
    record_number.l0 k ((num pre : Nat) : Int) (ints (pre ++ bs)) ((pre.length + bs.length : Nat) : Int) (pre.length : Int) = some ((num (pre ++ bs) : Nat) : Int) := by
  induction bs with
  | nil =>
    intro pre k hp hb hl hk
    obtain ⟨k, rfl⟩ := Nat.exists_eq_add_of_lt (Nat.zero_lt_of_lt hk)
    simp only [Nat.zero_add, record_number.l0]
    rw [if_neg (by simp), List.append_nil]
  | cons b bs ih =>
    intro pre k hp hb hl hk
    have hb0 := hb b (by simp)
    have hbs : Bytes bs := fun y hy => hb y (by simp [hy])
    simp only [List.length_cons] at hl hk ⊢
    obtain ⟨k, rfl⟩ := Nat.exists_eq_add_of_lt (Nat.zero_lt_of_lt hk)
    simp only [Nat.zero_add, record_number.l0]
    have hpn := num_lt pre hp
    rw [show 256 ^ pre.length = 2 ^ (8 * pre.length) by rw [show 256 = 2 ^ 8 from rfl, ← Nat.pow_mul]] at hpn
    have hpm : 2 ^ (8 * pre.length) * b < 18446744073709551616 :=
      Nat.lt_of_le_of_lt (Nat.mul_le_mul (Nat.pow_le_pow_right (n := 2) (by decide) (show 8 * pre.length ≤ 56 by omega)) (show b ≤ 255 by omega)) (by decide)
    have hp8 := num_le8 pre hp (by omega)
    rw [if_pos (by omega), if_pos (by omega), if_pos (by rw [ints_length, List.length_append, List.length_cons]; omega), if_pos (by rw [cw64 (by omega) (by omega)]; omega), rd_ints, shl8 b pre.length hb0 (by omega), u64_or_nat _ _ hp8 hpm, cw64 (by omega) (by omega)]
    have hor : num pre ||| 2 ^ (8 * pre.length) * b = num (pre ++ [b]) := by
      rw [Nat.or_comm, ← Nat.two_pow_add_eq_or_of_lt hpn, num_append]
      simp only [num, Nat.mul_zero, Nat.add_zero]
      rw [show 256 ^ pre.length = 2 ^ (8 * pre.length) by rw [show 256 = 2 ^ 8 from rfl, ← Nat.pow_mul]]
      omega
    have h := ih (pre ++ [b]) k (Bytes.append hp (fun y hy => by rcases List.mem_singleton.1 hy with rfl; exact hb0)) hbs (by simp only [List.length_append, List.length_cons, List.length_nil]; omega) (by omega)
    rw [List.append_assoc, List.singleton_append, List.length_append, List.length_singleton] at h
    rw [hor, show ((pre.length : Int) + 1) = ((pre.length + 1 : Nat) : Int) from rfl, show pre.length + (bs.length + 1) = pre.length + 1 + bs.length by omega]
    exact h
theorem number_eq (k : Nat) (bs : List Nat) (hb : Bytes bs) (hl : bs.length ≤ 8) (hk : 8 < k) : record_number.f k (ints bs) = some ((num bs : Nat) : Int) := by
  unfold record_number.f
  have h := number_l0 bs [] k (fun _ h => by cases h) hb (by simpa using hl) (by omega)
  simp only [List.nil_append, List.length_nil, Nat.zero_add] at h
  rw [ints_length]
  exact h
theorem ints_take (n : Nat) (l : List Nat) : (ints l).take n = ints (l.take n) := by simp [ints, List.map_take]
theorem ints_drop (n : Nat) (l : List Nat) : (ints l).drop n = ints (l.drop n) := by simp [ints, List.map_drop]
theorem bytes_take {l : List Nat} (h : Bytes l) (n : Nat) : Bytes (l.take n) := fun b hb => h b (List.mem_of_mem_take hb)
theorem bytes_drop {l : List Nat} (h : Bytes l) (n : Nat) : Bytes (l.drop n) := fun b hb => h b (List.mem_of_mem_drop hb)
theorem natsOf_str {l : List Nat} (h : Bytes l) : natsOf (strOfNums (ints l)) = l := by
  unfold natsOf
  rw [strOfNums_data]
  unfold ints
  rw [List.map_map, List.map_map]
  refine (List.map_congr_left (g := fun n => n) fun n hn => ?_).trans (List.map_id' _)
  have := h n hn
  simp only [Function.comp, Int.toNat_natCast]
  exact UInt8.toNat_ofNat_of_lt' this
theorem str_natsOf (s : ByteArray) : strOfNums (ints (natsOf s)) = s := by
  have : (strOfNums (ints (natsOf s))).data.toList = s.data.toList := by
    rw [strOfNums_data]
    unfold ints natsOf
    rw [List.map_map, List.map_map]
    refine (List.map_congr_left (g := fun n => n) fun n hn => ?_).trans (List.map_id' _)
    simp
  cases s with | mk d =>
  simp only [strOfNums] at this ⊢
  congr 1
  exact Array.toList_inj.mp this
theorem str_size (l : List Nat) : (strOfNums (ints l)).size = l.length := by rw [strOfNums_size, ints_length]
theorem equal_eq (a b : List Nat) (ha : Bytes a) (hb : Bytes b) : bytes_Equal.f (ints a) (ints b) = some (decide (a = b)) := by
  unfold bytes_Equal.f
  rw [Go.ByteArray.toList_eq, Go.ByteArray.toList_eq]
  refine congrArg some ?_
  rw [Bool.eq_iff_iff, beq_iff_eq, decide_eq_true_iff]
  constructor
  · intro h
    rw [← natsOf_str ha, ← natsOf_str hb]
    unfold natsOf
    rw [h]
  · intro h; rw [h]
/-- The record that begins some bytes: kind, version, key, value and size. -/
def keyN (bs : List Nat) : Nat := num ((bs.take 4).drop 2)
def valN (bs : List Nat) : Nat := num ((bs.take 8).drop 4)
def verN (bs : List Nat) : Nat := num ((bs.take 16).drop 8)
theorem begun_no (k : Nat) (bs : List Nat) (hb : Bytes bs) (hl : bs.length < 4611686018427387904) (hk : 8 < k) (h : bs.length < 24 ∨ bs.length < 24 + keyN bs + valN bs) :
    record_begun.f k (ints bs) = some (0, 0, (⟨#[]⟩ : ByteArray), (⟨#[]⟩ : ByteArray), 0, false) := by
  unfold record_begun.f
  by_cases c : bs.length < 24
  · rw [if_pos (by rw [ints_length]; omega)]
  · have h1 : keyN bs < 65536 := Nat.lt_of_lt_of_le (num_lt _ (bytes_drop (bytes_take hb 4) 2)) (by rw [List.length_drop, List.length_take, Nat.min_eq_left (by omega)]; decide)
    have h2 : valN bs < 4294967296 := Nat.lt_of_lt_of_le (num_lt _ (bytes_drop (bytes_take hb 8) 4)) (by rw [List.length_drop, List.length_take, Nat.min_eq_left (by omega)]; decide)
    rw [if_neg (by rw [ints_length]; omega), if_pos (by decide), if_pos (by rw [ints_length]; omega), ints_take, ints_drop, number_eq k _ (bytes_drop (bytes_take hb 4) 2) (by rw [List.length_drop, List.length_take]; omega) hk, Option.bind_some, if_pos (by decide), if_pos (by rw [ints_length]; omega),
      ints_take, ints_drop, number_eq k _ (bytes_drop (bytes_take hb 8) 4) (by rw [List.length_drop, List.length_take]; omega) hk, Option.bind_some, show num ((bs.take 4).drop 2) = keyN bs from rfl, show num ((bs.take 8).drop 4) = valN bs from rfl,
      cw64 (n := (keyN bs : Int)) (by omega) (by omega), cw64 (n := (valN bs : Int)) (by omega) (by omega), cw64 (n := 24 + (keyN bs : Int)) (by omega) (by omega), cw64 (n := 24 + (keyN bs : Int) + (valN bs : Int)) (by omega) (by omega), if_pos (by rw [ints_length]; omega)]
theorem begun_yes (k : Nat) (bs : List Nat) (hb : Bytes bs) (hl : bs.length < 4611686018427387904) (hk : 8 < k) (h : 24 + keyN bs + valN bs ≤ bs.length) :
    record_begun.f k (ints bs) = some (((bs.getD 0 0 : Nat) : Int), ((verN bs : Nat) : Int), strOfNums (ints ((bs.take (24 + keyN bs)).drop 24)), strOfNums (ints ((bs.take (24 + keyN bs + valN bs)).drop (24 + keyN bs))), ((24 + keyN bs + valN bs : Nat) : Int), true) := by
  unfold record_begun.f
  have h1 : keyN bs < 65536 := Nat.lt_of_lt_of_le (num_lt _ (bytes_drop (bytes_take hb 4) 2)) (by rw [List.length_drop, List.length_take, Nat.min_eq_left (by omega)]; decide)
  have h2 : valN bs < 4294967296 := Nat.lt_of_lt_of_le (num_lt _ (bytes_drop (bytes_take hb 8) 4)) (by rw [List.length_drop, List.length_take, Nat.min_eq_left (by omega)]; decide)
  have h3 : bs.getD 0 0 < 256 := by
    cases bs with
    | nil => simp at h
    | cons b l => exact hb b (by simp)
  have h4 : rd (ints bs) 0 = ((bs.getD 0 0 : Nat) : Int) := by
    cases bs with
    | nil => rfl
    | cons b l => rfl
  rw [if_neg (by rw [ints_length]; omega), if_pos (by decide), if_pos (by rw [ints_length]; omega), ints_take, ints_drop, number_eq k _ (bytes_drop (bytes_take hb 4) 2) (by rw [List.length_drop, List.length_take]; omega) hk, Option.bind_some, if_pos (by decide), if_pos (by rw [ints_length]; omega),
    ints_take, ints_drop, number_eq k _ (bytes_drop (bytes_take hb 8) 4) (by rw [List.length_drop, List.length_take]; omega) hk, Option.bind_some, show num ((bs.take 4).drop 2) = keyN bs from rfl, show num ((bs.take 8).drop 4) = valN bs from rfl,
    cw64 (n := (keyN bs : Int)) (by omega) (by omega), cw64 (n := (valN bs : Int)) (by omega) (by omega), cw64 (n := 24 + (keyN bs : Int)) (by omega) (by omega), cw64 (n := 24 + (keyN bs : Int) + (valN bs : Int)) (by omega) (by omega), if_neg (by rw [ints_length]; omega),
    if_pos (by rw [ints_length]; omega), if_pos (by decide), if_pos (by rw [ints_length]; omega), ints_take, ints_drop, number_eq k _ (bytes_drop (bytes_take hb 16) 8) (by rw [List.length_drop, List.length_take]; omega) hk, Option.bind_some,
    if_pos (by omega), if_pos (by rw [ints_length]; omega), if_pos (by omega), if_pos (by omega), if_pos (by rw [ints_length]; omega), h4, cw64 (n := ((bs.getD 0 0 : Nat) : Int)) (by omega) (by omega),
    show (24 + (keyN bs : Int)).toNat = 24 + keyN bs by omega, show (24 + (keyN bs : Int) + (valN bs : Int)).toNat = 24 + keyN bs + valN bs by omega, ints_take, ints_drop, ints_take, ints_drop]
  rfl
theorem recs_bytes (kind key val ver salt : Nat) (K V : List Nat) (h : kind < 256) (hK : Bytes K) (hV : Bytes V) : Bytes (recs kind key val ver salt K V) :=
  Bytes.append (Bytes.append (hdr_bytes kind key val ver salt h) (leb_bytes _ _)) (Bytes.append hK hV)
theorem enc_bytes (p s r a : Int) (salt : Nat) (kind : Int) (ver : Nat) (K V : ByteArray) : Bytes (enc p s r a salt kind ver K V).1 := by
  have none : Bytes [] := fun _ h => by cases h
  unfold enc
  by_cases h : Ok p s r a
  · rw [if_pos h]
    by_cases c : (kind = 1 ∨ kind = 2) ∧ ¬ (kind = 2 ∧ V.size ≠ 0)
    · rw [if_pos c]
      by_cases c0 : (siz p s r a K.size V.size).2 = 0
      · rw [if_pos c0]; exact recs_bytes _ _ _ _ _ _ _ (by omega) (natsOf_bytes K) (natsOf_bytes V)
      · rw [if_neg c0]; exact none
    · rw [if_neg c]; exact none
  · rw [if_neg h]; exact none
/-- The key and the value of what begins. -/
def keyS (t : List Nat) : ByteArray := strOfNums (ints ((t.take (24 + keyN t)).drop 24))
def valS (t : List Nat) : ByteArray := strOfNums (ints ((t.take (24 + keyN t + valN t)).drop (24 + keyN t)))
abbrev Ans := Int × Int × ByteArray × ByteArray × Int × Int
def noA (e : Int) : Ans := (0, 0, (⟨#[]⟩ : ByteArray), (⟨#[]⟩ : ByteArray), 0, e)
/-- What Decode answers of bytes t that it has begun to read. -/
def decT (p s r a : Int) (salt : Nat) (t : List Nat) : Ans :=
  if t.length < 24 + keyN t + valN t then noA 52
  else if enc p s r a salt ((t.getD 0 0 : Nat) : Int) (verN t) (keyS t) (valS t) = (t.take (24 + keyN t + valN t), 0) then
    (((t.getD 0 0 : Nat) : Int), ((verN t : Nat) : Int), keyS t, valS t, ((24 + keyN t + valN t : Nat) : Int), 0)
  else noA 52
/-- What Decode answers. -/
def dec (p s r a : Int) (salt : Nat) (bs : List Nat) (x : Int) : Ans :=
  if Ok p s r a then (if x < 0 ∨ x > bs.length then noA 1 else if x = bs.length then noA 53 else if bs.getD x.toNat 0 = 255 then noA 53 else decT p s r a salt (bs.drop x.toNat)) else noA 20
theorem rd_getD (bs : List Nat) (x : Int) : rd (ints bs) x = ((bs.getD x.toNat 0 : Nat) : Int) := by
  unfold rd ints
  rw [List.getD_eq_getElem?_getD, List.getElem?_map, List.getD_eq_getElem?_getD]
  cases bs[x.toNat]? <;> rfl
theorem decode_j0 (k : Nat) (p s r a : Int) (salt : Nat) (bs : List Nat) (x : Int) (hb : Bytes bs) (hl : bs.length < 4611686018427387904) (hs : salt < 4294967296) (hk : 263000 ≤ k) (ho : Ok p s r a) (hx : 0 ≤ x) (hx2 : x ≤ bs.length) :
    record_Decode.j0 (k + 2) (salt : Int) (ints bs) x false p s r a 0 0 (⟨#[]⟩ : ByteArray) (⟨#[]⟩ : ByteArray) = some (dec p s r a salt bs x) := by
  rw [record_Decode.j0]
  unfold dec
  rw [if_pos ho, if_neg (show ¬ (x < 0 ∨ x > bs.length) by omega), if_neg (by decide), ints_length]
  by_cases c1 : x = bs.length
  · rw [if_pos c1, if_pos c1]; rfl
  · rw [if_neg c1, if_neg c1, if_pos (by omega), if_pos (by omega), rd_getD]
    by_cases c2 : bs.getD x.toNat 0 = 255
    · rw [if_pos (by omega), if_pos c2]; rfl
    · rw [if_neg (by omega), if_neg c2, if_pos (by omega), ints_drop]
      have ht : (bs.drop x.toNat).length = bs.length - x.toNat := List.length_drop
      have hbt := bytes_drop hb x.toNat
      generalize htt : bs.drop x.toNat = t at ht hbt
      unfold decT
      by_cases c3 : t.length < 24 + keyN t + valN t
      · rw [begun_no (k + 1) t hbt (by omega) (by omega) (.inr c3), if_pos c3]; rfl
      · rw [begun_yes (k + 1) t hbt (by omega) (by omega) (by omega), if_neg c3]
        simp only [Option.bind_some]
        have hv : verN t < 18446744073709551616 := num_le8 _ (bytes_drop (bytes_take hbt 16) 8) (by rw [List.length_drop, List.length_take]; omega)
        rw [if_true, show strOfNums (ints ((t.take (24 + keyN t)).drop 24)) = keyS t from rfl, show strOfNums (ints ((t.take (24 + keyN t + valN t)).drop (24 + keyN t))) = valS t from rfl, encode_eq k p s r a salt (verN t) _ (keyS t) (valS t) hs hv hk]
        simp only [Option.bind_some]
        by_cases c4 : (enc p s r a salt ((t.getD 0 0 : Nat) : Int) (verN t) (keyS t) (valS t)).2 = 0
        · rw [if_pos c4, cw64 (by omega) (by omega), if_pos (by omega), if_pos (by omega), ints_take, ints_drop,
            show (bs.take (x + ((24 + keyN t + valN t : Nat) : Int)).toNat).drop x.toNat = t.take (24 + keyN t + valN t) by (rw [List.drop_take, htt]; congr 1; omega),
            equal_eq _ _ (enc_bytes _ _ _ _ _ _ _ _ _) (bytes_take hbt _), Option.bind_some]
          by_cases c5 : (enc p s r a salt ((t.getD 0 0 : Nat) : Int) (verN t) (keyS t) (valS t)).1 = t.take (24 + keyN t + valN t)
          · rw [decide_eq_true c5, if_pos rfl, if_pos (Prod.ext c5 c4)]
          · rw [decide_eq_false c5, if_neg (by decide), if_neg (fun h => c5 (congrArg Prod.fst h))]; rfl
        · rw [if_neg c4, if_neg (fun h => c4 (congrArg Prod.snd h))]; rfl
theorem decode_eq (k : Nat) (p s r a : Int) (salt : Nat) (bs : List Nat) (x : Int) (hb : Bytes bs) (hl : bs.length < 4611686018427387904) (hs : salt < 4294967296) (hk : 263000 ≤ k) :
    record_Decode.f (k + 2) p s r a (salt : Int) (ints bs) x = some (dec p s r a salt bs x) := by
  unfold record_Decode.f
  rw [show k + 2 = k + 1 + 1 from rfl, check_eq (k + 1)]
  unfold chk
  by_cases ho : Ok p s r a
  · rw [if_pos ho]
    simp only [Option.bind_some, if_true]
    by_cases c1 : x < 0
    · rw [if_pos c1]
      unfold dec
      rw [if_pos ho, if_pos (.inl c1)]
      simp only [record_Decode.j0]; rw [if_true]; rfl
    · rw [if_neg c1, ints_length]
      by_cases c2 : x > bs.length
      · unfold dec
        rw [decide_eq_true c2, if_pos ho, if_pos (.inr c2)]
        simp only [record_Decode.j0]; rw [if_true]; rfl
      · rw [decide_eq_false c2]
        exact decode_j0 k p s r a salt bs x hb hl hs hk ho (by omega) (by omega)
  · rw [if_neg ho]
    unfold dec
    rw [if_neg ho]; rfl

/-- Bytes that begin as a record of these sizes. -/
def laid (kind ks vs ver salt c : Nat) (B : List Nat) : List Nat := hdr kind ks vs ver salt ++ leb 4 c ++ B
theorem laid_length (kind ks vs ver salt c : Nat) (B : List Nat) : (laid kind ks vs ver salt c B).length = 24 + B.length := by simp only [laid, List.length_append, hdr_length, leb_length]
theorem laid_head (kind ks vs ver salt c : Nat) (B : List Nat) : (laid kind ks vs ver salt c B).getD 0 0 = kind := rfl
theorem laid_key (kind ks vs ver salt c : Nat) (B : List Nat) (h : ks < 65536) : keyN (laid kind ks vs ver salt c B) = ks := by
  have : ((laid kind ks vs ver salt c B).take 4).drop 2 = leb 2 ks := rfl
  unfold keyN; rw [this, num_leb]; exact Nat.mod_eq_of_lt h
theorem laid_val (kind ks vs ver salt c : Nat) (B : List Nat) (h : vs < 4294967296) : valN (laid kind ks vs ver salt c B) = vs := by
  have : ((laid kind ks vs ver salt c B).take 8).drop 4 = leb 4 vs := rfl
  unfold valN; rw [this, num_leb]; exact Nat.mod_eq_of_lt h
theorem laid_ver (kind ks vs ver salt c : Nat) (B : List Nat) (h : ver < 18446744073709551616) : verN (laid kind ks vs ver salt c B) = ver := by
  have : ((laid kind ks vs ver salt c B).take 16).drop 8 = leb 8 ver := rfl
  unfold verN; rw [this, num_leb]; exact Nat.mod_eq_of_lt h
theorem head_length (kind ks vs ver salt c : Nat) : (hdr kind ks vs ver salt ++ leb 4 c).length = 24 := by simp [hdr_length, leb_length]
theorem laid_drop (kind ks vs ver salt c : Nat) (B : List Nat) (n : Nat) : (laid kind ks vs ver salt c B).drop (24 + n) = B.drop n := by
  unfold laid
  rw [List.drop_append, head_length, List.drop_eq_nil_of_le (by rw [head_length]; omega), List.nil_append, show 24 + n - 24 = n by omega]
theorem laid_keyS (kind ks vs ver salt c : Nat) (B : List Nat) (h : ks < 65536) : keyS (laid kind ks vs ver salt c B) = strOfNums (ints (B.take ks)) := by
  unfold keyS
  rw [laid_key _ _ _ _ _ _ _ h, List.drop_take, show 24 + ks - 24 = ks by omega]
  have := laid_drop kind ks vs ver salt c B 0
  rw [Nat.add_zero, List.drop_zero] at this
  rw [this]
theorem laid_valS (kind ks vs ver salt c : Nat) (B : List Nat) (h : ks < 65536) (h2 : vs < 4294967296) : valS (laid kind ks vs ver salt c B) = strOfNums (ints ((B.drop ks).take vs)) := by
  unfold valS
  rw [laid_key _ _ _ _ _ _ _ h, laid_val _ _ _ _ _ _ _ h2, List.drop_take, laid_drop, show 24 + ks + vs - (24 + ks) = vs by omega]
theorem laid_bytes (kind ks vs ver salt c : Nat) (B : List Nat) (h : kind < 256) (hB : Bytes B) : Bytes (laid kind ks vs ver salt c B) := Bytes.append (Bytes.append (hdr_bytes _ _ _ _ _ h) (leb_bytes _ _)) hB
/-- Decode of such bytes, and of whatever stands behind them. -/
theorem decT_laid {p s r a : Int} (salt salt' kind ks vs ver c : Nat) (B rest : List Nat) (ho : Ok p s r a) (hB : Bytes B) (hk : ks < 65536) (hv : vs < 4294967296) (hver : ver < 18446744073709551616) (hn : B.length = ks + vs)
    (hkind : (kind = 1 ∨ kind = 2) ∧ ¬ (kind = 2 ∧ vs ≠ 0)) (hz : (siz p s r a ks vs).2 = 0) :
    decT p s r a salt (laid kind ks vs ver salt' c B ++ rest) =
      if hdr kind ks vs ver salt ++ leb 4 (ext 0 (hdr kind ks vs ver salt ++ B)) = hdr kind ks vs ver salt' ++ leb 4 c then
        ((kind : Int), (ver : Int), strOfNums (ints (B.take ks)), strOfNums (ints (B.drop ks)), ((24 + ks + vs : Nat) : Int), 0) else noA 52 := by
  have e : laid kind ks vs ver salt' c B ++ rest = laid kind ks vs ver salt' c (B ++ rest) := by unfold laid; rw [List.append_assoc]
  have hlen := laid_length kind ks vs ver salt' c B
  have ht1 : (B ++ rest).take ks = B.take ks := List.take_append_of_le_length (by omega)
  have ht2 : ((B ++ rest).drop ks).take vs = B.drop ks := by
    rw [List.drop_append_of_le_length (by omega), List.take_append_of_le_length (by rw [List.length_drop]; omega), List.take_of_length_le (by rw [List.length_drop]; omega)]
  have htt : (laid kind ks vs ver salt' c (B ++ rest)).take (24 + ks + vs) = laid kind ks vs ver salt' c B := by
    rw [← e, List.take_append_of_le_length (by omega), List.take_of_length_le (by omega)]
  unfold decT
  rw [e, laid_key _ _ _ _ _ _ _ hk, laid_val _ _ _ _ _ _ _ hv, laid_ver _ _ _ _ _ _ _ hver, laid_keyS _ _ _ _ _ _ _ hk, laid_valS _ _ _ _ _ _ _ hk hv, laid_head, ht1, ht2, htt, if_neg (by rw [laid_length, List.length_append]; omega)]
  have hK : (strOfNums (ints (B.take ks))).size = ks := by rw [str_size, List.length_take]; omega
  have hV : (strOfNums (ints (B.drop ks))).size = vs := by rw [str_size, List.length_drop]; omega
  have he : enc p s r a salt (kind : Int) ver (strOfNums (ints (B.take ks))) (strOfNums (ints (B.drop ks))) = (laid kind ks vs ver salt (ext 0 (hdr kind ks vs ver salt ++ B)) B, 0) := by
    unfold enc
    rw [hK, hV, if_pos ho, if_pos (by omega), if_pos hz, natsOf_str (bytes_take hB _), natsOf_str (bytes_drop hB _), Int.toNat_natCast]
    unfold recs laid
    rw [List.take_append_drop]
  rw [he]
  by_cases c1 : hdr kind ks vs ver salt ++ leb 4 (ext 0 (hdr kind ks vs ver salt ++ B)) = hdr kind ks vs ver salt' ++ leb 4 c
  · rw [if_pos c1, if_pos (by unfold laid; rw [c1])]
  · rw [if_neg c1, if_neg (fun h => c1 ?_)]
    have h1 := congrArg Prod.fst h
    exact List.append_cancel_right h1
/-- What Encode gives is such bytes. -/
theorem enc_ok {p s r a : Int} {salt : Nat} {kind : Int} {ver : Nat} {K V : ByteArray} (h : (enc p s r a salt kind ver K V).2 = 0) :
    Ok p s r a ∧ ∃ kd : Nat, kind = (kd : Int) ∧ ((kd = 1 ∨ kd = 2) ∧ ¬ (kd = 2 ∧ V.size ≠ 0)) ∧ (siz p s r a K.size V.size).2 = 0 ∧
      (enc p s r a salt kind ver K V).1 = laid kd K.size V.size ver salt (ext 0 (hdr kd K.size V.size ver salt ++ (natsOf K ++ natsOf V))) (natsOf K ++ natsOf V) := by
  unfold enc at h ⊢
  by_cases ho : Ok p s r a
  · rw [if_pos ho] at h ⊢
    by_cases c : (kind = 1 ∨ kind = 2) ∧ ¬ (kind = 2 ∧ V.size ≠ 0)
    · rw [if_pos c] at h ⊢
      by_cases c0 : (siz p s r a K.size V.size).2 = 0
      · rw [if_pos c0]
        exact ⟨ho, kind.toNat, by omega, by omega, c0, rfl⟩
      · rw [if_neg c0] at h; exact absurd h c0
    · rw [if_neg c] at h; exact absurd h (by decide)
  · rw [if_neg ho] at h; exact absurd h (by decide)
theorem enc_bad {p s r a : Int} {salt : Nat} {kind : Int} {ver : Nat} {K V : ByteArray} (h : (enc p s r a salt kind ver K V).2 ≠ 0) : (enc p s r a salt kind ver K V).1 = [] := by
  unfold enc at h ⊢
  by_cases ho : Ok p s r a
  · rw [if_pos ho] at h ⊢
    by_cases c : (kind = 1 ∨ kind = 2) ∧ ¬ (kind = 2 ∧ V.size ≠ 0)
    · rw [if_pos c] at h ⊢
      by_cases c0 : (siz p s r a K.size V.size).2 = 0
      · rw [if_pos c0] at h; exact absurd rfl h
      · rw [if_neg c0]
    · rw [if_neg c]
  · rw [if_neg ho]
theorem leb_inj {m x y : Nat} (hx : x < 256 ^ m) (hy : y < 256 ^ m) (h : leb m x = leb m y) : x = y := by
  have := congrArg num h
  rw [num_leb, num_leb, Nat.mod_eq_of_lt hx, Nat.mod_eq_of_lt hy] at this
  exact this

end Go.Proofs.Ytochhjimahcamaa.QRecordEncodes
