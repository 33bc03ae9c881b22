/- The plain law of RecordBack, over the printed functions; and the call.
   No condition. -/
import Derived.Test.YtochhjimahcamaaDecFacts
import Derived.Test.YtochhjimahcamaaRRecordBackx
namespace Go.Proofs.Ytochhjimahcamaa.RRecordBack
open Go.Proofs.Ytochhjimahcamaa.QRecordEncodes
open Geo Crc
open Go.RowKit Go.Proofs.YtochhjimahcamaaW.PrintWords Go.Proofs.YtochhjimahcamaaW.PrintLast Go.Proofs.YtochhjimahcamaaW.PrintMore
set_option linter.unusedVariables false
set_option linter.unusedSimpArgs false

theorem ints_of (l : List Int) (h : ∀ x ∈ l, (Lit.int .u8 x).wf = true) : ∃ bs : List Nat, Bytes bs ∧ l = ints bs := by
  refine ⟨l.map Int.toNat, fun b hb => ?_, ?_⟩
  · obtain ⟨x, hx, rfl⟩ := List.mem_map.1 hb
    have := wf_u8 (h x hx); omega
  · unfold ints
    rw [List.map_map]
    refine ((List.map_congr_left (g := fun n => n) fun n hn => ?_).trans (List.map_id' _)).symm
    have := wf_u8 (h n hn)
    simp only [Function.comp]; omega

theorem pure (p s r a salt kind ver : Int) (K V : ByteArray) (pre post : List Nat) (h0 : 0 ≤ salt) (h1 : salt < 4294967296) (h2 : 0 ≤ ver) (h3 : ver < 18446744073709551616) (hpre : Bytes pre) (hpost : Bytes post) (hlp : pre.length ≤ 1048576) (hlq : post.length ≤ 1048576) :
    ∃ k, cellarlaw05_RecordBack.f k p s r a salt kind ver K V (ints pre) (ints post) = some true := by
  obtain ⟨salt, rfl⟩ := Int.eq_ofNat_of_zero_le h0
  obtain ⟨ver, rfl⟩ := Int.eq_ofNat_of_zero_le h2
  have gen : ∀ N, 300000 ≤ N → cellarlaw05_RecordBack.f (N + 3) p s r a salt kind ver K V (ints pre) (ints post) = some true := by
    intro N hN
    unfold cellarlaw05_RecordBack.f
    have he0 := fun M (hM : 263000 ≤ M) => encode_eq M p s r a salt ver kind K V (by omega) (by omega) hM
    rw [lives_eq (N + 3) (by omega), he0 (N + 2) (by omega)]
    simp only [Option.bind_some]
    rw [if_true]
    by_cases c : (enc p s r a salt kind ver K V).2 = 0
    · rw [if_pos c]
      obtain ⟨ho, kd, rfl, hkd, hz, he⟩ := enc_ok c
      have hsm := siz_small ho hz
      have hBb : Bytes (natsOf K ++ natsOf V) := Bytes.append (natsOf_bytes K) (natsOf_bytes V)
      have hBl : (natsOf K ++ natsOf V).length = K.size + V.size := by rw [List.length_append, natsOf_length, natsOf_length]
      have ht1 : (natsOf K ++ natsOf V).take K.size = natsOf K := by rw [List.take_append_of_le_length (by rw [natsOf_length]; omega), List.take_of_length_le (by rw [natsOf_length]; omega)]
      have ht2 : (natsOf K ++ natsOf V).drop K.size = natsOf V := by rw [List.drop_append_of_le_length (by rw [natsOf_length]; omega), List.drop_eq_nil_of_le (by rw [natsOf_length]; omega), List.nil_append]
      have hlen := laid_length kd K.size V.size ver salt (ext 0 (hdr kd K.size V.size ver salt ++ (natsOf K ++ natsOf V))) (natsOf K ++ natsOf V)
      have hlb := laid_bytes kd K.size V.size ver salt (ext 0 (hdr kd K.size V.size ver salt ++ (natsOf K ++ natsOf V))) (natsOf K ++ natsOf V) (by omega) hBb
      have ht := decT_laid (p := p) (s := s) (r := r) (a := a) salt salt kd K.size V.size ver (ext 0 (hdr kd K.size V.size ver salt ++ (natsOf K ++ natsOf V))) (natsOf K ++ natsOf V) post ho hBb (by omega) (by omega) (by omega) hBl hkd hz
      rw [if_pos rfl, ht1, ht2, str_natsOf, str_natsOf] at ht
      rw [he] at he0 ⊢
      have hhead := laid_head kd K.size V.size ver salt (ext 0 (hdr kd K.size V.size ver salt ++ (natsOf K ++ natsOf V))) (natsOf K ++ natsOf V)
      generalize hL : laid kd K.size V.size ver salt (ext 0 (hdr kd K.size V.size ver salt ++ (natsOf K ++ natsOf V))) (natsOf K ++ natsOf V) = L at *
      have hl1 := ints_length pre
      have hl2 := ints_length L
      have hl3 := ints_length post
      rw [List.nil_append, if_pos (by rw [List.length_nil]; omega), ← ints_append, if_pos (by rw [ints_length]; omega), ← ints_append, if_pos (by rw [ints_length, List.length_append]; omega), ints_length,
        decode_eq (N + 1) p s r a salt (pre ++ L ++ post) _ (Bytes.append (Bytes.append hpre hlb) hpost) (by simp only [List.length_append]; omega) (by omega) (by omega), Option.bind_some]
      have hd : dec p s r a salt (pre ++ L ++ post) (pre.length : Int) = ((kd : Int), (ver : Int), K, V, ((24 + K.size + V.size : Nat) : Int), 0) := by
        unfold dec
        have hg : (pre ++ L ++ post).getD pre.length 0 = kd := by
          rw [List.append_assoc, List.getD_eq_getElem?_getD, List.getElem?_append_right (by omega), Nat.sub_self, List.getElem?_append_left (by omega), ← List.getD_eq_getElem?_getD]
          exact hhead
        rw [if_pos ho, if_neg (by simp only [List.length_append]; omega), if_neg (by simp only [List.length_append]; omega), Int.toNat_natCast, hg, if_neg (by omega), List.append_assoc, List.drop_append_of_le_length (by omega), List.drop_eq_nil_of_le (by omega), List.nil_append, ht]
      rw [hd]
      simp only [beq_self_eq_true, Bool.not_true, Bool.or_false, if_true]
      rw [if_neg (by decide)]
      simp only [cellarlaw05_RecordBack.j0]
      rw [ints_length, show (((24 + K.size + V.size : Nat) : Int) != (L.length : Int)) = false by rw [bne_eq_false_iff_eq]; omega, if_neg (by decide), he0 (N + 1) (by omega), Option.bind_some, if_pos c, same_eq _ _ (by omega) (by omega)]
      rfl
    · rw [if_neg c, enc_bad c]; rfl
  exact ⟨_, gen 300000 (Nat.le_refl _)⟩

end Go.Proofs.Ytochhjimahcamaa.RRecordBack
namespace Go.Proofs.Ytochhjimahcamaa.Main
open Go.RowKit Go.Proofs.YtochhjimahcamaaW.PrintWords Go.Proofs.YtochhjimahcamaaW.PrintLast Go.Proofs.YtochhjimahcamaaW.PrintMore Go.Proofs.Ytochhjimahcamaa.RRecordBack Geo Crc
set_option linter.unusedVariables false
set_option linter.unusedSimpArgs false
theorem RecordBack (W : World) (a0_0 : Int) (a0_1 : Int) (a0_2 : Int) (a0_3 : Int) (a1 : Int) (a2_0 : Int) (a2_1 : Int) (a2_2 : ByteArray) (a2_3 : ByteArray) (A3 : Option Addr) (c3 : Nat) (l3 : List Int) (A4 : Option Addr) (c4 : Nat) (l4 : List Int) (w0_0 : (Lit.int .i64 a0_0).wf = true) (w0_1 : (Lit.int .i64 a0_1).wf = true) (w0_2 : (Lit.int .i64 a0_2).wf = true) (w0_3 : (Lit.int .i64 a0_3).wf = true) (w1 : (Lit.int .u32 a1).wf = true) (w2_0 : (Lit.int .i64 a2_0).wf = true) (w2_1 : (Lit.int .u64 a2_1).wf = true) (y2_2 : a2_2.size ≤ 140737488351232) (y2_3 : a2_3.size ≤ 140737488351232) (hC3 : Kd.C (Kd.int .u8) W A3 l3.length l3) (hc3 : l3.length ≤ c3) (hG3 : (fun l => l.length * 1 ≤ 140737488351232 ∧ l.length ≤ 9223372036854775807 ∧ ∀ x ∈ l, (fun x => (Lit.int .u8 x).wf = true) x) l3) (hC4 : Kd.C (Kd.int .u8) W A4 l4.length l4) (hc4 : l4.length ≤ c4) (hG4 : (fun l => l.length * 1 ≤ 140737488351232 ∧ l.length ≤ 9223372036854775807 ∧ ∀ x ∈ l, (fun x => (Lit.int .u8 x).wf = true) x) l4) (hu3 : l3.length ≤ 1048576) (hu4 : l4.length ≤ 1048576) :
    Calls Try.prog 5 #[.agg #[.int .i64 a0_0, .int .i64 a0_1, .int .i64 a0_2, .int .i64 a0_3], .int .u32 a1, .agg #[.int .i64 a2_0, .int .u64 a2_1, .string a2_2, .string a2_3], .slice A3 l3.length c3, .slice A4 l4.length c4] W fun e w' => e = .returned (.bool true) ∧ Below W.heap.size W w' := by
  obtain ⟨b3, hb3, rfl⟩ := ints_of l3 hG3.2.2
  obtain ⟨b4, hb4, rfl⟩ := ints_of l4 hG4.2.2
  rw [ints_length] at hu3 hu4
  obtain ⟨k, h⟩ := pure a0_0 a0_1 a0_2 a0_3 a1 a2_0 a2_1 a2_2 a2_3 b3 b4 (wf_u32 w1).1 (by have := (wf_u32 w1).2; omega) (wf_u64 w2_1).1 (by have := (wf_u64 w2_1).2; omega) hb3 hb4 hu3 hu4
  exact cellarlaw05_RecordBack.calls k a0_0 a0_1 a0_2 a0_3 a1 a2_0 a2_1 a2_2 a2_3 A3 c3 (ints b3) A4 c4 (ints b4) true W hC3 hc3 hC4 hc4 h
end Go.Proofs.Ytochhjimahcamaa.Main
