/- The call of SumHashes: true, whatever the arguments; and the facts that it rests on.
   No condition. -/
import Derived.Test.YtbnbpnnpbnpidaaRHash
import Derived.Test.YtbnbpnnpbnpidaaSame
namespace Go.Proofs.Ytbnbpnnpbnpidaa.RSumHashes
open Go.Proofs.Ytbnbpnnpbnpidaa.QSumHashes Hash Crc Hasher
open Go.RowKit Go.Proofs.YtbnbpnnpbnpidaaW.PrintWords Go.Proofs.YtbnbpnnpbnpidaaW.PrintLast Go.Proofs.YtbnbpnnpbnpidaaW.PrintMore
set_option linter.unusedVariables false
set_option linter.unusedSimpArgs false
theorem own_src {w : World} {base n : Nat} {e : TypeId} {v : Value} {l : List Nat} (h : w.ownsRow base e 1 v n (nums .u8 (ints l))) : ∃ A c, v = .slice A n c ∧ l.length = n ∧ n ≤ c ∧ Src w A l := by
  obtain ⟨hl, h2⟩ := h
  rw [nums_length, ints_length, Nat.mul_one] at hl
  rcases h2 with ⟨rfl, h0⟩ | ⟨g, cap, cur, rfl, _, hg, hn, _, _, ht⟩
  · subst h0
    exact ⟨none, 0, rfl, hl, Nat.le_refl _, fun h => absurd h (by omega)⟩
  · refine ⟨_, _, rfl, hl, hn, fun _ => ⟨g, 0, rfl, fun j hj => ?_⟩⟩
    rw [cell_of_row w g (0 + j) _ e _ hg, Nat.zero_add]
    have h3 : (cur.toList.take (n * 1))[j]? = some (.int .u8 ((l.getD j 0 : Nat) : Int)) := by
      rw [ht, nums, ints, List.getElem?_map, List.getElem?_map, List.getElem?_eq_getElem hj, List.getD_eq_getElem?_getD, List.getElem?_eq_getElem hj]; rfl
    rw [List.getElem?_take_of_lt (by omega)] at h3
    rw [← Array.getElem?_toList]; exact h3
theorem joined_nil (A : Option Addr) (c : Nat) (l : List Nat) (w : World) (hC : Src w A l) (hc : l.length ≤ c) (hl : l.length ≤ 281474976710656) :
    Calls Try.prog 17 #[.slice A l.length c, .slice none 0 0] w fun e w' => (∃ A' c', e = .returned (.slice A' l.length c') ∧ l.length ≤ c' ∧ Src w' A' l) ∧ Below w.heap.size w w' := by
  have h := joined_walk A none c 0 (ints l) [] w (by rw [ints_length]; exact C_of_src hC (by omega)) (by rw [ints_length]; exact hc) ⟨rfl, by decide, fun h => absurd h (by decide)⟩ (Nat.zero_le _) (by rw [ints_length]; simpa using hl)
  rw [ints_length] at h
  refine h.mono ?_
  rintro e w' ⟨v, rfl, ho, hb⟩
  rw [List.append_nil] at ho
  obtain ⟨A', c', rfl, _, h2, h3⟩ := own_src ho
  exact ⟨⟨A', c', rfl, h2, h3⟩, hb⟩
theorem same_walk (A B : Option Addr) (c d : Nat) (l : List Nat) (w : World) (hA : Src w A l) (hB : Src w B l) (hc : l.length ≤ c) (hd : l.length ≤ d) (hl : l.length < 4611686018427387904) :
    Calls Try.prog 23 #[.slice A l.length c, .slice B l.length d] w fun e w' => e = .returned (.bool true) ∧ Drawn0 w w' := by
  have h := cellarlaw01_same.calls (l.length + 1) A c (ints l) B d (ints l) true w (by rw [ints_length]; exact C_of_src hA (by omega)) (by rw [ints_length]; exact hc) (by rw [ints_length]; exact C_of_src hB (by omega)) (by rw [ints_length]; exact hd) (same_eq _ l hl (by omega))
  rw [ints_length] at h
  exact h
set_option maxHeartbeats 2000000 in
set_option maxRecDepth 100000 in
theorem law (seed : Nat) (hs : seed < 18446744073709551616) (A : Option Addr) (c : Nat) (l : List Nat) (W : World) (hC : Src W A l) (hc : l.length ≤ c) (hl : Bytes l) (hn : l.length ≤ 140737488351232) :
    Calls Try.prog 7 #[.int .u64 (seed : Int), .slice A l.length c] W fun e w' => e = .returned (.bool true) ∧ Below W.heap.size W w' := by
  have h1 := hash_walk seed hs A c l
  have h2 := fun (B : Option Addr) (d : Nat) => rhash_walk seed hs B d l
  obtain ⟨H, hH⟩ : ∃ H, hashN seed l = H := ⟨_, rfl⟩
  rw [hH] at h1
  have h2 : ∀ (B : Option Addr) (d : Nat) (w : World), Src w B l → l.length ≤ d → Bytes l → l.length < 4611686018427387904 → Calls Try.prog 25 #[.int .u64 (seed : Int), .slice B l.length d] w fun e w' => e = .returned (.int .u64 (H : Int)) ∧ Below w.heap.size w w' := fun B d w => hH ▸ h2 B d w
  have K1 := Aside0.mk h1
  have K2 := Aside0.mk h2
  have HL := Aside0.mk hl
  have HS := Aside0.mk hC
  have HC := Aside0.mk hc
  have HN := Aside0.mk hn
  clear h1 h2 hH hl hC hc hn hs
  go_enter Try.func7, Try.ntmps7
  go_wp2_with (first
    | (go_at_call 17; refine (joined_nil A c l W HS.out HC.out (by have := HN.out; omega)).mono ?_; rintro e w1 ⟨⟨A', c', rfl, hc1, hs1⟩, hb⟩; have HC1 := Aside0.mk hc1; have HS1 := Aside0.mk hs1; have HB1 := Aside0.mk hb; clear hc1 hs1 hb)
    | (go_at_call 18; refine (Hasher.lives_walk w1).mono ?_; rintro e w2 ⟨rfl, hb⟩; have HB2 := Aside0.mk (below_step HB1.out hb); have HS2 := Aside0.mk (HS1.out.below hb); clear hb)
    | (go_at_call 24; refine (K1.out w2 (HS.out.below HB2.out) HC.out HL.out (by have := HN.out; omega)).mono ?_; rintro e w3 ⟨rfl, hb⟩; have HB3 := Aside0.mk (below_step HB2.out hb); have HS3 := Aside0.mk (HS2.out.below hb); clear hb)
    | (go_at_call 25; refine (K2.out A' c' w3 HS3.out HC1.out HL.out (by have := HN.out; omega)).mono ?_; rintro e w4 ⟨rfl, hb⟩; have HB4 := Aside0.mk (below_step HB3.out hb); have HS4 := Aside0.mk (HS3.out.below hb); clear hb)
    | (go_at_call 23; refine (same_walk A A' c c' l w4 (HS.out.below HB4.out) HS4.out HC.out HC1.out (by have := HN.out; omega)).mono ?_; rintro e w5 ⟨rfl, ⟨m, rfl⟩⟩))
  go_ret
  exact ⟨rfl, pw_below_drewN HB4.out _⟩
end Go.Proofs.Ytbnbpnnpbnpidaa.RSumHashes
namespace Go.Proofs.Ytbnbpnnpbnpidaa.Main
open Go.RowKit Go.Proofs.YtbnbpnnpbnpidaaW.PrintWords Go.Proofs.YtbnbpnnpbnpidaaW.PrintLast Go.Proofs.YtbnbpnnpbnpidaaW.PrintMore Go.Proofs.Ytbnbpnnpbnpidaa.QSumHashes Crc
set_option linter.unusedVariables false
set_option linter.unusedSimpArgs false
theorem SumHashes (W : World) (a0 : Int) (A1 : Option Addr) (c1 : Nat) (l1 : List Int) (w0 : (Lit.int .u64 a0).wf = true) (hC1 : Kd.C (Kd.int .u8) W A1 l1.length l1) (hc1 : l1.length ≤ c1) (hG1 : (fun l => l.length * 1 ≤ 140737488351232 ∧ l.length ≤ 9223372036854775807 ∧ ∀ x ∈ l, (fun x => (Lit.int .u8 x).wf = true) x) l1) :
    Calls Try.prog 7 #[.int .u64 a0, .slice A1 l1.length c1] W fun e w' => e = .returned (.bool true) ∧ Below W.heap.size W w' := by
  obtain ⟨s, rfl, hs⟩ := nat_u64 w0
  obtain ⟨b, rfl, hb⟩ := nats_wf l1 hG1.2.2
  have g1 := hG1.1
  rw [ints_length] at g1 hC1 hc1 ⊢
  exact RSumHashes.law s hs A1 c1 b W (Hasher.src_of_C hC1) hc1 hb (by omega)
end Go.Proofs.Ytbnbpnnpbnpidaa.Main
