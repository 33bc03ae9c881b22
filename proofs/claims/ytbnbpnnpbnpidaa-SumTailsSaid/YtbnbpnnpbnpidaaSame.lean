/- What same tells of equal lists; bytes and sums as whole numbers.
   No condition. -/
import Derived.Test.YtbnbpnnpbnpidaaHasherTwo
namespace Go.Proofs.Ytbnbpnnpbnpidaa.QSumHashes
open Hash Crc
open Go.RowKit Go.Proofs.YtbnbpnnpbnpidaaW.PrintWords Go.Proofs.YtbnbpnnpbnpidaaW.PrintLast Go.Proofs.YtbnbpnnpbnpidaaW.PrintMore
set_option linter.unusedVariables false
set_option linter.unusedSimpArgs false
theorem same_l0 (bs : List Nat) : ∀ (pre : List Nat) (k : Nat), pre.length + bs.length < 4611686018427387904 → bs.length < k → cellarlaw01_same.l0 k (ints (pre ++ bs)) (ints (pre ++ bs)) (pre.length : Int) = some true := by
  induction bs with
  | nil =>
    intro pre k hl hk
    obtain ⟨k, rfl⟩ := Nat.exists_eq_add_of_lt (Nat.zero_lt_of_lt hk)
    simp only [Nat.zero_add, cellarlaw01_same.l0]
    rw [if_neg (by rw [ints_length]; simp)]
  | cons b bs ih =>
    intro pre k hl hk
    simp only [List.length_cons] at hl hk
    obtain ⟨k, rfl⟩ := Nat.exists_eq_add_of_lt (Nat.zero_lt_of_lt hk)
    simp only [Nat.zero_add, cellarlaw01_same.l0]
    have hlen : (pre.length : Int) < ((ints (pre ++ b :: bs)).length : Int) := by rw [ints_length, List.length_append, List.length_cons]; omega
    rw [if_pos hlen, if_pos (by omega), if_pos hlen, if_true, cw64 (by omega) (by omega)]
    have h := ih (pre ++ [b]) k (by simp only [List.length_append, List.length_cons, List.length_nil]; omega) (by omega)
    rw [List.append_assoc, List.singleton_append, List.length_append, List.length_singleton] at h
    exact h
theorem same_eq (k : Nat) (bs : List Nat) (hl : bs.length < 4611686018427387904) (hk : bs.length < k) : cellarlaw01_same.f k (ints bs) (ints bs) = some true := by
  unfold cellarlaw01_same.f
  rw [if_pos rfl]
  exact same_l0 bs [] k (by simpa using hl) hk
theorem wf_u8 {x : Int} (h : (Lit.int .u8 x).wf = true) : 0 ≤ x ∧ x < 256 := by
  simp [Lit.wf, IntKind.min, IntKind.max, IntKind.bits, IntKind.signed] at h; omega
theorem nats_wf (l : List Int) (h : ∀ x ∈ l, (Lit.int .u8 x).wf = true) : ∃ b : List Nat, l = ints b ∧ Bytes b := by
  obtain ⟨b, h1, h2, _⟩ := Hasher.nats_of l (fun x hx => wf_u8 (h x hx))
  exact ⟨b, h1, h2⟩
theorem nat_u32 {x : Int} (h : (Lit.int .u32 x).wf = true) : ∃ n : Nat, x = (n : Int) ∧ n < 4294967296 := by
  have := wf_u32 h
  exact ⟨x.toNat, by omega, by omega⟩
theorem crc_walk (A : Option Addr) (n c : Nat) (l : List Nat) (w : World) (hn : l.length = n) (hS : Hasher.Src w A l) (hc : n ≤ c) (hb : Bytes l) (hl : n < 4611686018427387904) : Calls Try.prog 19 #[.slice A n c] w fun e w' => e = .returned (.int .u32 ((ext 0 l : Nat) : Int)) ∧ Drawn0 w w' := by
  subst hn
  have h := sum_Crc.calls (l.length + 20) A c (ints l) ((ext 0 l : Nat) : Int) w (by rw [ints_length]; exact Hasher.C_of_src hS (by omega)) (by rw [ints_length]; exact hc) (crc_eq _ l hb (by omega) (by omega))
  rw [ints_length] at h
  exact h
theorem extend_walk (s : Nat) (A : Option Addr) (n c : Nat) (l : List Nat) (w : World) (hn : l.length = n) (hs : s < 4294967296) (hS : Hasher.Src w A l) (hc : n ≤ c) (hb : Bytes l) (hl : n < 4611686018427387904) : Calls Try.prog 21 #[.int .u32 (s : Int), .slice A n c] w fun e w' => e = .returned (.int .u32 ((ext s l : Nat) : Int)) ∧ Drawn0 w w' := by
  subst hn
  have h := sum_Extend.calls (l.length + 20) (s : Int) A c (ints l) ((ext s l : Nat) : Int) w (by rw [ints_length]; exact Hasher.C_of_src hS (by omega)) (by rw [ints_length]; exact hc) (extend_eq _ s l hs hb (by omega) (by omega))
  rw [ints_length] at h
  exact h
theorem nat_u64 {x : Int} (h : (Lit.int .u64 x).wf = true) : ∃ n : Nat, x = (n : Int) ∧ n < 18446744073709551616 := by
  have : 0 ≤ x ∧ x ≤ 18446744073709551615 := by
    simp [Lit.wf, IntKind.min, IntKind.max, IntKind.bits, IntKind.signed] at h; omega
  exact ⟨x.toNat, by omega, by omega⟩
theorem nat_u16 {x : Int} (h : (Lit.int .u16 x).wf = true) : ∃ n : Nat, x = (n : Int) ∧ n < 65536 := by
  have : 0 ≤ x ∧ x ≤ 65535 := by
    simp [Lit.wf, IntKind.min, IntKind.max, IntKind.bits, IntKind.signed] at h; omega
  exact ⟨x.toNat, by omega, by omega⟩
end Go.Proofs.Ytbnbpnnpbnpidaa.QSumHashes
