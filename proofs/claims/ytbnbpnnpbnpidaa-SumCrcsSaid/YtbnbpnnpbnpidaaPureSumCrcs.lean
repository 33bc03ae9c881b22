/- The plain law of SumCrcs, over the printed functions.
   No condition. -/
import Derived.Test.YtbnbpnnpbnpidaaRSumCrcsx1
import Derived.Test.YtbnbpnnpbnpidaaSame
namespace Go.Proofs.Ytbnbpnnpbnpidaa.RSumCrcs
open Go.Proofs.Ytbnbpnnpbnpidaa.QSumHashes Hash Crc
open Go.RowKit Go.Proofs.YtbnbpnnpbnpidaaW.PrintWords Go.Proofs.YtbnbpnnpbnpidaaW.PrintLast Go.Proofs.YtbnbpnnpbnpidaaW.PrintMore
set_option linter.unusedVariables false
set_option linter.unusedSimpArgs false
theorem rext_l1 (l : List Int) (j : Int) (m : Nat) : ∀ (k i x : Nat), x < 4294967296 → i + m = 8 → cellarref01_Extend.l1 (k + m + 1) l (x : Int) j (i : Int) = cellarref01_Extend.l0 k l ((csteps m x : Nat) : Int) (wrap64 (j + 1)) := by
  induction m with
  | zero =>
    intro k i x hx hi
    simp only [cellarref01_Extend.l1]
    rw [if_neg (by omega)]; rfl
  | succ m ih =>
    intro k i x hx hi
    rw [show k + (m + 1) + 1 = (k + m + 1) + 1 by omega]
    rw [cellarref01_Extend.l1]
    rw [if_pos (by omega), cw64 (n := (i : Int) + 1) (by omega) (by omega), show ((i : Int) + 1) = ((i + 1 : Nat) : Int) from rfl, Int.tmod_eq_emod_of_nonneg (by omega), Int.tdiv_eq_ediv_of_nonneg (by omega),
      show ((x : Int) / 2 % 4294967296) = ((x / 2 : Nat) : Int) by omega, show (2197175160 : Int) = ((2197175160 : Nat) : Int) from rfl, u32_xor_nat (x / 2) 2197175160 (by omega) (by decide)]
    have hc : csteps (m + 1) x = csteps m (cstep x) := rfl
    have hl := cstep_lt hx
    rw [hc]
    by_cases c : x % 2 = 1
    · rw [if_pos (by omega)]
      have e : cstep x = x / 2 ^^^ 2197175160 := if_pos c
      rw [e] at hl ⊢
      exact ih k (i + 1) _ hl (by omega)
    · rw [if_neg (by omega)]
      have e : cstep x = x / 2 := if_neg c
      rw [e] at hl ⊢
      exact ih k (i + 1) _ hl (by omega)
theorem rext_l0 (bs : List Nat) : ∀ (pre : List Nat) (k x : Nat), x < 4294967296 → Bytes bs → pre.length + bs.length < 4611686018427387904 → 10 * bs.length < k →
    cellarref01_Extend.l0 k (ints (pre ++ bs)) (x : Int) (pre.length : Int) = some ((4294967295 ^^^ reg x bs : Nat) : Int) := by
  induction bs with
  | nil =>
    intro pre k x hx hb hl hk
    obtain ⟨k, rfl⟩ := Nat.exists_eq_add_of_lt (Nat.zero_lt_of_lt hk)
    simp only [Nat.zero_add, cellarref01_Extend.l0]
    rw [if_neg (by rw [ints_length]; simp)]
    exact congrArg some (u32_xor_nat 4294967295 x (by decide) hx)
  | cons b bs ih =>
    intro pre k x hx hb hl hk
    have hb0 := hb b (by simp)
    have hbs : Bytes bs := fun y hy => hb y (by simp [hy])
    simp only [List.length_cons] at hl hk
    obtain ⟨k, rfl⟩ : ∃ k', k = k' + 8 + 1 + 1 := ⟨k - 10, by omega⟩
    rw [cellarref01_Extend.l0]
    rw [if_pos (by rw [ints_length, List.length_append, List.length_cons]; omega), if_pos (by omega), rd_ints, show ((b : Int) % 4294967296) = (b : Int) by omega, u32_xor_nat x b hx (by omega)]
    have h1 := rext_l1 (ints (pre ++ b :: bs)) (pre.length : Int) 8 k 0 (x ^^^ b) (xor32 hx (by omega)) rfl
    rw [show ((0 : Nat) : Int) = 0 from rfl] at h1
    rw [h1, cw64 (by omega) (by omega)]
    have h := ih (pre ++ [b]) k (csteps 8 (x ^^^ b)) (csteps_lt 8 (xor32 hx (by omega))) hbs (by simp only [List.length_append, List.length_cons, List.length_nil]; omega) (by omega)
    rw [List.append_assoc, List.singleton_append, List.length_append, List.length_singleton] at h
    exact h
theorem rext_eq (k s : Nat) (bs : List Nat) (hs : s < 4294967296) (hb : Bytes bs) (hl : bs.length < 4611686018427387904) (hk : 10 * bs.length < k) :
    cellarref01_Extend.f k (s : Int) (ints bs) = some ((ext s bs : Nat) : Int) := by
  unfold cellarref01_Extend.f
  rw [show (4294967295 : Int) = ((4294967295 : Nat) : Int) from rfl, u32_xor_nat 4294967295 s (by decide) hs]
  have h := rext_l0 bs [] k (4294967295 ^^^ s) (xor32 (by decide) hs) hb (by simpa using hl) hk
  simp only [List.nil_append, List.length_nil] at h
  exact h
theorem rcrc_eq (k : Nat) (bs : List Nat) (hb : Bytes bs) (hl : bs.length < 4611686018427387904) (hk : 10 * bs.length < k) : cellarref01_Crc.f k (ints bs) = some ((ext 0 bs : Nat) : Int) := by
  unfold cellarref01_Crc.f
  rw [show (0 : Int) = ((0 : Nat) : Int) from rfl, rext_eq k 0 bs (by decide) hb hl hk]; rfl
theorem pure : cellarlaw01_SumCrcs.Pure := by
  intro a0 l1 h0 _ hl hw
  obtain ⟨b, rfl, hb⟩ := nats_wf l1 hw
  obtain ⟨s, rfl, hs⟩ := nat_u32 h0
  rw [ints_length] at hl
  refine ⟨10 * b.length + 100, ?_⟩
  unfold cellarlaw01_SumCrcs.f cellarlaw01_joined.f cellarlaw01_lives.f
  rw [if_pos (by simp [ints_length]; omega), Option.bind_some, Option.bind_some, if_pos rfl, List.append_nil, crc_eq _ b hb (by omega) (by omega), rcrc_eq _ b hb (by omega) (by omega), Option.bind_some, Option.bind_some, if_pos rfl,
    extend_eq _ s b hs hb (by omega) (by omega), rext_eq _ s b hs hb (by omega) (by omega), Option.bind_some, Option.bind_some, if_pos rfl, same_eq _ _ (by omega) (by omega)]
  rfl
end Go.Proofs.Ytbnbpnnpbnpidaa.RSumCrcs
namespace Go.Proofs.Ytbnbpnnpbnpidaa.Pure
theorem SumCrcs : RSumCrcs.cellarlaw01_SumCrcs.Pure := RSumCrcs.pure
end Go.Proofs.Ytbnbpnnpbnpidaa.Pure
