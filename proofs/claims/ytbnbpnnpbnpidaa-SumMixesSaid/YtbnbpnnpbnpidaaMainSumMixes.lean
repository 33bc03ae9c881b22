/- The call of SumMixes: true, whatever the arguments; and the facts that it rests on.
   No condition. -/
import Derived.Test.YtbnbpnnpbnpidaaRSumMixesx1
import Derived.Test.YtbnbpnnpbnpidaaSame
namespace Go.Proofs.Ytbnbpnnpbnpidaa.RSumMixes
open Go.Proofs.Ytbnbpnnpbnpidaa.QSumHashes Hash Crc Hasher
open Go.RowKit Go.Proofs.YtbnbpnnpbnpidaaW.PrintWords Go.Proofs.YtbnbpnnpbnpidaaW.PrintLast Go.Proofs.YtbnbpnnpbnpidaaW.PrintMore
set_option linter.unusedVariables false
set_option linter.unusedSimpArgs false
def Sh (n x : Nat) : Nat := x ^^^ x / 2 ^ n
def Un (n x : Nat) : Nat := x ^^^ (x ^^^ x / 2 ^ n) / 2 ^ n
theorem high_bit {x : Nat} (h : x < 18446744073709551616) (i : Nat) (hi : 64 ≤ i) : x.testBit i = false :=
  Nat.testBit_lt_two_pow (Nat.lt_of_lt_of_le h (by rw [show 18446744073709551616 = 2 ^ 64 by decide]; exact Nat.pow_le_pow_right (by decide) hi))
theorem un_sh (n x : Nat) (hn : 22 ≤ n) (hx : x < 18446744073709551616) : Un n (Sh n x) = x := by
  apply Nat.eq_of_testBit_eq
  intro j
  simp only [Un, Sh, Nat.testBit_xor, Nat.testBit_div_two_pow]
  have e : x.testBit (j + n + n + n) = false := high_bit hx _ (by omega)
  rw [e]
  cases x.testBit j <;> cases x.testBit (j + n) <;> cases x.testBit (j + n + n) <;> rfl
theorem sh_un (n x : Nat) (hn : 22 ≤ n) (hx : x < 18446744073709551616) : Sh n (Un n x) = x := by
  apply Nat.eq_of_testBit_eq
  intro j
  simp only [Un, Sh, Nat.testBit_xor, Nat.testBit_div_two_pow]
  have e : x.testBit (j + n + n + n) = false := high_bit hx _ (by omega)
  rw [e]
  cases x.testBit j <;> cases x.testBit (j + n) <;> cases x.testBit (j + n + n) <;> rfl
theorem sh_lt {n x : Nat} (hx : x < 18446744073709551616) : Sh n x < 18446744073709551616 := xor64 hx (Nat.lt_of_le_of_lt (Nat.div_le_self _ _) hx)
theorem un_lt {n x : Nat} (hx : x < 18446744073709551616) : Un n x < 18446744073709551616 := xor64 hx (Nat.lt_of_le_of_lt (Nat.div_le_self _ _) (sh_lt hx))
def mixN (x : Nat) : Nat := Sh 31 (Sh 27 (Sh 30 x * 13787848793156543929 % 18446744073709551616) * 10723151780598845931 % 18446744073709551616)
def unmixN (z : Nat) : Nat := Un 30 (Un 27 (Un 31 z * 3573116690164977347 % 18446744073709551616) * 10871156337175269513 % 18446744073709551616)
theorem mul_back (y m i : Nat) (hy : y < 18446744073709551616) (h : m * i % 18446744073709551616 = 1) : y * m % 18446744073709551616 * i % 18446744073709551616 = y := by
  rw [Nat.mod_mul_mod, Nat.mul_assoc, Nat.mul_mod, h, Nat.mul_one, Nat.mod_mod, Nat.mod_eq_of_lt hy]
theorem unmix_mix (x : Nat) (hx : x < 18446744073709551616) : unmixN (mixN x) = x := by
  unfold unmixN mixN
  rw [un_sh 31 _ (by decide) (lt64 _), mul_back _ _ _ (sh_lt (lt64 _)) (by decide), un_sh 27 _ (by decide) (lt64 _), mul_back _ _ _ (sh_lt hx) (by decide), un_sh 30 _ (by decide) hx]
theorem mix_unmix (x : Nat) (hx : x < 18446744073709551616) : mixN (unmixN x) = x := by
  unfold unmixN mixN
  rw [sh_un 30 _ (by decide) (lt64 _), mul_back _ _ _ (un_lt (lt64 _)) (by decide), sh_un 27 _ (by decide) (lt64 _), mul_back _ _ _ (un_lt hx) (by decide), sh_un 31 _ (by decide) hx]
theorem mixN_lt (x : Nat) : mixN x < 18446744073709551616 := sh_lt (lt64 _)
theorem unmixN_lt (x : Nat) : unmixN x < 18446744073709551616 := un_lt (lt64 _)
theorem sh_val {x p : Nat} (n : Nat) (hp : p = 2 ^ n) (hx : x < 18446744073709551616) : Go.bits .xor .u64 (x : Int) ((x : Int) / ((p : Nat) : Int)) = ((Sh n x : Nat) : Int) := by
  subst hp
  rw [← Int.natCast_ediv, u64_xor_nat _ _ hx (Nat.lt_of_le_of_lt (Nat.div_le_self _ _) hx)]; rfl
theorem mix_eq (x : Nat) (hx : x < 18446744073709551616) : sum_Mix.f (x : Int) = some ((mixN x : Nat) : Int) := by
  unfold sum_Mix.f mixN
  rw [show (1073741824 : Int) = ((1073741824 : Nat) : Int) from rfl, sh_val 30 (by decide) hx, show (13787848793156543929 : Int) = ((13787848793156543929 : Nat) : Int) from rfl, mulw, show (134217728 : Int) = ((134217728 : Nat) : Int) from rfl, sh_val 27 (by decide) (lt64 _),
    show (10723151780598845931 : Int) = ((10723151780598845931 : Nat) : Int) from rfl, mulw, show (2147483648 : Int) = ((2147483648 : Nat) : Int) from rfl, sh_val 31 (by decide) (lt64 _)]
theorem rmix_eq (x : Nat) (hx : x < 18446744073709551616) : cellarref01_Mix.f (x : Int) = some ((mixN x : Nat) : Int) := mix_eq x hx
theorem unshift_eq (k x n : Nat) (hx : x < 18446744073709551616) (h0 : 22 ≤ n) (h1 : n < 32) (hk : 3 ≤ k) : sum_unshift.f k (x : Int) (n : Int) = some ((Un n x : Nat) : Int) := by
  obtain ⟨k, rfl⟩ : ∃ k', k = k' + 1 + 1 + 1 := ⟨k - 3, by omega⟩
  unfold sum_unshift.f
  have w1 : wrap64 ((n : Int) + (n : Int)) = ((n + n : Nat) : Int) := by rw [cw64 (by omega) (by omega)]; omega
  have w2 : wrap64 (((n + n : Nat) : Int) + (n : Int)) = ((n + n + n : Nat) : Int) := by rw [cw64 (by omega) (by omega)]; omega
  rw [sum_unshift.l0, if_pos (by omega), if_pos (by omega), w1, sum_unshift.l0, if_pos (by omega), if_pos (by omega), w2, sum_unshift.l0, if_neg (by omega), shr_nat _ _ (by omega), u64_xor_nat _ _ hx (Nat.lt_of_le_of_lt (Nat.div_le_self _ _) hx),
    shr_nat _ _ (by omega), u64_xor_nat _ _ hx (Nat.lt_of_le_of_lt (Nat.div_le_self _ _) (xor64 hx (Nat.lt_of_le_of_lt (Nat.div_le_self _ _) hx)))]
  rfl
theorem inverse_two (k : Nat) (hk : 10 ≤ k) : sum_inverse.f k 10723151780598845931 = some 3573116690164977347 :=
  up_fuel (f := fun k => sum_inverse.f k 10723151780598845931) (fun k => sum_inverse.mono _ k) (n := 10) (by decide +kernel) k hk
theorem inverse_one (k : Nat) (hk : 10 ≤ k) : sum_inverse.f k 13787848793156543929 = some 10871156337175269513 :=
  up_fuel (f := fun k => sum_inverse.f k 13787848793156543929) (fun k => sum_inverse.mono _ k) (n := 10) (by decide +kernel) k hk
theorem unmix_eq (x : Nat) (hx : x < 18446744073709551616) : sum_Unmix.f 20 (x : Int) = some ((unmixN x : Nat) : Int) := by
  unfold sum_Unmix.f unmixN
  rw [show (31 : Int) = ((31 : Nat) : Int) from rfl, unshift_eq 20 x 31 hx (by decide) (by decide) (by decide), Option.bind_some, inverse_two 20 (by decide), Option.bind_some, show (3573116690164977347 : Int) = ((3573116690164977347 : Nat) : Int) from rfl, mulw,
    show (27 : Int) = ((27 : Nat) : Int) from rfl, unshift_eq 20 _ 27 (lt64 _) (by decide) (by decide) (by decide), Option.bind_some, inverse_one 20 (by decide), Option.bind_some, show (10871156337175269513 : Int) = ((10871156337175269513 : Nat) : Int) from rfl, mulw,
    show (30 : Int) = ((30 : Nat) : Int) from rfl, unshift_eq 20 _ 30 (lt64 _) (by decide) (by decide) (by decide), Option.bind_some]
theorem mix_walk (y : Int) (x r : Nat) (hy : y = (x : Int)) (hx : x < 18446744073709551616) (hr : mixN x = r) (w : World) : Calls Try.prog 35 #[.int .u64 y] w fun e w' => e = .returned (.int .u64 (r : Int)) ∧ Drawn0 w w' := by
  subst hy; subst hr
  exact sum_Mix.calls _ _ w (mix_eq x hx)
theorem rmix_walk (y : Int) (x r : Nat) (hy : y = (x : Int)) (hx : x < 18446744073709551616) (hr : mixN x = r) (w : World) : Calls Try.prog 36 #[.int .u64 y] w fun e w' => e = .returned (.int .u64 (r : Int)) ∧ Drawn0 w w' := by
  subst hy; subst hr
  exact cellarref01_Mix.calls _ _ w (rmix_eq x hx)
theorem unmix_walk (y : Int) (x r : Nat) (hy : y = (x : Int)) (hx : x < 18446744073709551616) (hr : unmixN x = r) (w : World) : Calls Try.prog 37 #[.int .u64 y] w fun e w' => e = .returned (.int .u64 (r : Int)) ∧ Drawn0 w w' := by
  subst hy; subst hr
  exact sum_Unmix.calls 20 _ _ w (unmix_eq x hx)
set_option maxHeartbeats 2000000 in
set_option maxRecDepth 100000 in
theorem law (x : Nat) (hx : x < 18446744073709551616) (W : World) : Calls Try.prog 12 #[.int .u64 (x : Int)] W fun e w' => e = .returned (.bool true) ∧ Below W.heap.size W w' := by
  obtain ⟨m, hm⟩ : ∃ m, mixN x = m := ⟨_, rfl⟩
  obtain ⟨u, hu⟩ : ∃ u, unmixN x = u := ⟨_, rfl⟩
  have hml : m < 18446744073709551616 := by rw [← hm]; exact mixN_lt x
  have hul : u < 18446744073709551616 := by rw [← hu]; exact unmixN_lt x
  have hb1 : unmixN m = x := by rw [← hm]; exact unmix_mix x hx
  have hb2 : mixN u = x := by rw [← hu]; exact mix_unmix x hx
  have HX := Aside0.mk hx
  have HM := Aside0.mk hm
  have HU := Aside0.mk hu
  have HML := Aside0.mk hml
  have HUL := Aside0.mk hul
  have HB1 := Aside0.mk hb1
  have HB2 := Aside0.mk hb2
  clear hx hm hu hml hul hb1 hb2
  go_enter Try.func12, Try.ntmps12
  go_wp2_with (first
    | (go_at_call 18; refine (Hasher.lives_walk _).mono ?_; rintro e w1 ⟨rfl, hb⟩; have HB := Aside0.mk hb; clear hb)
    | (go_at_call 36; with_reducible refine (rmix_walk _ x m rfl HX.out HM.out _).mono ?_; rintro e w' ⟨rfl, ⟨nd, rfl⟩⟩)
    | (go_at_call 35; with_reducible refine (mix_walk _ x m rfl HX.out HM.out _).mono ?_; rintro e w' ⟨rfl, ⟨nd, rfl⟩⟩)
    | (go_at_call 35; with_reducible refine (mix_walk _ u x rfl HUL.out HB2.out _).mono ?_; rintro e w' ⟨rfl, ⟨nd, rfl⟩⟩)
    | (go_at_call 37; with_reducible refine (unmix_walk _ m x rfl HML.out HB1.out _).mono ?_; rintro e w' ⟨rfl, ⟨nd, rfl⟩⟩)
    | (go_at_call 37; with_reducible refine (unmix_walk _ x u rfl HX.out HU.out _).mono ?_; rintro e w' ⟨rfl, ⟨nd, rfl⟩⟩))
  go_ret
  exact ⟨rfl, by repeat (first | exact HB.out | apply pw_below_drewN)⟩
end Go.Proofs.Ytbnbpnnpbnpidaa.RSumMixes
namespace Go.Proofs.Ytbnbpnnpbnpidaa.Main
open Go.RowKit Go.Proofs.YtbnbpnnpbnpidaaW.PrintWords Go.Proofs.YtbnbpnnpbnpidaaW.PrintLast Go.Proofs.YtbnbpnnpbnpidaaW.PrintMore Go.Proofs.Ytbnbpnnpbnpidaa.QSumHashes Crc
set_option linter.unusedVariables false
set_option linter.unusedSimpArgs false
theorem SumMixes (W : World) (a0 : Int) (w0 : (Lit.int .u64 a0).wf = true) :
    Calls Try.prog 12 #[.int .u64 a0] W fun e w' => e = .returned (.bool true) ∧ Below W.heap.size W w' := by
  obtain ⟨x, rfl, hx⟩ := nat_u64 w0
  exact RSumMixes.law x hx W
end Go.Proofs.Ytbnbpnnpbnpidaa.Main
