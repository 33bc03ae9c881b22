/- The call of SumMasks: true, whatever the arguments; and the facts that it rests on.
   No condition. -/
import Derived.Test.YtbnbpnnpbnpidaaRSumMasksx1
import Derived.Test.YtbnbpnnpbnpidaaSame
namespace Go.Proofs.Ytbnbpnnpbnpidaa.RSumMasks
open Go.Proofs.Ytbnbpnnpbnpidaa.QSumHashes Hash Crc Hasher
open Go.RowKit Go.Proofs.YtbnbpnnpbnpidaaW.PrintWords Go.Proofs.YtbnbpnnpbnpidaaW.PrintLast Go.Proofs.YtbnbpnnpbnpidaaW.PrintMore
set_option linter.unusedVariables false
set_option linter.unusedSimpArgs false
def rot (x n : Nat) : Nat := x * 2 ^ n % 4294967296 ||| x / 2 ^ (32 - n)
theorem lt32 (a : Nat) : a % 4294967296 < 4294967296 := Nat.mod_lt _ (by decide)
theorem shl32_nat (x n : Nat) (hn : n ≤ 32) : shl .u32 (x : Int) (n : Int) = ((x * 2 ^ n % 4294967296 : Nat) : Int) := by
  unfold shl
  rw [Int.toNat_natCast, show min n (IntKind.bits .u32) = n from Nat.min_eq_left hn, IntKind.wrap_u32, Int.natCast_emod, Int.natCast_mul, Int.natCast_pow]; rfl
theorem shr32_nat (x n : Nat) (hn : n ≤ 32) : shr .u32 (x : Int) (n : Int) = ((x / 2 ^ n : Nat) : Int) := by
  unfold shr
  rw [Int.toNat_natCast, show min n (IntKind.bits .u32) = n from Nat.min_eq_left hn, Int.natCast_ediv, Int.natCast_pow]; rfl
theorem rot_eq (x n : Nat) (k : Int) (hk : Go.bits .and .u64 (IntKind.u64.wrap k) 31 = (n : Int)) (hx : x < 4294967296) (hn : n < 32) : bits_RotateLeft32.f (x : Int) k = some ((rot x n : Nat) : Int) := by
  unfold bits_RotateLeft32.f
  rw [hk, show (32 : Int) - (n : Int) = ((32 - n : Nat) : Int) by omega, w64lt (by omega), if_pos (by omega), if_pos (by omega), shl32_nat _ _ (by omega), shr32_nat _ _ (by omega), u32_or_nat _ _ (lt32 _) (Nat.lt_of_le_of_lt (Nat.div_le_self _ _) hx)]
  rfl
theorem rot_low {x n : Nat} (hx : x < 4294967296) (hn : n ≤ 32) : rot x n = x % 2 ^ (32 - n) * 2 ^ n + x / 2 ^ (32 - n) := by
  have e : x * 2 ^ n % 4294967296 = x % 2 ^ (32 - n) * 2 ^ n := by
    rw [show 4294967296 = 2 ^ (32 - n) * 2 ^ n by rw [← Nat.pow_add, Nat.sub_add_cancel hn], Nat.mul_mod_mul_right]
  have hl : x / 2 ^ (32 - n) < 2 ^ n := by
    rw [Nat.div_lt_iff_lt_mul (Nat.two_pow_pos _), ← Nat.pow_add, show n + (32 - n) = 32 by omega]; exact hx
  unfold rot
  rw [e, Nat.mul_comm, ← Nat.two_pow_add_eq_or_of_lt hl]
theorem rot_17 (x : Nat) (hx : x < 4294967296) : rot x 17 = x % 32768 * 131072 + x / 32768 := rot_low hx (by decide)
theorem rot_15 (x : Nat) (hx : x < 4294967296) : rot x 15 = x % 131072 * 32768 + x / 131072 := rot_low hx (by decide)
def maskN (x : Nat) : Nat := (rot x 17 + 2726488792) % 4294967296
def unmaskN (x : Nat) : Nat := rot ((x + 1568478504) % 4294967296) 15
theorem rot17_lt (x : Nat) (hx : x < 4294967296) : rot x 17 < 4294967296 := by rw [rot_17 x hx]; omega
theorem rot15_lt (x : Nat) (hx : x < 4294967296) : rot x 15 < 4294967296 := by rw [rot_15 x hx]; omega
theorem unmask_mask (x : Nat) (hx : x < 4294967296) : unmaskN (maskN x) = x := by
  have h := rot17_lt x hx
  unfold unmaskN maskN
  rw [show ((rot x 17 + 2726488792) % 4294967296 + 1568478504) % 4294967296 = rot x 17 by omega, rot_15 _ h, rot_17 x hx]
  omega
theorem rot_back (y : Nat) (hy : y < 4294967296) : rot (rot y 15) 17 = y := by
  rw [rot_17 _ (rot15_lt y hy), rot_15 y hy]; omega
theorem mask_unmask (x : Nat) (hx : x < 4294967296) : maskN (unmaskN x) = x := by
  unfold maskN unmaskN
  rw [rot_back _ (lt32 _)]
  omega
theorem mask_eq (x : Nat) (hx : x < 4294967296) : sum_Mask.f (x : Int) = some ((maskN x : Nat) : Int) := by
  unfold sum_Mask.f maskN
  rw [rot_eq x 17 (-15) (by decide +kernel) hx (by decide), Option.bind_some]
  rw [show (2726488792 : Int) = ((2726488792 : Nat) : Int) from rfl, ← Int.natCast_add]; rfl
theorem rmask_eq (x : Nat) (hx : x < 4294967296) : cellarref01_Mask.f (x : Int) = some ((maskN x : Nat) : Int) := by
  unfold cellarref01_Mask.f maskN rot
  rw [show ((x : Int) / 32768) = ((x / 32768 : Nat) : Int) by omega, show ((x : Int) * 131072 % 4294967296) = ((x * 131072 % 4294967296 : Nat) : Int) by omega, u32_or_nat _ _ (Nat.lt_of_le_of_lt (Nat.div_le_self _ _) hx) (lt32 _),
    show (2726488792 : Int) = ((2726488792 : Nat) : Int) from rfl, ← Int.natCast_add, Nat.or_comm]; rfl
theorem unmask_eq (x : Nat) (hx : x < 4294967296) : sum_Unmask.f (x : Int) = some ((unmaskN x : Nat) : Int) := by
  unfold sum_Unmask.f unmaskN
  rw [show (((x : Int) - 2726488792) % 4294967296) = (((x + 1568478504) % 4294967296 : Nat) : Int) by omega, rot_eq _ 15 15 (by decide +kernel) (lt32 _) (by decide), Option.bind_some]
theorem mask_walk (y : Int) (x r : Nat) (hy : y = (x : Int)) (hx : x < 4294967296) (hr : maskN x = r) (w : World) : Calls Try.prog 26 #[.int .u32 y] w fun e w' => e = .returned (.int .u32 (r : Int)) ∧ Drawn0 w w' := by
  subst hy; subst hr
  exact sum_Mask.calls _ _ w (mask_eq x hx)
theorem rmask_walk (y : Int) (x r : Nat) (hy : y = (x : Int)) (hx : x < 4294967296) (hr : maskN x = r) (w : World) : Calls Try.prog 27 #[.int .u32 y] w fun e w' => e = .returned (.int .u32 (r : Int)) ∧ Drawn0 w w' := by
  subst hy; subst hr
  exact cellarref01_Mask.calls _ _ w (rmask_eq x hx)
theorem unmask_walk (y : Int) (x r : Nat) (hy : y = (x : Int)) (hx : x < 4294967296) (hr : unmaskN x = r) (w : World) : Calls Try.prog 28 #[.int .u32 y] w fun e w' => e = .returned (.int .u32 (r : Int)) ∧ Drawn0 w w' := by
  subst hy; subst hr
  exact sum_Unmask.calls _ _ w (unmask_eq x hx)
set_option maxHeartbeats 2000000 in
set_option maxRecDepth 100000 in
theorem law (x : Nat) (hx : x < 4294967296) (W : World) : Calls Try.prog 8 #[.int .u32 (x : Int)] W fun e w' => e = .returned (.bool true) ∧ Below W.heap.size W w' := by
  obtain ⟨m, hm⟩ : ∃ m, maskN x = m := ⟨_, rfl⟩
  obtain ⟨u, hu⟩ : ∃ u, unmaskN x = u := ⟨_, rfl⟩
  have hml : m < 4294967296 := by rw [← hm]; exact lt32 _
  have hul : u < 4294967296 := by rw [← hu]; exact rot15_lt _ (lt32 _)
  have hb1 : unmaskN m = x := by rw [← hm]; exact unmask_mask x hx
  have hb2 : maskN u = x := by rw [← hu]; exact mask_unmask x hx
  have HX := Aside0.mk hx
  have HM := Aside0.mk hm
  have HU := Aside0.mk hu
  have HML := Aside0.mk hml
  have HUL := Aside0.mk hul
  have HB1 := Aside0.mk hb1
  have HB2 := Aside0.mk hb2
  clear hx hm hu hml hul hb1 hb2
  go_enter Try.func8, Try.ntmps8
  go_wp2_with (first
    | (go_at_call 18; refine (Hasher.lives_walk _).mono ?_; rintro e w1 ⟨rfl, hb⟩; have HB := Aside0.mk hb; clear hb)
    | (go_at_call 27; with_reducible refine (rmask_walk _ x m rfl HX.out HM.out _).mono ?_; rintro e w' ⟨rfl, ⟨nd, rfl⟩⟩)
    | (go_at_call 26; with_reducible refine (mask_walk _ x m rfl HX.out HM.out _).mono ?_; rintro e w' ⟨rfl, ⟨nd, rfl⟩⟩)
    | (go_at_call 26; with_reducible refine (mask_walk _ u x rfl HUL.out HB2.out _).mono ?_; rintro e w' ⟨rfl, ⟨nd, rfl⟩⟩)
    | (go_at_call 28; with_reducible refine (unmask_walk _ m x rfl HML.out HB1.out _).mono ?_; rintro e w' ⟨rfl, ⟨nd, rfl⟩⟩)
    | (go_at_call 28; with_reducible refine (unmask_walk _ x u rfl HX.out HU.out _).mono ?_; rintro e w' ⟨rfl, ⟨nd, rfl⟩⟩))
  go_ret
  exact ⟨rfl, by repeat (first | exact HB.out | apply pw_below_drewN)⟩
end Go.Proofs.Ytbnbpnnpbnpidaa.RSumMasks
namespace Go.Proofs.Ytbnbpnnpbnpidaa.Main
open Go.RowKit Go.Proofs.YtbnbpnnpbnpidaaW.PrintWords Go.Proofs.YtbnbpnnpbnpidaaW.PrintLast Go.Proofs.YtbnbpnnpbnpidaaW.PrintMore Go.Proofs.Ytbnbpnnpbnpidaa.QSumHashes Crc
set_option linter.unusedVariables false
set_option linter.unusedSimpArgs false
theorem SumMasks (W : World) (a0 : Int) (w0 : (Lit.int .u32 a0).wf = true) :
    Calls Try.prog 8 #[.int .u32 a0] W fun e w' => e = .returned (.bool true) ∧ Below W.heap.size W w' := by
  obtain ⟨x, rfl, hx⟩ := nat_u32 w0
  exact RSumMasks.law x hx W
end Go.Proofs.Ytbnbpnnpbnpidaa.Main
