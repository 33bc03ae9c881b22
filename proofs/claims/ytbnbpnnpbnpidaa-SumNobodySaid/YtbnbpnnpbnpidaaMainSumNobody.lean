/- The call of SumNobody: true, whatever the arguments; and the facts that it rests on.
   No condition. -/
import Derived.Test.YtbnbpnnpbnpidaaSame
namespace Go.Proofs.Ytbnbpnnpbnpidaa.RSumNobody
open Go.Proofs.Ytbnbpnnpbnpidaa.QSumHashes Hash Crc Hasher
open Go.RowKit Go.Proofs.YtbnbpnnpbnpidaaW.PrintWords Go.Proofs.YtbnbpnnpbnpidaaW.PrintLast Go.Proofs.YtbnbpnnpbnpidaaW.PrintMore
set_option linter.unusedVariables false
set_option linter.unusedSimpArgs false
theorem write_nil (A : Option Addr) (n c : Nat) (w : World) : Calls Try.prog 31 #[.pointer none, .slice A n c] w fun e w' => e = .returned (.tuple #[]) ∧ w = w' := by
  go_enter Try.func31, Try.ntmps31
  go_wp2
  refine bodyPost_ret (results_none rfl _ _ _) rfl ?_
  exact ⟨rfl, rfl⟩
theorem sum_nil (w : World) : Calls Try.prog 32 #[.pointer none] w fun e w' => e = .returned (.int .u64 0) ∧ w = w' := by
  go_enter Try.func32, Try.ntmps32
  go_wp2
  go_ret
  exact ⟨rfl, rfl⟩
theorem len_nil (w : World) : Calls Try.prog 33 #[.pointer none] w fun e w' => e = .returned (.int .u64 0) ∧ w = w' := by
  go_enter Try.func33, Try.ntmps33
  go_wp2
  go_ret
  exact ⟨rfl, rfl⟩
theorem copy_nil (w : World) : Calls Try.prog 30 #[.pointer none] w fun e w' => e = .returned (.pointer none) ∧ w = w' := by
  go_enter Try.func30, Try.ntmps30
  go_wp2
  go_ret
  exact ⟨rfl, rfl⟩
set_option maxHeartbeats 2000000 in
set_option maxRecDepth 100000 in
theorem nobody (A : Option Addr) (n c : Nat) (W : World) : Calls Try.prog 10 #[.slice A n c] W fun e w' => e = .returned (.bool true) ∧ Below W.heap.size W w' := by
  go_enter Try.func10, Try.ntmps10
  go_wp2_with (first
    | (go_at_call 31; refine (write_nil A n c _).mono ?_; rintro e w' ⟨rfl, rfl⟩)
    | (go_at_call 18; refine (Hasher.lives_walk _).mono ?_; rintro e w1 ⟨rfl, hb⟩; have HB := Aside0.mk hb; clear hb)
    | (go_at_call 32; refine (sum_nil _).mono ?_; rintro e w' ⟨rfl, rfl⟩)
    | (go_at_call 33; refine (len_nil _).mono ?_; rintro e w' ⟨rfl, rfl⟩)
    | (go_at_call 30; refine (copy_nil _).mono ?_; rintro e w' ⟨rfl, rfl⟩))
  go_ret
  exact ⟨rfl, HB.out⟩
end Go.Proofs.Ytbnbpnnpbnpidaa.RSumNobody
namespace Go.Proofs.Ytbnbpnnpbnpidaa.Main
open Go.RowKit Go.Proofs.YtbnbpnnpbnpidaaW.PrintWords Go.Proofs.YtbnbpnnpbnpidaaW.PrintLast Go.Proofs.YtbnbpnnpbnpidaaW.PrintMore Go.Proofs.Ytbnbpnnpbnpidaa.QSumHashes Crc
set_option linter.unusedVariables false
set_option linter.unusedSimpArgs false
theorem SumNobody (W : World) (A0 : Option Addr) (c0 : Nat) (l0 : List Int) (hC0 : Kd.C (Kd.int .u8) W A0 l0.length l0) (hc0 : l0.length ≤ c0) (hG0 : (fun l => l.length * 1 ≤ 140737488351232 ∧ l.length ≤ 9223372036854775807 ∧ ∀ x ∈ l, (fun x => (Lit.int .u8 x).wf = true) x) l0) :
    Calls Try.prog 10 #[.slice A0 l0.length c0] W fun e w' => e = .returned (.bool true) ∧ Below W.heap.size W w' := by
  exact RSumNobody.nobody A0 l0.length c0 W
end Go.Proofs.Ytbnbpnnpbnpidaa.Main
