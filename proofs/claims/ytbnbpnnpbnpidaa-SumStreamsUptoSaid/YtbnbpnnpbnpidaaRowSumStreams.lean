/- The row of the law SumStreams: called with whatever arguments, it answers true, and each argument reads behind the call as before.
   No condition. -/
import Derived.Test.YtbnbpnnpbnpidaaRows
import Derived.Test.YtbnbpnnpbnpidaaOpen
import Derived.Test.YtbnbpnnpbnpidaaOpenB
import Derived.Test.YtbnbpnnpbnpidaaMainSumStreams
import Derived.WalkKit
import Derived.ProofKit
import Derived.OpenShut
import Derived.ShutString
import Derived.ChangeOld
import Derived.Below
import Derived.SizedLaws
import Derived.Carry
import Derived.JoinedCond
import Derived.Deep.CondSized
import Derived.Deep.Slices
namespace Go.Proofs.Ytbnbpnnpbnpidaa.sumStreams
open Go.ChangeShapes Go.WideShapes Go.ChangeAt Go.RowKit Go.Proofs.YtbnbpnnpbnpidaaW.PrintWords Go.Proofs.Ytbnbpnnpbnpidaa.Open Go.Proofs.Ytbnbpnnpbnpidaa.OpenB
set_option linter.unusedVariables false
theorem own : ownKnob Try.prog.godebug = none := by kernel_rfl
theorem laidOut : laidOutB Try.prog = true := by kernel_rfl
theorem opens0 {H : Type} (enc : TypeId × Value → H) (W : World) : OpensB enc Try.prog W 32 ((Kd.int .u64) : Kd Int) (fun x => (Lit.int .u64 x).wf = true) := (opensB_int Try.underlying32)
theorem opens1 {H : Type} (enc : TypeId × Value → H) (W : World) : OpensB enc Try.prog W 37 ((Kd.slice 41 (Kd.pair (Kd.slice 5 (Kd.int .u8)) (Kd.pair Kd.bool Kd.bool))) : Kd (List ((List Int) × (Bool × Bool)))) (fun l => l.length * 32 ≤ 140737488351232 ∧ l.length ≤ 1048576 ∧ ∀ x ∈ l, (fun x => (fun l => l.length * 1 ≤ 140737488351232 ∧ l.length ≤ 1048576 ∧ ∀ x ∈ l, (fun x => (Lit.int .u8 x).wf = true) x) x.1 ∧ (fun x => (fun _ => True) x.1 ∧ (fun _ => True) x.2) x.2) x) := (opensB_slice Try.underlying37 (by kernel_rfl) (by kernel_rfl) (opensB_struct Try.underlying41 (by kernel_rfl) (opensFB_cons rfl (by kernel_rfl) rfl (opensB_slice Try.underlying23 (by kernel_rfl) (by kernel_rfl) (opensB_int Try.underlying5)) (opensFB_cons rfl (by kernel_rfl) rfl (opensB_bool Try.underlying4) (opensFB_last rfl (by kernel_rfl) (opensB_bool Try.underlying4))))))
set_option maxRecDepth 100000 in
theorem lifted (os : Os) (started : os.Started) (H : Type) (enc : TypeId × Value → H) (F : Stop.Interp) :
    ReturnsInHanded {} Try.checked os 9 .any ((Rows.OpenSpec.upto Rows.sumStreamsSpec).pre6 enc Try.prog Try.f9 Rows.sumStreamsUptoRow.domain false) (((Rows.OpenSpec.upto Rows.sumStreamsSpec).at F).post enc Try.prog Try.f9 false true false false) := by
  refine returnsInHanded_of_cond_sized (C := Try.checked) (s := (Rows.OpenSpec.upto Rows.sumStreamsSpec)) (k := Rows.uptoSmall) rfl own started (by kernel_rfl) Try.func9
    (OpenSpec.witness (enc := enc) (C := Try.checked) (s := (Rows.OpenSpec.upto Rows.sumStreamsSpec)) (k := Rows.uptoSmall) rfl false ⟨#[], #[.int .u64 0, .slice none 0 0], []⟩ 8 (by kernel_rfl) (by kernel_rfl) (by kernel_rfl)
      (x := ([.lit (.int .u64 0), .nil], [], [])) (by kernel_rfl) rfl (by kernel_rfl)) ?_
  intro W base args ds gs before hval0 hW hcnd hk0 hsz0 _
  have hsz : (DataW.weightsEach Try.prog (Try.f9.params.toList ++ Rows.sumStreamsSpec.plain.varTypes Try.prog) (ds ++ gs)).all (· ≤ reachBytes) = true := hsz0
  have hval : ∀ (j : Nat) t v, Try.f9.params[j]? = some t → args[j]? = some v → Value.okWide Try.prog W .any base t v := hval0
  have hW' := hW
  obtain ⟨p, q, hA0, hV, rfl, hfz, hnd⟩ := hW
  have hA : DataW.TrodAll enc Try.prog W 0 (fun _ => true) true Try.f9.params.toList args.toList ds p := hA0
  rw [Try.params9] at hA hval hsz
  obtain ⟨v0, vs0, d0, ds0, p0, q0, hargs, rfl, rfl, h0, r0⟩ := trodAll_cons hA
  obtain ⟨v1, vs1, d1, ds1, p1, q1, rfl, rfl, rfl, h1, r1⟩ := trodAll_cons r0
  obtain ⟨rfl, rfl, rfl⟩ := trodAll_nil r1
  obtain rfl : args = #[v0, v1] := by cases args; simp_all
  obtain ⟨rfl, rfl⟩ := trodVars_none hV
  have hkb : Rows.uptoBulkAll _ ≤ 1048576 := of_decide_eq_true hk0
  have lt0 : ∀ x ∈ p0, x.block < W.heap.size := by obtain ⟨m, hm⟩ := h0; exact DataW.trod_lt m _ _ _ hm
  obtain ⟨x0, hK0, hx0⟩ := openB_arg (opens0 enc W) hsz (j := 0) rfl rfl (Nat.le_trans (part_le (by simp)) hkb) h0
  obtain ⟨cl0, hcl0⟩ : ∃ cl, cl = v0.cells.toList := ⟨_, rfl⟩
  rw [← hcl0] at hK0
  obtain ⟨a0, rfl⟩ : ∃ z, z = x0 := ⟨_, rfl⟩
  obtain rfl := (hK0)
  have w0 := hx0
  have hv0 : v0 = .int .u64 a0 := by
    obtain ⟨z, hz, _, _, _⟩ := open_int Try.underlying32 (hval 0 32 v0 rfl rfl) h0
    subst hz
    have := hcl0
    simpa [Value.cells] using this.symm
  subst hv0
  have lt1 : ∀ x ∈ p1, x.block < W.heap.size := by obtain ⟨m, hm⟩ := h1; exact DataW.trod_lt m _ _ _ hm
  obtain ⟨x1, hK1, hx1⟩ := openB_arg (opens1 enc W) hsz (j := 1) rfl rfl (Nat.le_trans (part_le (by simp)) hkb) h1
  obtain ⟨cl1, hcl1⟩ : ∃ cl, cl = v1.cells.toList := ⟨_, rfl⟩
  rw [← hcl1] at hK1
  obtain ⟨l1, rfl⟩ : ∃ z, z = x1 := ⟨_, rfl⟩
  obtain ⟨A1, c1, rfl, hc1, hC1⟩ := (hK1)
  have hG1 := hx1
  obtain ⟨sa1, sl1, sc1, rfl⟩ := okWide_slice Try.underlying37 (hval 1 37 v1 rfl rfl)
  have hcl1' : [Value.slice A1 l1.length c1] = [Value.slice sa1 sl1 sc1] := hcl1
  simp only [List.cons.injEq, Value.slice.injEq, and_true] at hcl1'
  obtain ⟨rfl, rfl, rfl⟩ := hcl1'

  clear hA0 hval0 hsz0 hsz hk0 hkb
  refine (Main.SumStreams W a0 A1 c1 l1 w0 hC1 hc1 hG1).mono fun e W' ⟨he, bel⟩ => ?_
  subst he
  exact ⟨_, rfl, _, _, _, [], _, [], hW', trodAll_mk1 (shut_bool Try.underlying4 _), (trodAll_cons_mk (Below.trod laidOut (by kernel_rfl) (of_decide_eq_true (by kernel_rfl)) h0 bel lt0) (trodAll_cons_mk (Below.trod laidOut (by kernel_rfl) (of_decide_eq_true (by kernel_rfl)) h1 bel lt1) trodAll_mk0)), rfl, bel.frame _, fun h => by cases h⟩
theorem over : Rows.SumStreamsUptoSaid :=
  OpenClaim.holds_of_cond 9 Try.f9 rfl rfl rfl rfl rfl rfl rfl ⟨rfl, rfl, rfl, rfl, rfl⟩ rfl rfl rfl rfl rfl (by kernel_rfl) Try.func9 (by kernel_rfl)
    (of_decide_eq_true (by kernel_rfl)) (by unfold Func.isWrapper; first | (rw [if_pos (by decide +kernel)]; kernel_rfl) | (rw [if_neg (by decide +kernel)]; exact ⟨rfl, rfl⟩))
    (fun os started H enc _ F => lifted os started H enc F)
theorem proved : Rows.SumStreamsUptoSaid := over
#print axioms proved
end Go.Proofs.Ytbnbpnnpbnpidaa.sumStreams
namespace Go.Proofs.Ytbnbpnnpbnpidaa
/-- The row, under a short name, for the claim. -/
theorem sumStreams_holds : Rows.SumStreamsUptoSaid := sumStreams.proved
end Go.Proofs.Ytbnbpnnpbnpidaa
