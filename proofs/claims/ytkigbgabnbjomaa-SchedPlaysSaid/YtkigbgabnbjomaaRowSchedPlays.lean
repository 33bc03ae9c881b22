/- The row of the law SchedPlays: called with whatever arguments, it answers true, and each argument reads behind the call as before.
   No condition. -/
import Derived.Test.YtkigbgabnbjomaaRows
import Derived.Test.YtkigbgabnbjomaaOpen
import Derived.Test.YtkigbgabnbjomaaMainSchedPlays
import Derived.WalkKit
import Derived.ProofKit
import Derived.OpenShut
import Derived.ShutString
import Derived.ChangeOld
import Derived.Below
import Derived.SizedLaws
import Derived.Carry
namespace Go.Proofs.Ytkigbgabnbjomaa.schedPlays
open Go.ChangeShapes Go.WideShapes Go.ChangeAt Go.RowKit Go.Proofs.YtkigbgabnbjomaaW.PrintWords Go.Proofs.Ytkigbgabnbjomaa.Open
set_option linter.unusedVariables false
theorem own : ownKnob Try.prog.godebug = none := by kernel_rfl
theorem laidOut : laidOutB Try.prog = true := by kernel_rfl
theorem opens0 {H : Type} (enc : TypeId × Value → H) (W : World) : Opens enc Try.prog W 35 ((Kd.slice 65 (Kd.slice 22 (Kd.slice 26 (Kd.pair Kd.bool (Kd.pair Kd.bool (Kd.slice 3 (Kd.int .i64))))))) : Kd (List (List (List (Bool × (Bool × (List Int))))))) (fun l => l.length * 24 ≤ 140737488351232 ∧ l.length ≤ 9223372036854775807 ∧ ∀ x ∈ l, (fun l => l.length * 24 ≤ 140737488351232 ∧ l.length ≤ 9223372036854775807 ∧ ∀ x ∈ l, (fun l => l.length * 32 ≤ 140737488351232 ∧ l.length ≤ 9223372036854775807 ∧ ∀ x ∈ l, (fun x => (fun _ => True) x.1 ∧ (fun x => (fun _ => True) x.1 ∧ (fun l => l.length * 8 ≤ 140737488351232 ∧ l.length ≤ 9223372036854775807 ∧ ∀ x ∈ l, (fun x => (Lit.int .i64 x).wf = true) x) x.2) x.2) x) x) x) := (opens_slice Try.underlying35 (by kernel_rfl) (by kernel_rfl) (opens_slice Try.underlying65 (by kernel_rfl) (by kernel_rfl) (opens_slice Try.underlying22 (by kernel_rfl) (by kernel_rfl) (opens_struct Try.underlying26 (by kernel_rfl) (opensF_cons rfl (by kernel_rfl) rfl (opens_bool Try.underlying4) (opensF_cons rfl (by kernel_rfl) rfl (opens_bool Try.underlying4) (opensF_last rfl (by kernel_rfl) (opens_slice Try.underlying23 (by kernel_rfl) (by kernel_rfl) (opens_int Try.underlying3)))))))))
theorem opens1 {H : Type} (enc : TypeId × Value → H) (W : World) : Opens enc Try.prog W 55 ((Kd.slice 60 (Kd.pair (Kd.int .i64) (Kd.pair (Kd.int .i64) (Kd.slice 3 (Kd.int .i64))))) : Kd (List (Int × (Int × (List Int))))) (fun l => l.length * 40 ≤ 140737488351232 ∧ l.length ≤ 9223372036854775807 ∧ ∀ x ∈ l, (fun x => (fun x => (Lit.int .i64 x).wf = true) x.1 ∧ (fun x => (fun x => (Lit.int .i64 x).wf = true) x.1 ∧ (fun l => l.length * 8 ≤ 140737488351232 ∧ l.length ≤ 9223372036854775807 ∧ ∀ x ∈ l, (fun x => (Lit.int .i64 x).wf = true) x) x.2) x.2) x) := (opens_slice Try.underlying55 (by kernel_rfl) (by kernel_rfl) (opens_struct Try.underlying60 (by kernel_rfl) (opensF_cons rfl (by kernel_rfl) rfl (opens_int Try.underlying3) (opensF_cons rfl (by kernel_rfl) rfl (opens_int Try.underlying3) (opensF_last rfl (by kernel_rfl) (opens_slice Try.underlying23 (by kernel_rfl) (by kernel_rfl) (opens_int Try.underlying3)))))))
set_option maxRecDepth 100000 in
theorem lifted (os : Os) (started : os.Started) (H : Type) (enc : TypeId × Value → H) :
    ReturnsInHanded {} Try.checked os 7 .any (Rows.schedPlaysSpec.pre6 enc Try.prog Try.f7 Rows.schedPlaysRow.domain false) (Rows.schedPlaysSpec.post enc Try.prog Try.f7 false true false false) := by
  refine returnsInHanded_of_change_sized (C := Try.checked) own started (by kernel_rfl) Try.func7
    (ChangeSpec.witness6 (enc := enc) (C := Try.checked) false ⟨#[], #[.slice none 0 0, .slice none 0 0], []⟩ 8 (by kernel_rfl) (by kernel_rfl) (by kernel_rfl) (by kernel_rfl)) ?_
  intro W base args ds gs before hval0 hW hcnd hsz0 _
  have hsz : (DataW.weightsEach Try.prog (Try.f7.params.toList ++ Rows.schedPlaysSpec.plain.varTypes Try.prog) (ds ++ gs)).all (· ≤ reachBytes) = true := hsz0
  have hval : ∀ (j : Nat) t v, Try.f7.params[j]? = some t → args[j]? = some v → Value.okWide Try.prog W .any base t v := hval0
  have hW' := hW
  obtain ⟨p, q, hA0, hV, rfl, hfz, hnd⟩ := hW
  have hA : DataW.TrodAll enc Try.prog W 0 (fun _ => true) true Try.f7.params.toList args.toList ds p := hA0
  rw [Try.params7] at hA hval hsz
  obtain ⟨v0, vs0, d0, ds0, p0, q0, hargs, rfl, rfl, h0, r0⟩ := trodAll_cons hA
  obtain ⟨v1, vs1, d1, ds1, p1, q1, rfl, rfl, rfl, h1, r1⟩ := trodAll_cons r0
  obtain ⟨rfl, rfl, rfl⟩ := trodAll_nil r1
  obtain rfl : args = #[v0, v1] := by cases args; simp_all
  obtain ⟨rfl, rfl⟩ := trodVars_none hV
  have lt0 : ∀ x ∈ p0, x.block < W.heap.size := by obtain ⟨m, hm⟩ := h0; exact DataW.trod_lt m _ _ _ hm
  obtain ⟨x0, hK0, hx0⟩ := open_arg (opens0 enc W) hsz (j := 0) rfl rfl h0
  obtain ⟨cl0, hcl0⟩ : ∃ cl, cl = v0.cells.toList := ⟨_, rfl⟩
  rw [← hcl0] at hK0
  obtain ⟨l0, rfl⟩ : ∃ z, z = x0 := ⟨_, rfl⟩
  obtain ⟨A0, c0, rfl, hc0, hC0⟩ := (hK0)
  have hG0 := hx0
  obtain ⟨sa0, sl0, sc0, rfl⟩ := okWide_slice Try.underlying35 (hval 0 35 v0 rfl rfl)
  have hcl0' : [Value.slice A0 l0.length c0] = [Value.slice sa0 sl0 sc0] := hcl0
  simp only [List.cons.injEq, Value.slice.injEq, and_true] at hcl0'
  obtain ⟨rfl, rfl, rfl⟩ := hcl0'
  have lt1 : ∀ x ∈ p1, x.block < W.heap.size := by obtain ⟨m, hm⟩ := h1; exact DataW.trod_lt m _ _ _ hm
  obtain ⟨x1, hK1, hx1⟩ := open_arg (opens1 enc W) hsz (j := 1) rfl rfl h1
  obtain ⟨cl1, hcl1⟩ : ∃ cl, cl = v1.cells.toList := ⟨_, rfl⟩
  rw [← hcl1] at hK1
  obtain ⟨l1, rfl⟩ : ∃ z, z = x1 := ⟨_, rfl⟩
  obtain ⟨A1, c1, rfl, hc1, hC1⟩ := (hK1)
  have hG1 := hx1
  obtain ⟨sa1, sl1, sc1, rfl⟩ := okWide_slice Try.underlying55 (hval 1 55 v1 rfl rfl)
  have hcl1' : [Value.slice A1 l1.length c1] = [Value.slice sa1 sl1 sc1] := hcl1
  simp only [List.cons.injEq, Value.slice.injEq, and_true] at hcl1'
  obtain ⟨rfl, rfl, rfl⟩ := hcl1'
  clear hA0 hval0 hsz0 hsz
  refine (Main.SchedPlays W A0 c0 l0 A1 c1 l1 hC0 hc0 hG0 hC1 hc1 hG1).mono fun e W' ⟨he, bel⟩ => ?_
  subst he
  exact ⟨_, rfl, _, _, _, [], _, [], hW', trodAll_mk1 (shut_bool Try.underlying4 _), (trodAll_cons_mk (Below.trod laidOut (by kernel_rfl) (of_decide_eq_true (by kernel_rfl)) h0 bel lt0) (trodAll_cons_mk (Below.trod laidOut (by kernel_rfl) (of_decide_eq_true (by kernel_rfl)) h1 bel lt1) trodAll_mk0)), rfl, bel.frame _, fun h => by cases h⟩
theorem over : Rows.schedPlaysRow.holds Try.pinned (OpenSpec.ofChange Rows.schedPlaysSpec) :=
  OpenClaim.holds_of_wide 7 Try.f7 rfl rfl rfl rfl rfl rfl rfl ⟨rfl, rfl, rfl, rfl, rfl⟩ rfl rfl rfl rfl rfl (by kernel_rfl) Try.func7 (by kernel_rfl)
    (of_decide_eq_true (by kernel_rfl)) (by unfold Func.isWrapper; first | (rw [if_pos (by decide +kernel)]; kernel_rfl) | (rw [if_neg (by decide +kernel)]; exact ⟨rfl, rfl⟩))
    (fun os started H enc _ => lifted os started H enc)
theorem proved : Rows.SchedPlaysSaid := over
#print axioms proved
end Go.Proofs.Ytkigbgabnbjomaa.schedPlays
namespace Go.Proofs.Ytkigbgabnbjomaa
/-- The row, under a short name, for the claim. -/
theorem schedPlays_holds : Rows.SchedPlaysSaid := schedPlays.proved
end Go.Proofs.Ytkigbgabnbjomaa
