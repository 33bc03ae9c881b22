/- The row of the law RecordDecodes: called with whatever arguments, it answers true, and each argument reads behind the call as before.
   No condition. -/
import Derived.Test.YtochhjimahcamaaRows
import Derived.Test.YtochhjimahcamaaOpen
import Derived.Test.YtochhjimahcamaaMainRecordDecodes
import Derived.WalkKit
import Derived.ProofKit
import Derived.OpenShut
import Derived.ShutString
import Derived.ChangeOld
import Derived.Below
import Derived.SizedLaws
import Derived.Carry
namespace Go.Proofs.Ytochhjimahcamaa.recordDecodes
open Go.ChangeShapes Go.WideShapes Go.ChangeAt Go.RowKit Go.Proofs.YtochhjimahcamaaW.PrintWords Go.Proofs.Ytochhjimahcamaa.Open
set_option linter.unusedVariables false
theorem own : ownKnob Try.prog.godebug = none := by kernel_rfl
theorem laidOut : laidOutB Try.prog = true := by kernel_rfl
theorem opens0 {H : Type} (enc : TypeId × Value → H) (W : World) : Opens enc Try.prog W 23 ((Kd.pair (Kd.int .i64) (Kd.pair (Kd.int .i64) (Kd.pair (Kd.int .i64) (Kd.int .i64)))) : Kd (Int × (Int × (Int × Int)))) (fun x => (fun x => (Lit.int .i64 x).wf = true) x.1 ∧ (fun x => (fun x => (Lit.int .i64 x).wf = true) x.1 ∧ (fun x => (fun x => (Lit.int .i64 x).wf = true) x.1 ∧ (fun x => (Lit.int .i64 x).wf = true) x.2) x.2) x.2) := (opens_struct Try.underlying23 (by kernel_rfl) (opensF_cons rfl (by kernel_rfl) rfl (opens_int Try.underlying3) (opensF_cons rfl (by kernel_rfl) rfl (opens_int Try.underlying3) (opensF_cons rfl (by kernel_rfl) rfl (opens_int Try.underlying3) (opensF_last rfl (by kernel_rfl) (opens_int Try.underlying3))))))
theorem opens1 {H : Type} (enc : TypeId × Value → H) (W : World) : Opens enc Try.prog W 24 ((Kd.int .u32) : Kd Int) (fun x => (Lit.int .u32 x).wf = true) := (opens_int Try.underlying24)
theorem opens2 {H : Type} (enc : TypeId × Value → H) (W : World) : Opens enc Try.prog W 28 ((Kd.slice 5 (Kd.int .u8)) : Kd (List Int)) (fun l => l.length * 1 ≤ 140737488351232 ∧ l.length ≤ 9223372036854775807 ∧ ∀ x ∈ l, (fun x => (Lit.int .u8 x).wf = true) x) := (opens_slice Try.underlying28 (by kernel_rfl) (by kernel_rfl) (opens_int Try.underlying5))
theorem opens3 {H : Type} (enc : TypeId × Value → H) (W : World) : Opens enc Try.prog W 3 ((Kd.int .i64) : Kd Int) (fun x => (Lit.int .i64 x).wf = true) := (opens_int Try.underlying3)
set_option maxRecDepth 100000 in
theorem lifted (os : Os) (started : os.Started) (H : Type) (enc : TypeId × Value → H) :
    ReturnsInHanded {} Try.checked os 4 .any (Rows.recordDecodesSpec.pre6 enc Try.prog Try.f4 Rows.recordDecodesRow.domain false) (Rows.recordDecodesSpec.post enc Try.prog Try.f4 false true false false) := by
  refine returnsInHanded_of_change_sized (C := Try.checked) own started (by kernel_rfl) Try.func4
    (ChangeSpec.witness6 (enc := enc) (C := Try.checked) false ⟨#[], #[.agg #[.int .i64 0, .int .i64 0, .int .i64 0, .int .i64 0], .int .u32 0, .slice none 0 0, .int .i64 0], []⟩ 8 (by kernel_rfl) (by kernel_rfl) (by kernel_rfl) (by kernel_rfl)) ?_
  intro W base args ds gs before hval0 hW hcnd hsz0 _
  have hsz : (DataW.weightsEach Try.prog (Try.f4.params.toList ++ Rows.recordDecodesSpec.plain.varTypes Try.prog) (ds ++ gs)).all (· ≤ reachBytes) = true := hsz0
  have hval : ∀ (j : Nat) t v, Try.f4.params[j]? = some t → args[j]? = some v → Value.okWide Try.prog W .any base t v := hval0
  have hW' := hW
  obtain ⟨p, q, hA0, hV, rfl, hfz, hnd⟩ := hW
  have hA : DataW.TrodAll enc Try.prog W 0 (fun _ => true) true Try.f4.params.toList args.toList ds p := hA0
  rw [Try.params4] at hA hval hsz
  obtain ⟨v0, vs0, d0, ds0, p0, q0, hargs, rfl, rfl, h0, r0⟩ := trodAll_cons hA
  obtain ⟨v1, vs1, d1, ds1, p1, q1, rfl, rfl, rfl, h1, r1⟩ := trodAll_cons r0
  obtain ⟨v2, vs2, d2, ds2, p2, q2, rfl, rfl, rfl, h2, r2⟩ := trodAll_cons r1
  obtain ⟨v3, vs3, d3, ds3, p3, q3, rfl, rfl, rfl, h3, r3⟩ := trodAll_cons r2
  obtain ⟨rfl, rfl, rfl⟩ := trodAll_nil r3
  obtain rfl : args = #[v0, v1, v2, v3] := by cases args; simp_all
  obtain ⟨rfl, rfl⟩ := trodVars_none hV
  have lt0 : ∀ x ∈ p0, x.block < W.heap.size := by obtain ⟨m, hm⟩ := h0; exact DataW.trod_lt m _ _ _ hm
  obtain ⟨x0, hK0, hx0⟩ := open_arg (opens0 enc W) hsz (j := 0) rfl rfl h0
  obtain ⟨cl0, hcl0⟩ : ∃ cl, cl = v0.cells.toList := ⟨_, rfl⟩
  rw [← hcl0] at hK0
  obtain ⟨a0_0, ⟨a0_1, ⟨a0_2, a0_3⟩⟩⟩ := x0
  obtain ⟨_, _, rfl, rfl, ⟨_, _, rfl, rfl, ⟨_, _, rfl, rfl, rfl⟩⟩⟩ := (hK0)
  obtain ⟨w0_0, ⟨w0_1, ⟨w0_2, w0_3⟩⟩⟩ := hx0
  obtain ⟨cs0, rfl, _⟩ := okWide_struct Try.underlying23 (hval 0 23 v0 rfl rfl)
  obtain rfl : cs0 = #[.int .i64 a0_0, .int .i64 a0_1, .int .i64 a0_2, .int .i64 a0_3] := by
    apply Array.toList_inj.1
    exact hcl0.symm
  have lt1 : ∀ x ∈ p1, x.block < W.heap.size := by obtain ⟨m, hm⟩ := h1; exact DataW.trod_lt m _ _ _ hm
  obtain ⟨x1, hK1, hx1⟩ := open_arg (opens1 enc W) hsz (j := 1) rfl rfl h1
  obtain ⟨cl1, hcl1⟩ : ∃ cl, cl = v1.cells.toList := ⟨_, rfl⟩
  rw [← hcl1] at hK1
  obtain ⟨a1, rfl⟩ : ∃ z, z = x1 := ⟨_, rfl⟩
  obtain rfl := (hK1)
  have w1 := hx1
  have hv1 : v1 = .int .u32 a1 := by
    obtain ⟨z, hz, _, _, _⟩ := open_int Try.underlying24 (hval 1 24 v1 rfl rfl) h1
    subst hz
    have := hcl1
    simpa [Value.cells] using this.symm
  subst hv1
  have lt2 : ∀ x ∈ p2, x.block < W.heap.size := by obtain ⟨m, hm⟩ := h2; exact DataW.trod_lt m _ _ _ hm
  obtain ⟨x2, hK2, hx2⟩ := open_arg (opens2 enc W) hsz (j := 2) rfl rfl h2
  obtain ⟨cl2, hcl2⟩ : ∃ cl, cl = v2.cells.toList := ⟨_, rfl⟩
  rw [← hcl2] at hK2
  obtain ⟨l2, rfl⟩ : ∃ z, z = x2 := ⟨_, rfl⟩
  obtain ⟨A2, c2, rfl, hc2, hC2⟩ := (hK2)
  have hG2 := hx2
  obtain ⟨sa2, sl2, sc2, rfl⟩ := okWide_slice Try.underlying28 (hval 2 28 v2 rfl rfl)
  have hcl2' : [Value.slice A2 l2.length c2] = [Value.slice sa2 sl2 sc2] := hcl2
  simp only [List.cons.injEq, Value.slice.injEq, and_true] at hcl2'
  obtain ⟨rfl, rfl, rfl⟩ := hcl2'
  have lt3 : ∀ x ∈ p3, x.block < W.heap.size := by obtain ⟨m, hm⟩ := h3; exact DataW.trod_lt m _ _ _ hm
  obtain ⟨x3, hK3, hx3⟩ := open_arg (opens3 enc W) hsz (j := 3) rfl rfl h3
  obtain ⟨cl3, hcl3⟩ : ∃ cl, cl = v3.cells.toList := ⟨_, rfl⟩
  rw [← hcl3] at hK3
  obtain ⟨a3, rfl⟩ : ∃ z, z = x3 := ⟨_, rfl⟩
  obtain rfl := (hK3)
  have w3 := hx3
  have hv3 : v3 = .int .i64 a3 := by
    obtain ⟨z, hz, _, _, _⟩ := open_int Try.underlying3 (hval 3 3 v3 rfl rfl) h3
    subst hz
    have := hcl3
    simpa [Value.cells] using this.symm
  subst hv3
  clear hA0 hval0 hsz0 hsz
  refine (Main.RecordDecodes W a0_0 a0_1 a0_2 a0_3 a1 A2 c2 l2 a3 w0_0 w0_1 w0_2 w0_3 w1 hC2 hc2 hG2 w3).mono fun e W' ⟨he, bel⟩ => ?_
  subst he
  exact ⟨_, rfl, _, _, _, [], _, [], hW', trodAll_mk1 (shut_bool Try.underlying4 _), (trodAll_cons_mk (Below.trod laidOut (by kernel_rfl) (of_decide_eq_true (by kernel_rfl)) h0 bel lt0) (trodAll_cons_mk (Below.trod laidOut (by kernel_rfl) (of_decide_eq_true (by kernel_rfl)) h1 bel lt1) (trodAll_cons_mk (Below.trod laidOut (by kernel_rfl) (of_decide_eq_true (by kernel_rfl)) h2 bel lt2) (trodAll_cons_mk (Below.trod laidOut (by kernel_rfl) (of_decide_eq_true (by kernel_rfl)) h3 bel lt3) trodAll_mk0)))), rfl, bel.frame _, fun h => by cases h⟩
theorem over : Rows.recordDecodesRow.holds Try.pinned (OpenSpec.ofChange Rows.recordDecodesSpec) :=
  OpenClaim.holds_of_wide 4 Try.f4 rfl rfl rfl rfl rfl rfl rfl ⟨rfl, rfl, rfl, rfl, rfl⟩ rfl rfl rfl rfl rfl (by kernel_rfl) Try.func4 (by kernel_rfl)
    (of_decide_eq_true (by kernel_rfl)) (by unfold Func.isWrapper; first | (rw [if_pos (by decide +kernel)]; kernel_rfl) | (rw [if_neg (by decide +kernel)]; exact ⟨rfl, rfl⟩))
    (fun os started H enc _ => lifted os started H enc)
theorem proved : Rows.RecordDecodesSaid := over
#print axioms proved
end Go.Proofs.Ytochhjimahcamaa.recordDecodes
namespace Go.Proofs.Ytochhjimahcamaa
/-- The row, under a short name, for the claim. -/
theorem recordDecodes_holds : Rows.RecordDecodesSaid := recordDecodes.proved
end Go.Proofs.Ytochhjimahcamaa
