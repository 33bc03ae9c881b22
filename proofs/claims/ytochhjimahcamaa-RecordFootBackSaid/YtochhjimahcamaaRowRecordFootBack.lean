/- The row of the law RecordFootBack: called with whatever arguments, it answers true, and each argument reads behind the call as before.
   No condition. -/
import Derived.Test.YtochhjimahcamaaRows
import Derived.Test.YtochhjimahcamaaOpen
import Derived.Test.YtochhjimahcamaaMainRecordFootBack
import Derived.WalkKit
import Derived.ProofKit
import Derived.OpenShut
import Derived.ShutString
import Derived.ChangeOld
import Derived.Below
import Derived.SizedLaws
import Derived.Carry
namespace Go.Proofs.Ytochhjimahcamaa.recordFootBack
open Go.ChangeShapes Go.WideShapes Go.ChangeAt Go.RowKit Go.Proofs.YtochhjimahcamaaW.PrintWords Go.Proofs.Ytochhjimahcamaa.Open
set_option linter.unusedVariables false
theorem own : ownKnob Try.prog.godebug = none := by kernel_rfl
theorem laidOut : laidOutB Try.prog = true := by kernel_rfl
theorem opens0 {H : Type} (enc : TypeId × Value → H) (W : World) : Opens enc Try.prog W 23 ((Kd.pair (Kd.int .i64) (Kd.pair (Kd.int .i64) (Kd.pair (Kd.int .i64) (Kd.int .i64)))) : Kd (Int × (Int × (Int × Int)))) (fun x => (fun x => (Lit.int .i64 x).wf = true) x.1 ∧ (fun x => (fun x => (Lit.int .i64 x).wf = true) x.1 ∧ (fun x => (fun x => (Lit.int .i64 x).wf = true) x.1 ∧ (fun x => (Lit.int .i64 x).wf = true) x.2) x.2) x.2) := (opens_struct Try.underlying23 (by kernel_rfl) (opensF_cons rfl (by kernel_rfl) rfl (opens_int Try.underlying3) (opensF_cons rfl (by kernel_rfl) rfl (opens_int Try.underlying3) (opensF_cons rfl (by kernel_rfl) rfl (opens_int Try.underlying3) (opensF_last rfl (by kernel_rfl) (opens_int Try.underlying3))))))
theorem opens1 {H : Type} (enc : TypeId × Value → H) (W : World) : Opens enc Try.prog W 28 ((Kd.slice 5 (Kd.int .u8)) : Kd (List Int)) (fun l => l.length * 1 ≤ 140737488351232 ∧ l.length ≤ 9223372036854775807 ∧ ∀ x ∈ l, (fun x => (Lit.int .u8 x).wf = true) x) := (opens_slice Try.underlying28 (by kernel_rfl) (by kernel_rfl) (opens_int Try.underlying5))
theorem opens2 {H : Type} (enc : TypeId × Value → H) (W : World) : Opens enc Try.prog W 3 ((Kd.int .i64) : Kd Int) (fun x => (Lit.int .i64 x).wf = true) := (opens_int Try.underlying3)
theorem opens3 {H : Type} (enc : TypeId × Value → H) (W : World) : Opens enc Try.prog W 3 ((Kd.int .i64) : Kd Int) (fun x => (Lit.int .i64 x).wf = true) := (opens_int Try.underlying3)
theorem opens4 {H : Type} (enc : TypeId × Value → H) (W : World) : Opens enc Try.prog W 24 ((Kd.int .u32) : Kd Int) (fun x => (Lit.int .u32 x).wf = true) := (opens_int Try.underlying24)
theorem opens5 {H : Type} (enc : TypeId × Value → H) (W : World) : Opens enc Try.prog W 3 ((Kd.int .i64) : Kd Int) (fun x => (Lit.int .i64 x).wf = true) := (opens_int Try.underlying3)
set_option maxRecDepth 100000 in
theorem lifted (os : Os) (started : os.Started) (H : Type) (enc : TypeId × Value → H) :
    ReturnsInHanded {} Try.checked os 10 .any (Rows.recordFootBackSpec.pre6 enc Try.prog Try.f10 Rows.recordFootBackRow.domain false) (Rows.recordFootBackSpec.post enc Try.prog Try.f10 false true false false) := by
  refine returnsInHanded_of_change_sized (C := Try.checked) own started (by kernel_rfl) Try.func10
    (ChangeSpec.witness6 (enc := enc) (C := Try.checked) false ⟨#[], #[.agg #[.int .i64 0, .int .i64 0, .int .i64 0, .int .i64 0], .slice none 0 0, .int .i64 0, .int .i64 0, .int .u32 0, .int .i64 0], []⟩ 8 (by kernel_rfl) (by kernel_rfl) (by kernel_rfl) (by kernel_rfl)) ?_
  intro W base args ds gs before hval0 hW hcnd hsz0 _
  have hsz : (DataW.weightsEach Try.prog (Try.f10.params.toList ++ Rows.recordFootBackSpec.plain.varTypes Try.prog) (ds ++ gs)).all (· ≤ reachBytes) = true := hsz0
  have hval : ∀ (j : Nat) t v, Try.f10.params[j]? = some t → args[j]? = some v → Value.okWide Try.prog W .any base t v := hval0
  have hW' := hW
  obtain ⟨p, q, hA0, hV, rfl, hfz, hnd⟩ := hW
  have hA : DataW.TrodAll enc Try.prog W 0 (fun _ => true) true Try.f10.params.toList args.toList ds p := hA0
  rw [Try.params10] at hA hval hsz
  obtain ⟨v0, vs0, d0, ds0, p0, q0, hargs, rfl, rfl, h0, r0⟩ := trodAll_cons hA
  obtain ⟨v1, vs1, d1, ds1, p1, q1, rfl, rfl, rfl, h1, r1⟩ := trodAll_cons r0
  obtain ⟨v2, vs2, d2, ds2, p2, q2, rfl, rfl, rfl, h2, r2⟩ := trodAll_cons r1
  obtain ⟨v3, vs3, d3, ds3, p3, q3, rfl, rfl, rfl, h3, r3⟩ := trodAll_cons r2
  obtain ⟨v4, vs4, d4, ds4, p4, q4, rfl, rfl, rfl, h4, r4⟩ := trodAll_cons r3
  obtain ⟨v5, vs5, d5, ds5, p5, q5, rfl, rfl, rfl, h5, r5⟩ := trodAll_cons r4
  obtain ⟨rfl, rfl, rfl⟩ := trodAll_nil r5
  obtain rfl : args = #[v0, v1, v2, v3, v4, v5] := by cases args; simp_all
  obtain ⟨rfl, rfl⟩ := trodVars_none hV
  have lt0 : ∀ x ∈ p0, x.block < W.heap.size := by obtain ⟨m, hm⟩ := h0; exact DataW.trod_lt m _ _ _ hm
  obtain ⟨x0, hK0, hx0⟩ := open_arg (opens0 enc W) hsz (j := 0) rfl rfl h0
  obtain ⟨cl0, hcl0⟩ : ∃ cl, cl = v0.cells.toList := ⟨_, rfl⟩
  rw [← hcl0] at hK0
  obtain ⟨a0_0, ⟨a0_1, ⟨a0_2, a0_3⟩⟩⟩ := x0
  obtain ⟨_, _, rfl, rfl, ⟨_, _, rfl, rfl, ⟨_, _, rfl, rfl, rfl⟩⟩⟩ := (hK0)
  obtain ⟨w0_0, ⟨w0_1, ⟨w0_2, w0_3⟩⟩⟩ := hx0
  obtain ⟨cs0, rfl, _⟩ := okWide_struct Try.underlying23 (hval 0 23 v0 rfl rfl)
  obtain rfl : cs0 = #[.int .i64 a0_0, .int .i64 a0_1, .int .i64 a0_2, .int .i64 a0_3] := by
    apply Array.toList_inj.1
    exact hcl0.symm
  have lt1 : ∀ x ∈ p1, x.block < W.heap.size := by obtain ⟨m, hm⟩ := h1; exact DataW.trod_lt m _ _ _ hm
  obtain ⟨x1, hK1, hx1⟩ := open_arg (opens1 enc W) hsz (j := 1) rfl rfl h1
  obtain ⟨cl1, hcl1⟩ : ∃ cl, cl = v1.cells.toList := ⟨_, rfl⟩
  rw [← hcl1] at hK1
  obtain ⟨l1, rfl⟩ : ∃ z, z = x1 := ⟨_, rfl⟩
  obtain ⟨A1, c1, rfl, hc1, hC1⟩ := (hK1)
  have hG1 := hx1
  obtain ⟨sa1, sl1, sc1, rfl⟩ := okWide_slice Try.underlying28 (hval 1 28 v1 rfl rfl)
  have hcl1' : [Value.slice A1 l1.length c1] = [Value.slice sa1 sl1 sc1] := hcl1
  simp only [List.cons.injEq, Value.slice.injEq, and_true] at hcl1'
  obtain ⟨rfl, rfl, rfl⟩ := hcl1'
  have lt2 : ∀ x ∈ p2, x.block < W.heap.size := by obtain ⟨m, hm⟩ := h2; exact DataW.trod_lt m _ _ _ hm
  obtain ⟨x2, hK2, hx2⟩ := open_arg (opens2 enc W) hsz (j := 2) rfl rfl h2
  obtain ⟨cl2, hcl2⟩ : ∃ cl, cl = v2.cells.toList := ⟨_, rfl⟩
  rw [← hcl2] at hK2
  obtain ⟨a2, rfl⟩ : ∃ z, z = x2 := ⟨_, rfl⟩
  obtain rfl := (hK2)
  have w2 := hx2
  have hv2 : v2 = .int .i64 a2 := by
    obtain ⟨z, hz, _, _, _⟩ := open_int Try.underlying3 (hval 2 3 v2 rfl rfl) h2
    subst hz
    have := hcl2
    simpa [Value.cells] using this.symm
  subst hv2
  have lt3 : ∀ x ∈ p3, x.block < W.heap.size := by obtain ⟨m, hm⟩ := h3; exact DataW.trod_lt m _ _ _ hm
  obtain ⟨x3, hK3, hx3⟩ := open_arg (opens3 enc W) hsz (j := 3) rfl rfl h3
  obtain ⟨cl3, hcl3⟩ : ∃ cl, cl = v3.cells.toList := ⟨_, rfl⟩
  rw [← hcl3] at hK3
  obtain ⟨a3, rfl⟩ : ∃ z, z = x3 := ⟨_, rfl⟩
  obtain rfl := (hK3)
  have w3 := hx3
  have hv3 : v3 = .int .i64 a3 := by
    obtain ⟨z, hz, _, _, _⟩ := open_int Try.underlying3 (hval 3 3 v3 rfl rfl) h3
    subst hz
    have := hcl3
    simpa [Value.cells] using this.symm
  subst hv3
  have lt4 : ∀ x ∈ p4, x.block < W.heap.size := by obtain ⟨m, hm⟩ := h4; exact DataW.trod_lt m _ _ _ hm
  obtain ⟨x4, hK4, hx4⟩ := open_arg (opens4 enc W) hsz (j := 4) rfl rfl h4
  obtain ⟨cl4, hcl4⟩ : ∃ cl, cl = v4.cells.toList := ⟨_, rfl⟩
  rw [← hcl4] at hK4
  obtain ⟨a4, rfl⟩ : ∃ z, z = x4 := ⟨_, rfl⟩
  obtain rfl := (hK4)
  have w4 := hx4
  have hv4 : v4 = .int .u32 a4 := by
    obtain ⟨z, hz, _, _, _⟩ := open_int Try.underlying24 (hval 4 24 v4 rfl rfl) h4
    subst hz
    have := hcl4
    simpa [Value.cells] using this.symm
  subst hv4
  have lt5 : ∀ x ∈ p5, x.block < W.heap.size := by obtain ⟨m, hm⟩ := h5; exact DataW.trod_lt m _ _ _ hm
  obtain ⟨x5, hK5, hx5⟩ := open_arg (opens5 enc W) hsz (j := 5) rfl rfl h5
  obtain ⟨cl5, hcl5⟩ : ∃ cl, cl = v5.cells.toList := ⟨_, rfl⟩
  rw [← hcl5] at hK5
  obtain ⟨a5, rfl⟩ : ∃ z, z = x5 := ⟨_, rfl⟩
  obtain rfl := (hK5)
  have w5 := hx5
  have hv5 : v5 = .int .i64 a5 := by
    obtain ⟨z, hz, _, _, _⟩ := open_int Try.underlying3 (hval 5 3 v5 rfl rfl) h5
    subst hz
    have := hcl5
    simpa [Value.cells] using this.symm
  subst hv5
  clear hA0 hval0 hsz0 hsz
  refine (Main.RecordFootBack W a0_0 a0_1 a0_2 a0_3 A1 c1 l1 a2 a3 a4 a5 w0_0 w0_1 w0_2 w0_3 hC1 hc1 hG1 w2 w3 w4 w5).mono fun e W' ⟨he, bel⟩ => ?_
  subst he
  exact ⟨_, rfl, _, _, _, [], _, [], hW', trodAll_mk1 (shut_bool Try.underlying4 _), (trodAll_cons_mk (Below.trod laidOut (by kernel_rfl) (of_decide_eq_true (by kernel_rfl)) h0 bel lt0) (trodAll_cons_mk (Below.trod laidOut (by kernel_rfl) (of_decide_eq_true (by kernel_rfl)) h1 bel lt1) (trodAll_cons_mk (Below.trod laidOut (by kernel_rfl) (of_decide_eq_true (by kernel_rfl)) h2 bel lt2) (trodAll_cons_mk (Below.trod laidOut (by kernel_rfl) (of_decide_eq_true (by kernel_rfl)) h3 bel lt3) (trodAll_cons_mk (Below.trod laidOut (by kernel_rfl) (of_decide_eq_true (by kernel_rfl)) h4 bel lt4) (trodAll_cons_mk (Below.trod laidOut (by kernel_rfl) (of_decide_eq_true (by kernel_rfl)) h5 bel lt5) trodAll_mk0)))))), rfl, bel.frame _, fun h => by cases h⟩
theorem over : Rows.recordFootBackRow.holds Try.pinned (OpenSpec.ofChange Rows.recordFootBackSpec) :=
  OpenClaim.holds_of_wide 10 Try.f10 rfl rfl rfl rfl rfl rfl rfl ⟨rfl, rfl, rfl, rfl, rfl⟩ rfl rfl rfl rfl rfl (by kernel_rfl) Try.func10 (by kernel_rfl)
    (of_decide_eq_true (by kernel_rfl)) (by unfold Func.isWrapper; first | (rw [if_pos (by decide +kernel)]; kernel_rfl) | (rw [if_neg (by decide +kernel)]; exact ⟨rfl, rfl⟩))
    (fun os started H enc _ => lifted os started H enc)
theorem proved : Rows.RecordFootBackSaid := over
#print axioms proved
end Go.Proofs.Ytochhjimahcamaa.recordFootBack
namespace Go.Proofs.Ytochhjimahcamaa
/-- The row, under a short name, for the claim. -/
theorem recordFootBack_holds : Rows.RecordFootBackSaid := recordFootBack.proved
end Go.Proofs.Ytochhjimahcamaa
