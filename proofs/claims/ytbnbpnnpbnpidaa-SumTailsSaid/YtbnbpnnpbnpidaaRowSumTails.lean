/- The row of the law SumTails: called with whatever arguments, it answers true, and each argument reads behind the call as before.
   No condition. -/
import Derived.Test.YtbnbpnnpbnpidaaRows
import Derived.Test.YtbnbpnnpbnpidaaOpen
import Derived.Test.YtbnbpnnpbnpidaaOpenA
import Derived.Test.YtbnbpnnpbnpidaaMainSumTails
import Derived.WalkKit
import Derived.ProofKit
import Derived.OpenShut
import Derived.ShutString
import Derived.ChangeOld
import Derived.Below
import Derived.SizedLaws
import Derived.Carry
namespace Go.Proofs.Ytbnbpnnpbnpidaa.sumTails
open Go.ChangeShapes Go.WideShapes Go.ChangeAt Go.RowKit Go.Proofs.YtbnbpnnpbnpidaaW.PrintWords Go.Proofs.Ytbnbpnnpbnpidaa.Open Go.Proofs.Ytbnbpnnpbnpidaa.OpenA
set_option linter.unusedVariables false
theorem own : ownKnob Try.prog.godebug = none := by kernel_rfl
theorem laidOut : laidOutB Try.prog = true := by kernel_rfl
theorem opens0 {H : Type} (enc : TypeId × Value → H) (W : World) : Opens enc Try.prog W 22 ((Kd.int .u32) : Kd Int) (fun x => (Lit.int .u32 x).wf = true) := (opens_int Try.underlying22)
theorem opens1 {H : Type} (enc : TypeId × Value → H) (W : World) : Opens enc Try.prog W 22 ((Kd.int .u32) : Kd Int) (fun x => (Lit.int .u32 x).wf = true) := (opens_int Try.underlying22)
theorem opens2 {H : Type} (enc : TypeId × Value → H) (W : World) : Opens enc Try.prog W 47 ((Kd.arr 4 (Kd.int .u8) (by decide)) : Kd (List Int)) (fun l => ∀ x ∈ l, (fun x => (Lit.int .u8 x).wf = true) x) := (opens_array Try.underlying47 (by kernel_rfl) (by kernel_rfl) (by decide) (opens_int Try.underlying5))
set_option maxRecDepth 100000 in
theorem lifted (os : Os) (started : os.Started) (H : Type) (enc : TypeId × Value → H) :
    ReturnsInHanded {} Try.checked os 11 .any (Rows.sumTailsSpec.pre6 enc Try.prog Try.f11 Rows.sumTailsRow.domain false) (Rows.sumTailsSpec.post enc Try.prog Try.f11 false true false false) := by
  refine returnsInHanded_of_change_sized (C := Try.checked) own started (by kernel_rfl) Try.func11
    (ChangeSpec.witness6 (enc := enc) (C := Try.checked) false ⟨#[], #[.int .u32 0, .int .u32 0, .agg #[.int .u8 0, .int .u8 0, .int .u8 0, .int .u8 0]], []⟩ 8 (by kernel_rfl) (by kernel_rfl) (by kernel_rfl) (by kernel_rfl)) ?_
  intro W base args ds gs before hval0 hW hcnd hsz0 _
  have hsz : (DataW.weightsEach Try.prog (Try.f11.params.toList ++ Rows.sumTailsSpec.plain.varTypes Try.prog) (ds ++ gs)).all (· ≤ reachBytes) = true := hsz0
  have hval : ∀ (j : Nat) t v, Try.f11.params[j]? = some t → args[j]? = some v → Value.okWide Try.prog W .any base t v := hval0
  have hW' := hW
  obtain ⟨p, q, hA0, hV, rfl, hfz, hnd⟩ := hW
  have hA : DataW.TrodAll enc Try.prog W 0 (fun _ => true) true Try.f11.params.toList args.toList ds p := hA0
  rw [Try.params11] at hA hval hsz
  obtain ⟨v0, vs0, d0, ds0, p0, q0, hargs, rfl, rfl, h0, r0⟩ := trodAll_cons hA
  obtain ⟨v1, vs1, d1, ds1, p1, q1, rfl, rfl, rfl, h1, r1⟩ := trodAll_cons r0
  obtain ⟨v2, vs2, d2, ds2, p2, q2, rfl, rfl, rfl, h2, r2⟩ := trodAll_cons r1
  obtain ⟨rfl, rfl, rfl⟩ := trodAll_nil r2
  obtain rfl : args = #[v0, v1, v2] := by cases args; simp_all
  obtain ⟨rfl, rfl⟩ := trodVars_none hV
  have lt0 : ∀ x ∈ p0, x.block < W.heap.size := by obtain ⟨m, hm⟩ := h0; exact DataW.trod_lt m _ _ _ hm
  obtain ⟨x0, hK0, hx0⟩ := open_arg (opens0 enc W) hsz (j := 0) rfl rfl h0
  obtain ⟨cl0, hcl0⟩ : ∃ cl, cl = v0.cells.toList := ⟨_, rfl⟩
  rw [← hcl0] at hK0
  obtain ⟨a0, rfl⟩ : ∃ z, z = x0 := ⟨_, rfl⟩
  obtain rfl := (hK0)
  have w0 := hx0
  have hv0 : v0 = .int .u32 a0 := by
    obtain ⟨z, hz, _, _, _⟩ := open_int Try.underlying22 (hval 0 22 v0 rfl rfl) h0
    subst hz
    have := hcl0
    simpa [Value.cells] using this.symm
  subst hv0
  have lt1 : ∀ x ∈ p1, x.block < W.heap.size := by obtain ⟨m, hm⟩ := h1; exact DataW.trod_lt m _ _ _ hm
  obtain ⟨x1, hK1, hx1⟩ := open_arg (opens1 enc W) hsz (j := 1) rfl rfl h1
  obtain ⟨cl1, hcl1⟩ : ∃ cl, cl = v1.cells.toList := ⟨_, rfl⟩
  rw [← hcl1] at hK1
  obtain ⟨a1, rfl⟩ : ∃ z, z = x1 := ⟨_, rfl⟩
  obtain rfl := (hK1)
  have w1 := hx1
  have hv1 : v1 = .int .u32 a1 := by
    obtain ⟨z, hz, _, _, _⟩ := open_int Try.underlying22 (hval 1 22 v1 rfl rfl) h1
    subst hz
    have := hcl1
    simpa [Value.cells] using this.symm
  subst hv1
  have lt2 : ∀ x ∈ p2, x.block < W.heap.size := by obtain ⟨m, hm⟩ := h2; exact DataW.trod_lt m _ _ _ hm
  obtain ⟨x2, hK2, hx2⟩ := open_arg (opens2 enc W) hsz (j := 2) rfl rfl h2
  obtain ⟨cl2, hcl2⟩ : ∃ cl, cl = v2.cells.toList := ⟨_, rfl⟩
  rw [← hcl2] at hK2
  obtain ⟨l2, rfl⟩ : ∃ z, z = x2 := ⟨_, rfl⟩
  have hG2 := hx2
  obtain ⟨hL2, hE2⟩ := Kd.arr_cells hK2
  obtain ⟨cs2, rfl, _⟩ := okWide_array Try.underlying47 (hval 2 47 v2 rfl rfl)
  obtain rfl : cs2 = (nums .u8 l2).toArray := by
    apply Array.toList_inj.1
    exact hcl2.symm.trans hE2
  clear hA0 hval0 hsz0 hsz
  refine (Main.SumTails W a0 a1 l2 w0 w1 hL2 hG2).mono fun e W' ⟨he, bel⟩ => ?_
  subst he
  exact ⟨_, rfl, _, _, _, [], _, [], hW', trodAll_mk1 (shut_bool Try.underlying4 _), (trodAll_cons_mk (Below.trod laidOut (by kernel_rfl) (of_decide_eq_true (by kernel_rfl)) h0 bel lt0) (trodAll_cons_mk (Below.trod laidOut (by kernel_rfl) (of_decide_eq_true (by kernel_rfl)) h1 bel lt1) (trodAll_cons_mk (Below.trod laidOut (by kernel_rfl) (of_decide_eq_true (by kernel_rfl)) h2 bel lt2) trodAll_mk0))), rfl, bel.frame _, fun h => by cases h⟩
theorem over : Rows.sumTailsRow.holds Try.pinned (OpenSpec.ofChange Rows.sumTailsSpec) :=
  OpenClaim.holds_of_wide 11 Try.f11 rfl rfl rfl rfl rfl rfl rfl ⟨rfl, rfl, rfl, rfl, rfl⟩ rfl rfl rfl rfl rfl (by kernel_rfl) Try.func11 (by kernel_rfl)
    (of_decide_eq_true (by kernel_rfl)) (by unfold Func.isWrapper; first | (rw [if_pos (by decide +kernel)]; kernel_rfl) | (rw [if_neg (by decide +kernel)]; exact ⟨rfl, rfl⟩))
    (fun os started H enc _ => lifted os started H enc)
theorem proved : Rows.SumTailsSaid := over
#print axioms proved
end Go.Proofs.Ytbnbpnnpbnpidaa.sumTails
namespace Go.Proofs.Ytbnbpnnpbnpidaa
/-- The row, under a short name, for the claim. -/
theorem sumTails_holds : Rows.SumTailsSaid := sumTails.proved
end Go.Proofs.Ytbnbpnnpbnpidaa
