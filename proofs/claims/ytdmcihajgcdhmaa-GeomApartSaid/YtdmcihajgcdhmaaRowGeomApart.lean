/- The row of the law GeomApart: called with whatever arguments, it answers true, and each argument reads behind the call as before.
   No condition. -/
import Derived.Test.YtdmcihajgcdhmaaRows
import Derived.Test.YtdmcihajgcdhmaaOpen
import Derived.Test.YtdmcihajgcdhmaaMainGeomApart
import Derived.WalkKit
import Derived.ProofKit
import Derived.OpenShut
import Derived.ShutString
import Derived.ChangeOld
import Derived.Below
import Derived.SizedLaws
import Derived.Carry
namespace Go.Proofs.Ytdmcihajgcdhmaa.geomApart
open Go.ChangeShapes Go.WideShapes Go.ChangeAt Go.RowKit Go.Proofs.YtdmcihajgcdhmaaW.PrintWords Go.Proofs.Ytdmcihajgcdhmaa.Open
set_option linter.unusedVariables false
theorem own : ownKnob Try.prog.godebug = none := by kernel_rfl
theorem laidOut : laidOutB Try.prog = true := by kernel_rfl
theorem opens0 {H : Type} (enc : TypeId × Value → H) (W : World) : Opens enc Try.prog W 70 ((Kd.pair (Kd.pair (Kd.int .i64) (Kd.pair (Kd.int .i64) (Kd.pair (Kd.int .i64) (Kd.int .i64)))) (Kd.pair (Kd.int .i64) (Kd.pair (Kd.int .i64) (Kd.slice 3 (Kd.int .i64))))) : Kd ((Int × (Int × (Int × Int))) × (Int × (Int × (List Int))))) (fun x => (fun x => (fun x => (Lit.int .i64 x).wf = true) x.1 ∧ (fun x => (fun x => (Lit.int .i64 x).wf = true) x.1 ∧ (fun x => (fun x => (Lit.int .i64 x).wf = true) x.1 ∧ (fun x => (Lit.int .i64 x).wf = true) x.2) x.2) x.2) x.1 ∧ (fun x => (fun x => (Lit.int .i64 x).wf = true) x.1 ∧ (fun x => (fun x => (Lit.int .i64 x).wf = true) x.1 ∧ (fun l => l.length * 8 ≤ 140737488351232 ∧ l.length ≤ 9223372036854775807 ∧ ∀ x ∈ l, (fun x => (Lit.int .i64 x).wf = true) x) x.2) x.2) x.2) := (opens_struct Try.underlying70 (by kernel_rfl) (opensF_cons rfl (by kernel_rfl) rfl (opens_struct Try.underlying24 (by kernel_rfl) (opensF_cons rfl (by kernel_rfl) rfl (opens_int Try.underlying3) (opensF_cons rfl (by kernel_rfl) rfl (opens_int Try.underlying3) (opensF_cons rfl (by kernel_rfl) rfl (opens_int Try.underlying3) (opensF_last rfl (by kernel_rfl) (opens_int Try.underlying3)))))) (opensF_cons rfl (by kernel_rfl) rfl (opens_int Try.underlying3) (opensF_cons rfl (by kernel_rfl) rfl (opens_int Try.underlying3) (opensF_last rfl (by kernel_rfl) (opens_slice Try.underlying68 (by kernel_rfl) (by kernel_rfl) (opens_int Try.underlying3)))))))
set_option maxRecDepth 100000 in
theorem lifted (os : Os) (started : os.Started) (H : Type) (enc : TypeId × Value → H) :
    ReturnsInHanded {} Try.checked os 15 .any (Rows.geomApartSpec.pre6 enc Try.prog Try.f15 Rows.geomApartRow.domain false) (Rows.geomApartSpec.post enc Try.prog Try.f15 false true false false) := by
  refine returnsInHanded_of_change_sized (C := Try.checked) own started (by kernel_rfl) Try.func15
    (ChangeSpec.witness6 (enc := enc) (C := Try.checked) false ⟨#[], #[.agg #[.int .i64 0, .int .i64 0, .int .i64 0, .int .i64 0, .int .i64 0, .int .i64 0, .slice none 0 0]], []⟩ 8 (by kernel_rfl) (by kernel_rfl) (by kernel_rfl) (by kernel_rfl)) ?_
  intro W base args ds gs before hval0 hW hcnd hsz0 _
  have hsz : (DataW.weightsEach Try.prog (Try.f15.params.toList ++ Rows.geomApartSpec.plain.varTypes Try.prog) (ds ++ gs)).all (· ≤ reachBytes) = true := hsz0
  have hval : ∀ (j : Nat) t v, Try.f15.params[j]? = some t → args[j]? = some v → Value.okWide Try.prog W .any base t v := hval0
  have hW' := hW
  obtain ⟨p, q, hA0, hV, rfl, hfz, hnd⟩ := hW
  have hA : DataW.TrodAll enc Try.prog W 0 (fun _ => true) true Try.f15.params.toList args.toList ds p := hA0
  rw [Try.params15] at hA hval hsz
  obtain ⟨v0, vs0, d0, ds0, p0, q0, hargs, rfl, rfl, h0, r0⟩ := trodAll_cons hA
  obtain ⟨rfl, rfl, rfl⟩ := trodAll_nil r0
  obtain rfl : args = #[v0] := by cases args; simp_all
  obtain ⟨rfl, rfl⟩ := trodVars_none hV
  have lt0 : ∀ x ∈ p0, x.block < W.heap.size := by obtain ⟨m, hm⟩ := h0; exact DataW.trod_lt m _ _ _ hm
  obtain ⟨x0, hK0, hx0⟩ := open_arg (opens0 enc W) hsz (j := 0) rfl rfl h0
  obtain ⟨cl0, hcl0⟩ : ∃ cl, cl = v0.cells.toList := ⟨_, rfl⟩
  rw [← hcl0] at hK0
  obtain ⟨⟨a0_0, ⟨a0_1, ⟨a0_2, a0_3⟩⟩⟩, ⟨a0_4, ⟨a0_5, l0_6⟩⟩⟩ := x0
  obtain ⟨_, _, rfl, ⟨_, _, rfl, rfl, ⟨_, _, rfl, rfl, ⟨_, _, rfl, rfl, rfl⟩⟩⟩, ⟨_, _, rfl, rfl, ⟨_, _, rfl, rfl, ⟨A0_6, c0_6, rfl, hc0_6, hC0_6⟩⟩⟩⟩ := (hK0)
  obtain ⟨⟨w0_0, ⟨w0_1, ⟨w0_2, w0_3⟩⟩⟩, ⟨w0_4, ⟨w0_5, hG0_6⟩⟩⟩ := hx0
  obtain ⟨cs0, rfl, _⟩ := okWide_struct Try.underlying70 (hval 0 70 v0 rfl rfl)
  obtain rfl : cs0 = #[.int .i64 a0_0, .int .i64 a0_1, .int .i64 a0_2, .int .i64 a0_3, .int .i64 a0_4, .int .i64 a0_5, .slice A0_6 l0_6.length c0_6] := by
    apply Array.toList_inj.1
    exact hcl0.symm
  clear hA0 hval0 hsz0 hsz
  refine (Main.GeomApart W a0_0 a0_1 a0_2 a0_3 a0_4 a0_5 A0_6 c0_6 l0_6 w0_0 w0_1 w0_2 w0_3 w0_4 w0_5 hC0_6 hc0_6 hG0_6).mono fun e W' ⟨he, bel⟩ => ?_
  subst he
  exact ⟨_, rfl, _, _, _, [], _, [], hW', trodAll_mk1 (shut_bool Try.underlying4 _), (trodAll_cons_mk (Below.trod laidOut (by kernel_rfl) (of_decide_eq_true (by kernel_rfl)) h0 bel lt0) trodAll_mk0), rfl, bel.frame _, fun h => by cases h⟩
theorem over : Rows.geomApartRow.holds Try.pinned (OpenSpec.ofChange Rows.geomApartSpec) :=
  OpenClaim.holds_of_wide 15 Try.f15 rfl rfl rfl rfl rfl rfl rfl ⟨rfl, rfl, rfl, rfl, rfl⟩ rfl rfl rfl rfl rfl (by kernel_rfl) Try.func15 (by kernel_rfl)
    (of_decide_eq_true (by kernel_rfl)) (by unfold Func.isWrapper; first | (rw [if_pos (by decide +kernel)]; kernel_rfl) | (rw [if_neg (by decide +kernel)]; exact ⟨rfl, rfl⟩))
    (fun os started H enc _ => lifted os started H enc)
theorem proved : Rows.GeomApartSaid := over
#print axioms proved
end Go.Proofs.Ytdmcihajgcdhmaa.geomApart
namespace Go.Proofs.Ytdmcihajgcdhmaa
/-- The row, under a short name, for the claim. -/
theorem geomApart_holds : Rows.GeomApartSaid := geomApart.proved
end Go.Proofs.Ytdmcihajgcdhmaa
