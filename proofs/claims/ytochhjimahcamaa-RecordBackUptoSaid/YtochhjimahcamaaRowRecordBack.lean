/- The row of the law RecordBack: called with whatever arguments, it answers true, and each argument reads behind the call as before.
   No condition. -/
import Derived.Test.YtochhjimahcamaaRows
import Derived.Test.YtochhjimahcamaaOpen
import Derived.Test.YtochhjimahcamaaMainRecordBack
import Derived.WalkKit
import Derived.ProofKit
import Derived.OpenShut
import Derived.ShutString
import Derived.ChangeOld
import Derived.Below
import Derived.SizedLaws
import Derived.Carry
import Derived.JoinedCond
import Derived.Deep.CondSized
import Derived.Deep.Slices
namespace Go.Proofs.Ytochhjimahcamaa.recordBack
open Go.ChangeShapes Go.WideShapes Go.ChangeAt Go.RowKit Go.Proofs.YtochhjimahcamaaW.PrintWords Go.Proofs.Ytochhjimahcamaa.Open
set_option linter.unusedVariables false
theorem one_le {H : Type} (d : DataW H) : 1 ≤ Rows.uptoBulk d := by
  cases d with
  | lit l => cases l <;> simp [Rows.uptoBulk]
  | nil => simp [Rows.uptoBulk]
  | ptr d => simp [Rows.uptoBulk]
  | slice elems spare => simp [Rows.uptoBulk]
  | agg parts => simp [Rows.uptoBulk]
  | iface t d => simp [Rows.uptoBulk]
  | map entries => simp [Rows.uptoBulk]
  | held h => simp [Rows.uptoBulk]
theorem part_le {H : Type} {d : DataW H} {l : List (DataW H)} (h : d ∈ l) : Rows.uptoBulk d ≤ Rows.uptoBulkAll l := by
  induction l with
  | nil => cases h
  | cons x r ih =>
    simp only [Rows.uptoBulkAll]
    cases List.mem_cons.1 h with
    | inl e => subst e; omega
    | inr e => have := ih e; omega
theorem length_le {H : Type} (l : List (DataW H)) : l.length ≤ Rows.uptoBulkAll l := by
  induction l with
  | nil => simp [Rows.uptoBulkAll]
  | cons x r ih => have := one_le x; simp only [Rows.uptoBulkAll, List.length_cons]; omega
/-- A slice's length is at most the bulk of what it reads as. -/
theorem slice_len {H : Type} {enc : TypeId × Value → H} {P : Program} {W : World} {base : Nat} {spare : Nat → Bool} {held : Bool} {t e : TypeId} {A : Option Addr} {n c : Nat} {d : DataW H} {p : List MemPlace}
    (ht : P.underlying t = some (.slice e)) (h : ∃ m, DataW.trod enc P W base spare held m t [.slice A n c] = some (d, p)) : n ≤ Rows.uptoBulk d := by
  obtain ⟨m, hm⟩ := h
  rcases DataW.trod_slice ht hm with ⟨h1, h2⟩ | ⟨a, len, cap, elems, rest, k, _, h1, h2, _, _, _, hl, _⟩
  · simp only [List.cons.injEq, Value.slice.injEq, and_true] at h1
    omega
  · simp only [List.cons.injEq, Value.slice.injEq, and_true] at h1
    simp only [Prod.mk.injEq] at h2
    obtain ⟨rfl, _⟩ := h2
    have := length_le (elems.map (·.1))
    rw [List.length_map] at this
    simp only [Rows.uptoBulk]
    omega
theorem own : ownKnob Try.prog.godebug = none := by kernel_rfl
theorem laidOut : laidOutB Try.prog = true := by kernel_rfl
theorem opens0 {H : Type} (enc : TypeId × Value → H) (W : World) : Opens enc Try.prog W 23 ((Kd.pair (Kd.int .i64) (Kd.pair (Kd.int .i64) (Kd.pair (Kd.int .i64) (Kd.int .i64)))) : Kd (Int × (Int × (Int × Int)))) (fun x => (fun x => (Lit.int .i64 x).wf = true) x.1 ∧ (fun x => (fun x => (Lit.int .i64 x).wf = true) x.1 ∧ (fun x => (fun x => (Lit.int .i64 x).wf = true) x.1 ∧ (fun x => (Lit.int .i64 x).wf = true) x.2) x.2) x.2) := (opens_struct Try.underlying23 (by kernel_rfl) (opensF_cons rfl (by kernel_rfl) rfl (opens_int Try.underlying3) (opensF_cons rfl (by kernel_rfl) rfl (opens_int Try.underlying3) (opensF_cons rfl (by kernel_rfl) rfl (opens_int Try.underlying3) (opensF_last rfl (by kernel_rfl) (opens_int Try.underlying3))))))
theorem opens1 {H : Type} (enc : TypeId × Value → H) (W : World) : Opens enc Try.prog W 24 ((Kd.int .u32) : Kd Int) (fun x => (Lit.int .u32 x).wf = true) := (opens_int Try.underlying24)
theorem opens2 {H : Type} (enc : TypeId × Value → H) (W : World) : Opens enc Try.prog W 27 ((Kd.pair (Kd.int .i64) (Kd.pair (Kd.int .u64) (Kd.pair Kd.string Kd.string))) : Kd (Int × (Int × (ByteArray × ByteArray)))) (fun x => (fun x => (Lit.int .i64 x).wf = true) x.1 ∧ (fun x => (fun x => (Lit.int .u64 x).wf = true) x.1 ∧ (fun x => (fun s => s.size ≤ 140737488351232) x.1 ∧ (fun s => s.size ≤ 140737488351232) x.2) x.2) x.2) := (opens_struct Try.underlying27 (by kernel_rfl) (opensF_cons rfl (by kernel_rfl) rfl (opens_int Try.underlying3) (opensF_cons rfl (by kernel_rfl) rfl (opens_int Try.underlying25) (opensF_cons rfl (by kernel_rfl) rfl (opens_string Try.underlying9) (opensF_last rfl (by kernel_rfl) (opens_string Try.underlying9))))))
theorem opens3 {H : Type} (enc : TypeId × Value → H) (W : World) : Opens enc Try.prog W 28 ((Kd.slice 5 (Kd.int .u8)) : Kd (List Int)) (fun l => l.length * 1 ≤ 140737488351232 ∧ l.length ≤ 9223372036854775807 ∧ ∀ x ∈ l, (fun x => (Lit.int .u8 x).wf = true) x) := (opens_slice Try.underlying28 (by kernel_rfl) (by kernel_rfl) (opens_int Try.underlying5))
theorem opens4 {H : Type} (enc : TypeId × Value → H) (W : World) : Opens enc Try.prog W 28 ((Kd.slice 5 (Kd.int .u8)) : Kd (List Int)) (fun l => l.length * 1 ≤ 140737488351232 ∧ l.length ≤ 9223372036854775807 ∧ ∀ x ∈ l, (fun x => (Lit.int .u8 x).wf = true) x) := (opens_slice Try.underlying28 (by kernel_rfl) (by kernel_rfl) (opens_int Try.underlying5))
set_option maxRecDepth 100000 in
theorem lifted (os : Os) (started : os.Started) (H : Type) (enc : TypeId × Value → H) (F : Stop.Interp) :
    ReturnsInHanded {} Try.checked os 5 .any ((Rows.OpenSpec.upto Rows.recordBackSpec).pre6 enc Try.prog Try.f5 Rows.recordBackUptoRow.domain false) (((Rows.OpenSpec.upto Rows.recordBackSpec).at F).post enc Try.prog Try.f5 false true false false) := by
  refine returnsInHanded_of_cond_sized (C := Try.checked) (s := (Rows.OpenSpec.upto Rows.recordBackSpec)) (k := Rows.uptoSmall) rfl own started (by kernel_rfl) Try.func5
    (OpenSpec.witness (enc := enc) (C := Try.checked) (s := (Rows.OpenSpec.upto Rows.recordBackSpec)) (k := Rows.uptoSmall) rfl false ⟨#[], #[.agg #[.int .i64 0, .int .i64 0, .int .i64 0, .int .i64 0], .int .u32 0, .agg #[.int .i64 0, .int .u64 0, .string ByteArray.empty, .string ByteArray.empty], .slice none 0 0, .slice none 0 0], []⟩ 8 (by kernel_rfl) (by kernel_rfl) (by kernel_rfl)
      (x := ([.agg [.lit (.int .i64 0), .lit (.int .i64 0), .lit (.int .i64 0), .lit (.int .i64 0)], .lit (.int .u32 0), .agg [.lit (.int .i64 0), .lit (.int .u64 0), .lit (.string []), .lit (.string [])], .nil, .nil], [], [])) (by kernel_rfl) rfl (by kernel_rfl)) ?_
  intro W base args ds gs before hval0 hW hcnd hk0 hsz0 _
  have hsz : (DataW.weightsEach Try.prog (Try.f5.params.toList ++ Rows.recordBackSpec.plain.varTypes Try.prog) (ds ++ gs)).all (· ≤ reachBytes) = true := hsz0
  have hval : ∀ (j : Nat) t v, Try.f5.params[j]? = some t → args[j]? = some v → Value.okWide Try.prog W .any base t v := hval0
  have hW' := hW
  obtain ⟨p, q, hA0, hV, rfl, hfz, hnd⟩ := hW
  have hA : DataW.TrodAll enc Try.prog W 0 (fun _ => true) true Try.f5.params.toList args.toList ds p := hA0
  rw [Try.params5] at hA hval hsz
  obtain ⟨v0, vs0, d0, ds0, p0, q0, hargs, rfl, rfl, h0, r0⟩ := trodAll_cons hA
  obtain ⟨v1, vs1, d1, ds1, p1, q1, rfl, rfl, rfl, h1, r1⟩ := trodAll_cons r0
  obtain ⟨v2, vs2, d2, ds2, p2, q2, rfl, rfl, rfl, h2, r2⟩ := trodAll_cons r1
  obtain ⟨v3, vs3, d3, ds3, p3, q3, rfl, rfl, rfl, h3, r3⟩ := trodAll_cons r2
  obtain ⟨v4, vs4, d4, ds4, p4, q4, rfl, rfl, rfl, h4, r4⟩ := trodAll_cons r3
  obtain ⟨rfl, rfl, rfl⟩ := trodAll_nil r4
  obtain rfl : args = #[v0, v1, v2, v3, v4] := by cases args; simp_all
  obtain ⟨rfl, rfl⟩ := trodVars_none hV
  have lt0 : ∀ x ∈ p0, x.block < W.heap.size := by obtain ⟨m, hm⟩ := h0; exact DataW.trod_lt m _ _ _ hm
  obtain ⟨x0, hK0, hx0⟩ := open_arg (opens0 enc W) hsz (j := 0) rfl rfl h0
  obtain ⟨cl0, hcl0⟩ : ∃ cl, cl = v0.cells.toList := ⟨_, rfl⟩
  rw [← hcl0] at hK0
  obtain ⟨a0_0, ⟨a0_1, ⟨a0_2, a0_3⟩⟩⟩ := x0
  obtain ⟨_, _, rfl, rfl, ⟨_, _, rfl, rfl, ⟨_, _, rfl, rfl, rfl⟩⟩⟩ := (hK0)
  obtain ⟨w0_0, ⟨w0_1, ⟨w0_2, w0_3⟩⟩⟩ := hx0
  obtain ⟨cs0, rfl, _⟩ := okWide_struct Try.underlying23 (hval 0 23 v0 rfl rfl)
  obtain rfl : cs0 = #[.int .i64 a0_0, .int .i64 a0_1, .int .i64 a0_2, .int .i64 a0_3] := by
    apply Array.toList_inj.1
    exact hcl0.symm
  have lt1 : ∀ x ∈ p1, x.block < W.heap.size := by obtain ⟨m, hm⟩ := h1; exact DataW.trod_lt m _ _ _ hm
  obtain ⟨x1, hK1, hx1⟩ := open_arg (opens1 enc W) hsz (j := 1) rfl rfl h1
  obtain ⟨cl1, hcl1⟩ : ∃ cl, cl = v1.cells.toList := ⟨_, rfl⟩
  rw [← hcl1] at hK1
  obtain ⟨a1, rfl⟩ : ∃ z, z = x1 := ⟨_, rfl⟩
  obtain rfl := (hK1)
  have w1 := hx1
  have hv1 : v1 = .int .u32 a1 := by
    obtain ⟨z, hz, _, _, _⟩ := open_int Try.underlying24 (hval 1 24 v1 rfl rfl) h1
    subst hz
    have := hcl1
    simpa [Value.cells] using this.symm
  subst hv1
  have lt2 : ∀ x ∈ p2, x.block < W.heap.size := by obtain ⟨m, hm⟩ := h2; exact DataW.trod_lt m _ _ _ hm
  obtain ⟨x2, hK2, hx2⟩ := open_arg (opens2 enc W) hsz (j := 2) rfl rfl h2
  obtain ⟨cl2, hcl2⟩ : ∃ cl, cl = v2.cells.toList := ⟨_, rfl⟩
  rw [← hcl2] at hK2
  obtain ⟨a2_0, ⟨a2_1, ⟨a2_2, a2_3⟩⟩⟩ := x2
  obtain ⟨_, _, rfl, rfl, ⟨_, _, rfl, rfl, ⟨_, _, rfl, rfl, rfl⟩⟩⟩ := (hK2)
  obtain ⟨w2_0, ⟨w2_1, ⟨y2_2, y2_3⟩⟩⟩ := hx2
  obtain ⟨cs2, rfl, _⟩ := okWide_struct Try.underlying27 (hval 2 27 v2 rfl rfl)
  obtain rfl : cs2 = #[.int .i64 a2_0, .int .u64 a2_1, .string a2_2, .string a2_3] := by
    apply Array.toList_inj.1
    exact hcl2.symm
  have lt3 : ∀ x ∈ p3, x.block < W.heap.size := by obtain ⟨m, hm⟩ := h3; exact DataW.trod_lt m _ _ _ hm
  obtain ⟨x3, hK3, hx3⟩ := open_arg (opens3 enc W) hsz (j := 3) rfl rfl h3
  obtain ⟨cl3, hcl3⟩ : ∃ cl, cl = v3.cells.toList := ⟨_, rfl⟩
  rw [← hcl3] at hK3
  obtain ⟨l3, rfl⟩ : ∃ z, z = x3 := ⟨_, rfl⟩
  obtain ⟨A3, c3, rfl, hc3, hC3⟩ := (hK3)
  have hG3 := hx3
  obtain ⟨sa3, sl3, sc3, rfl⟩ := okWide_slice Try.underlying28 (hval 3 28 v3 rfl rfl)
  have hcl3' : [Value.slice A3 l3.length c3] = [Value.slice sa3 sl3 sc3] := hcl3
  simp only [List.cons.injEq, Value.slice.injEq, and_true] at hcl3'
  obtain ⟨rfl, rfl, rfl⟩ := hcl3'
  have lt4 : ∀ x ∈ p4, x.block < W.heap.size := by obtain ⟨m, hm⟩ := h4; exact DataW.trod_lt m _ _ _ hm
  obtain ⟨x4, hK4, hx4⟩ := open_arg (opens4 enc W) hsz (j := 4) rfl rfl h4
  obtain ⟨cl4, hcl4⟩ : ∃ cl, cl = v4.cells.toList := ⟨_, rfl⟩
  rw [← hcl4] at hK4
  obtain ⟨l4, rfl⟩ : ∃ z, z = x4 := ⟨_, rfl⟩
  obtain ⟨A4, c4, rfl, hc4, hC4⟩ := (hK4)
  have hG4 := hx4
  obtain ⟨sa4, sl4, sc4, rfl⟩ := okWide_slice Try.underlying28 (hval 4 28 v4 rfl rfl)
  have hcl4' : [Value.slice A4 l4.length c4] = [Value.slice sa4 sl4 sc4] := hcl4
  simp only [List.cons.injEq, Value.slice.injEq, and_true] at hcl4'
  obtain ⟨rfl, rfl, rfl⟩ := hcl4'
  have hkb : Rows.uptoBulkAll _ ≤ 1048576 := of_decide_eq_true hk0
  have hu3 : l3.length ≤ 1048576 := Nat.le_trans (slice_len Try.underlying28 h3) (Nat.le_trans (part_le (by simp)) hkb)
  have hu4 : l4.length ≤ 1048576 := Nat.le_trans (slice_len Try.underlying28 h4) (Nat.le_trans (part_le (by simp)) hkb)
  clear hA0 hval0 hsz0 hsz hk0 hkb
  refine (Main.RecordBack W a0_0 a0_1 a0_2 a0_3 a1 a2_0 a2_1 a2_2 a2_3 A3 c3 l3 A4 c4 l4 w0_0 w0_1 w0_2 w0_3 w1 w2_0 w2_1 y2_2 y2_3 hC3 hc3 hG3 hC4 hc4 hG4 hu3 hu4).mono fun e W' ⟨he, bel⟩ => ?_
  subst he
  exact ⟨_, rfl, _, _, _, [], _, [], hW', trodAll_mk1 (shut_bool Try.underlying4 _), (trodAll_cons_mk (Below.trod laidOut (by kernel_rfl) (of_decide_eq_true (by kernel_rfl)) h0 bel lt0) (trodAll_cons_mk (Below.trod laidOut (by kernel_rfl) (of_decide_eq_true (by kernel_rfl)) h1 bel lt1) (trodAll_cons_mk (Below.trod laidOut (by kernel_rfl) (of_decide_eq_true (by kernel_rfl)) h2 bel lt2) (trodAll_cons_mk (Below.trod laidOut (by kernel_rfl) (of_decide_eq_true (by kernel_rfl)) h3 bel lt3) (trodAll_cons_mk (Below.trod laidOut (by kernel_rfl) (of_decide_eq_true (by kernel_rfl)) h4 bel lt4) trodAll_mk0))))), rfl, bel.frame _, fun h => by cases h⟩
theorem over : Rows.RecordBackUptoSaid :=
  OpenClaim.holds_of_cond 5 Try.f5 rfl rfl rfl rfl rfl rfl rfl ⟨rfl, rfl, rfl, rfl, rfl⟩ rfl rfl rfl rfl rfl (by kernel_rfl) Try.func5 (by kernel_rfl)
    (of_decide_eq_true (by kernel_rfl)) (by unfold Func.isWrapper; first | (rw [if_pos (by decide +kernel)]; kernel_rfl) | (rw [if_neg (by decide +kernel)]; exact ⟨rfl, rfl⟩))
    (fun os started H enc _ F => lifted os started H enc F)
theorem proved : Rows.RecordBackUptoSaid := over
#print axioms proved
end Go.Proofs.Ytochhjimahcamaa.recordBack
namespace Go.Proofs.Ytochhjimahcamaa
/-- The row, under a short name, for the claim. -/
theorem recordBack_holds : Rows.RecordBackUptoSaid := recordBack.proved
end Go.Proofs.Ytochhjimahcamaa
