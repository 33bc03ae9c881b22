/- The same calls, no step of which waits.
   No condition. -/
import Derived.Test.YtkigbgabnbjomaaSchH
import Derived.ArgAppend
import Derived.BigRegion
import Derived.Deep.QuietTactic
import Derived.BigQuiet
import Derived.Deep.RegionHeld3
import Derived.ChangeAlike
import Derived.RegionTactic
import Derived.Deep.DeepCutAuto
import Derived.Deep.CutBlock
import Derived.Deep.RegionLaw
import Derived.StillTailTactics
import Derived.WalkSpells
import Derived.Lib.SliceRun
namespace Go.Proofs.Ytkigbgabnbjomaa.Sched
open Go.Proofs.Ytkigbgabnbjomaa.PSchedPlays
open Go.RowKit Go.Proofs.YtkigbgabnbjomaaW.PrintWords Go.Proofs.YtkigbgabnbjomaaW.PrintLast Go.Proofs.YtkigbgabnbjomaaW.PrintMore
attribute [local go_sem] max2_int min2_int max_two min_two   -- for this text's walks alone
set_option linter.unusedVariables false
set_option linter.unusedSimpArgs false
/-! ### still -/
abbrev kT2 : Kd (List S26) := Kd.slice 26 k26
abbrev kT1 : Kd (List (List S26)) := Kd.slice 22 kT2
theorem info65 : (Try.prog.info? 65).map (fun i => (i.zero, i.size, i.bytes)) = some (some (.slice none 0 0), 1, 24) := by kernel_rfl
theorem info22 : (Try.prog.info? 22).map (fun i => (i.zero, i.size, i.bytes)) = some (some (.slice none 0 0), 1, 24) := by kernel_rfl
/-- As many turns, none of which waits. -/
def calm (cl : List (List S26)) : List (List S26) := cl.map fun turns => List.replicate turns.length z26
def calms (calls : List (List (List S26))) : List (List (List S26)) := calls.map calm
def OutC (w wr : World) (vout : Value) (cs : List (List (List S26))) : Prop := kT1.R 65 wr w.heap.size (fun b => w.heap.size ≤ b) vout cs ∧ Below w.heap.size w wr
def InC (w wr : World) (vout vl : Value) (cs : List (List (List S26))) (cl : List (List S26)) : Prop :=
  kT1.R 65 wr w.heap.size (fun b => w.heap.size ≤ b ∧ some b ≠ vl.ownBlock) vout cs ∧ kT2.R 22 wr w.heap.size (fun b => w.heap.size ≤ b) vl cl ∧ Below w.heap.size w wr
theorem InC.start {w wr : World} {vout : Value} {cs : List (List (List S26))} (h : OutC w wr vout cs) : InC w wr vout (.slice none 0 0) cs [] :=
  ⟨Kd.R_mono h.1 (fun k hk => ⟨hk, by simp [Value.ownBlock]⟩), Kd.R_nil _ _ _ _ _, h.2⟩
/-- Behind the make and the append. -/
theorem InC.push {w wr w1 w2 : World} {vout vl v1 : Value} {cs : List (List (List S26))} {cl cl' : List (List S26)} (h : InC w wr vout vl cs cl) (hb : Below wr.heap.size wr w1) (hR : kT2.R 22 w2 w.heap.size (fun b => w.heap.size ≤ b) v1 cl') (hB : Below w.heap.size w w2) (hg : w1.grownBy w2 vl.ownBlock) (hat : v1.ownBlock = vl.ownBlock ∨ ∃ b, v1.ownBlock = some b ∧ w1.heap.size ≤ b) : InC w w2 vout v1 cs cl' := by
  refine ⟨?_, hR, hB⟩
  have g1 := Kd.R_below h.1 hb
  have g4 := Kd.R_bound g1
  have g5 : kT1.R 65 w1 w.heap.size (fun b => (w.heap.size ≤ b ∧ some b ≠ v1.ownBlock) ∧ some b ≠ vl.ownBlock) vout cs := Kd.R_mono g4 (fun k hk => by
    refine ⟨⟨hk.1.1, ?_⟩, hk.1.2⟩
    rcases hat with e | ⟨b, e, hle⟩
    · rw [e]; exact hk.1.2
    · rw [e]; intro e2; injection e2 with e2; have := hk.2.2.1; omega)
  exact Kd.R_mono (Kd.R_grown g5 hg (fun k hk => hk.2)) (fun k hk => hk.1)
def Calm (w : World) (calls : List (List (List S26))) (en : Ending) (w' : World) : Prop := ∃ v, en = .returned v ∧ OutC w w' v (calms calls)
set_option maxHeartbeats 8000000 in
set_option maxRecDepth 100000 in
theorem still_walk {w : World} {A : Option Addr} {c : Nat} {calls : List (List (List S26))} (hC : (Kd.slice 22 (Kd.slice 26 k26)).C w A calls.length calls) (hs : Sizes calls) :
    Calls Try.prog 18 #[.slice A calls.length c] w (Calm w calls) := by
  have HC := Aside0.mk hC
  have HS := Aside0.mk hs
  have S0 : Aside0 (OutC w w (.slice none 0 0) (calms (calls.take 0))) := ⟨Kd.R_nil _ _ _ _ _, Below.refl _ _⟩
  obtain ⟨n, hn⟩ : ∃ n, calls.length = n := ⟨_, rfl⟩
  have HN := Aside0.mk hn
  have hn24 : n * 24 ≤ 140737488355328 := by rw [← hn]; exact hs.1
  rw [hn]
  clear hC hs hn
  go_enter Try.func18, Try.ntmps18
  go_wp2
  go_loopw [3, 4] (fun vo idx wr => ∃ i : Nat, i ≤ n ∧ idx = .int .i64 (i : Int) ∧ Aside0 (OutC w wr vo (calms (calls.take i)))) (fun _ idx _ => n - (intOf idx).toNat)
  case atStart => exact ⟨0, Nat.zero_le _, rfl, S0⟩
  case round =>
    obtain ⟨i, hi, rfl, SI⟩ := hrel
    by_cases hlt : i < n
    · have HBR : Aside0 (Below w.heap.size w wr) := ⟨SI.out.2⟩
      obtain ⟨cl, hcl⟩ : ∃ cl, rd_L5 calls (i : Int) = cl := ⟨_, rfl⟩
      have hil : i < calls.length := by have := HN.out; omega
      have hmem : cl ∈ calls := by
        rw [← hcl]
        simp only [rd_L5, Int.toNat_natCast]
        rw [List.getD_eq_getElem?_getD, List.getElem?_eq_getElem hil]
        exact List.getElem_mem hil
      have HT : Aside0 (calms (calls.take (i + 1)) = calms (calls.take i) ++ [calm cl]) := ⟨by
        unfold calms
        rw [List.take_succ_eq_append_getElem hil, ← hcl, List.map_append]
        simp [rd_L5, List.getD_eq_getElem?_getD, List.getElem?_eq_getElem hil]⟩
      have HCL := Aside0.mk hcl
      have HSZ := Aside0.mk (HS.out.2 cl hmem)
      obtain ⟨m, hm⟩ : ∃ m, cl.length = m := ⟨_, rfl⟩
      have HM := Aside0.mk hm
      have hm24 : m * 24 ≤ 140737488355328 := by rw [← hm]; exact HSZ.out.1
      have RD : Aside0 (∀ wi, Below w.heap.size w wi → ∃ ad A0 c0, A = some ad ∧ wi.cell? (ad.add i) = some (.slice A0 m c0) ∧ (Kd.slice 26 k26).C wi A0 m cl) := ⟨fun wi hb => by
        obtain ⟨ad, A0, c0, e, h1, h2, h3⟩ := at_L5 (Kd.C_below HC.out hb) (i : Int) (by omega) (by have := HN.out; omega)
        rw [hcl, hm] at h1 h3
        exact ⟨ad, A0, c0, e, h1, h3⟩⟩
      clear hcl hil hmem hm
      obtain ⟨wo, hwo⟩ : ∃ wo, wo = wr := ⟨_, rfl⟩
      rw [← hwo] at SI HBR
      rw [← hwo]
      clear hwo
      go_upto_region 7 with (fail)
      go_loopw [5, 6] (fun vl idx wi => ∃ k : Nat, k ≤ m ∧ idx = .int .i64 (k : Int) ∧ Aside0 (InC w wi u3 vl (calms (calls.take i)) (calm (cl.take k)))) (fun _ idx _ => m - (intOf idx).toNat)
      case atStart => exact ⟨0, Nat.zero_le _, rfl, ⟨InC.start SI.out⟩⟩
      case round =>
        obtain ⟨k, hk, rfl, SK⟩ := hrel
        have HBi : Aside0 (Below w.heap.size w wr) := ⟨SK.out.2.2⟩
        obtain ⟨ad, A0, c0, ea, z0, Cz⟩ := RD.out wr HBi.out
        subst ea
        have ix0 : decide ((i : Int) < (n : Int)) = true := decide_eq_true (by omega)
        by_cases hlt2 : k < m
        · obtain ⟨ad0, A1, c1, ea0, y0, hl1, Cy⟩ := at_L4 Cz (k : Int) (by omega) (by omega)
          subst ea0
          simp only [Int.toNat_natCast] at y0
          obtain ⟨turns, htn⟩ : ∃ turns, rd_L4 cl (k : Int) = turns := ⟨_, rfl⟩
          rw [htn] at y0 hl1 Cy
          have hkl : k < cl.length := by have := HM.out; omega
          have hmem : turns ∈ cl := by
            rw [← htn]
            simp only [rd_L4, Int.toNat_natCast]
            rw [List.getD_eq_getElem?_getD, List.getElem?_eq_getElem hkl]
            exact List.getElem_mem hkl
          have HT2 : Aside0 (calm (cl.take (k + 1)) = calm (cl.take k) ++ [List.replicate turns.length z26]) := ⟨by
            unfold calm
            rw [List.take_succ_eq_append_getElem hkl, ← htn, List.map_append]
            simp [rd_L4, List.getD_eq_getElem?_getD, List.getElem?_eq_getElem hkl]⟩
          have hsz := (HSZ.out.2 turns hmem).1
          have HL24 := Aside0.mk (show ((calm (cl.take k)).length + 1) * 24 ≤ 140737488355328 by unfold calm; rw [List.length_map, List.length_take]; omega)
          obtain ⟨tl, htl⟩ : ∃ tl, turns.length = tl := ⟨_, rfl⟩
          rw [htl] at HT2 y0 hsz
          have ix1 : decide ((k : Int) < (m : Int)) = true := decide_eq_true (by omega)
          have OKP : Aside0 (∀ b, wr.heap.size ≤ b → w.heap.size ≤ b ∧ some b ≠ u5.ownBlock) := ⟨fun b hb => ⟨Nat.le_trans HBi.out.size hb, fun e => by
            obtain ⟨inner, ho⟩ := Kd.R_own SK.out.2.1
            have := own_lt ho b e.symm
            omega⟩⟩
          clear Cz hl1 Cy htn hkl hmem htl
          go_wp2_with (first
            | (refine Kd.R_make k26 (w0 := wr) wr.heap.size 26 rfl (N := 31) rfl 22 (.tmp 30) (.tmp 30) rfl (tl : Int) rfl rfl Try.underlying22 (.agg #[.bool false, .bool false, .slice none 0 0]) 32 info26 rfl (by decide) (by decide) z26 (ok := fun k => wr.heap.size ≤ k) (okp := fun _ => False) (k26_mkM _ _ _ z26 (Kd.R_nil _ _ _ _ _)) (fun _ h => h.elim) (Nat.le_refl _) (by omega) (by simp; omega) (Below.refl _ _) (Nat.le_refl _) ?_; intro v6 w1 hR hb hg hat; rw [Int.toNat_natCast] at hR; obtain ⟨A6, c6, hv6⟩ := Kd.R_slice hR; rw [List.length_replicate] at hv6; subst hv6; have R6 := Aside0.mk hR; have B6 := Aside0.mk hb; have B7 := Aside0.mk (HBi.out.trans (hb.mono HBi.out.size)); have Z7 := Aside0.mk (Nat.le_trans HBi.out.size hb.size); have R7 := Aside0.mk (Kd.R_below SK.out.2.1 hb); clear hR hb hg hat)
            | (at_builtin; refine Kd.R_append kT2 (w0 := w) w.heap.size rfl (.tmp 22) (.tmp 32) 65 22 (.slice none 0 0) 24 rfl Try.underlying65 info22 rfl (by decide) (by decide) _ (calm (cl.take k)) (List.replicate tl z26) [.slice A6 tl c6] (fun b => w.heap.size ≤ b) (fun b => wr.heap.size ≤ b) rfl rfl ⟨_, rfl, Kd.R_lower R6.out HBi.out.size⟩ (fun b hb => OKP.out b hb) (fun b h => Nat.le_trans Z7.out h) R7.out B7.out Z7.out HL24.out ?_; intro v1 w2 hR hb hg hat; have SK1 := Aside0.mk (SK.out.push B6.out hR hb hg hat); clear hR hb hg hat))
          go_roundw
          case rel => exact ⟨k + 1, by omega, by go_num, ⟨by rw [HT2.out]; exact SK1.out⟩⟩
          case measure => simp [intOf]; omega
        · have hkl : k = m := by omega
          obtain ⟨q1, q2, q3⟩ := (show InC w wr u3 u5 (calms (calls.take i)) (calm cl) by have h := SK.out; rw [hkl, ← HM.out, List.take_length] at h; exact h)
          obtain ⟨vl, hvl⟩ : ∃ vl, u5 = vl := ⟨_, rfl⟩
          obtain ⟨Al, cvl, hv⟩ := Kd.R_slice q2
          subst hvl
          subst hv
          have Q2 : Aside0 (kT1.M wr w.heap.size (fun b => w.heap.size ≤ b ∧ some b ≠ u3.ownBlock) (calm cl) [.slice Al (calm cl).length cvl]) := ⟨⟨_, rfl, R_apart q2 q1 (by decide)⟩⟩
          have Q1 := Aside0.mk (Kd.R_mono q1 (fun k hk => hk.1))
          have Q4 := Aside0.mk q3
          have Q0 := Aside0.mk (show ((calms (calls.take i)).length + 1) * 24 ≤ 140737488355328 by
            unfold calms
            rw [List.length_map, List.length_take]
            omega)
          have Q6 := Aside0.mk q3.size
          clear q1 q2 q3 Cz
          go_wp2_with (at_builtin; refine Kd.R_append kT1 (w0 := w) w.heap.size rfl (.tmp 34) (.tmp 36) 35 65 (.slice none 0 0) 24 rfl Try.underlying35 info65 rfl (by decide) (by decide) _ (calms (calls.take i)) (calm cl) _ (fun b => w.heap.size ≤ b) (fun b => w.heap.size ≤ b ∧ some b ≠ u3.ownBlock) rfl rfl Q2.out (fun b h => h) (fun b h => Nat.le_trans Q6.out h) Q1.out Q4.out Q6.out Q0.out ?_; intro v1 w2 hR hb hg hat; have SI1 := Aside0.mk (And.intro hR hb); clear hR hb hg hat)
          go_roundw
          case rel => exact ⟨i + 1, by omega, by go_num, ⟨by rw [HT.out]; exact SI1.out⟩⟩
          case measure => simp [intOf]; omega
    · have hkl : i = n := by omega
      subst hkl
      go_wp2
      go_ret
      exact ⟨_, rfl, by have h := SI.out; rw [← HN.out, List.take_length] at h; exact h⟩
end Go.Proofs.Ytkigbgabnbjomaa.Sched
