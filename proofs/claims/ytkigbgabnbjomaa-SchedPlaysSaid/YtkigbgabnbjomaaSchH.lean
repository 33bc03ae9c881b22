/- From the row's reading to ours.
   No condition. -/
import Derived.Test.YtkigbgabnbjomaaSchG
import Derived.ArgAppend
import Derived.BigRegion
import Derived.Deep.QuietTactic
import Derived.BigQuiet
import Derived.Deep.RegionHeld3
import Derived.ChangeAlike
import Derived.RegionTactic
import Derived.Deep.DeepCutAuto
import Derived.Deep.CutBlock
import Derived.Deep.RegionLaw
import Derived.StillTailTactics
import Derived.WalkSpells
import Derived.Lib.SliceRun
namespace Go.Proofs.Ytkigbgabnbjomaa.Sched
open Go.Proofs.Ytkigbgabnbjomaa.PSchedPlays
open Go.RowKit Go.Proofs.YtkigbgabnbjomaaW.PrintWords Go.Proofs.YtkigbgabnbjomaaW.PrintLast Go.Proofs.YtkigbgabnbjomaaW.PrintMore
attribute [local go_sem] max2_int min2_int max_two min_two   -- for this text's walks alone
set_option linter.unusedVariables false
set_option linter.unusedSimpArgs false
/-! ### From the row's reading to ours -/
def s26 (x : Bool × (Bool × List Int)) : S26 := ⟨x.1, x.2.1, x.2.2⟩
abbrev kT := Kd.pair Kd.bool (Kd.pair Kd.bool (Kd.slice 3 (Kd.int .i64)))
theorem C_map {α β : Type} {d : Kd α} {d' : Kd β} (g : α → β) (hs : d.sz = d'.sz) (hK : ∀ w x cs, d.K w x cs → d'.K w (g x) cs) {w : World} {A : Option Addr} {n : Nat} {xs : List α} (h : d.C w A n xs) : d'.C w A n (xs.map g) := by
  refine ⟨by rw [List.length_map]; exact h.1, h.2.1, fun hn => ?_⟩
  obtain ⟨ad, e, hc⟩ := h.2.2 hn
  refine ⟨ad, e, fun j p hj => ?_⟩
  rw [List.getElem?_map] at hj
  cases hx : xs[j]? with
  | none => rw [hx] at hj; cases hj
  | some x =>
    rw [hx] at hj
    injection hj with hj
    subst hj
    obtain ⟨c, h1, h2, h3⟩ := hc j x hx
    rw [← hs]
    exact ⟨c, h1, hK _ _ _ h2, h3⟩
theorem sliceK_map {α β : Type} {d : Kd α} {d' : Kd β} (e : Nat) (g : α → β) (hs : d.sz = d'.sz) (hK : ∀ w x cs, d.K w x cs → d'.K w (g x) cs) : ∀ w (xs : List α) cs, (Kd.slice e d).K w xs cs → (Kd.slice e d').K w (xs.map g) cs := by
  rintro w xs cs ⟨A, c, rfl, hl, hc⟩
  refine ⟨A, c, by rw [List.length_map], by rw [List.length_map]; exact hl, ?_⟩
  rw [List.length_map]
  exact C_map g hs hK hc
theorem K_s26 : ∀ w x cs, kT.K w x cs → k26.K w (s26 x) cs := fun w x cs h => h
theorem C_s26 {w : World} {A : Option Addr} {n : Nat} {xs : List (Bool × (Bool × List Int))} (h : kT.C w A n xs) : k26.C w A n (xs.map s26) := C_map s26 rfl K_s26 h
def c26 (l : List (List (List (Bool × (Bool × List Int))))) : List (List (List S26)) := l.map (List.map (List.map s26))
theorem C_c26 {w : World} {A : Option Addr} {n : Nat} {xs : List (List (List (Bool × (Bool × List Int))))} (h : (Kd.slice 22 (Kd.slice 26 kT)).C w A n xs) : (Kd.slice 22 (Kd.slice 26 k26)).C w A n (c26 xs) :=
  C_map (d := Kd.slice 22 (Kd.slice 26 kT)) (d' := Kd.slice 22 (Kd.slice 26 k26)) (List.map (List.map s26)) rfl (sliceK_map (d := Kd.slice 26 kT) (d' := Kd.slice 26 k26) 22 (List.map s26) rfl (sliceK_map 26 s26 rfl K_s26)) h
theorem c26_length (l : List (List (List (Bool × (Bool × List Int))))) : (c26 l).length = l.length := by unfold c26; rw [List.length_map]
theorem sizes_c26 {l : List (List (List (Bool × (Bool × List Int))))} (h : l.length * 24 ≤ 140737488351232) (h2 : ∀ x ∈ l, x.length * 24 ≤ 140737488351232 ∧ ∀ y ∈ x, y.length * 32 ≤ 140737488351232 ∧ ∀ z ∈ y, z.2.2.length * 8 ≤ 140737488351232) : Sizes (c26 l) := by
  refine ⟨by rw [c26_length]; omega, fun cl hcl => ?_⟩
  obtain ⟨x, hx, rfl⟩ := List.mem_map.1 hcl
  obtain ⟨h3, h4⟩ := h2 x hx
  refine ⟨by rw [List.length_map]; omega, fun turns ht => ?_⟩
  obtain ⟨y, hy, rfl⟩ := List.mem_map.1 ht
  obtain ⟨h5, h6⟩ := h4 y hy
  refine ⟨by rw [List.length_map]; omega, fun u hu => ?_⟩
  obtain ⟨z, hz, rfl⟩ := List.mem_map.1 hu
  have := h6 z hz
  show z.2.2.length * 8 ≤ _
  omega
end Go.Proofs.Ytkigbgabnbjomaa.Sched
