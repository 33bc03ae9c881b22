/- How an argument that is an array is opened.
   No condition. -/
import Derived.Test.YtbnbpnnpbnpidaaOpen
import Derived.Test.YtbnbpnnpbnpidaaWArr
import Derived.OpenShut
namespace Go.Proofs.Ytbnbpnnpbnpidaa.OpenA
open Go.ChangeShapes Go.WideShapes Go.RowKit Go.Proofs.YtbnbpnnpbnpidaaW.PrintWords Go.Proofs.Ytbnbpnnpbnpidaa.Open
set_option linter.unusedVariables false
section
variable {H : Type} {enc : TypeId × Value → H} {P : Program} {W : World}
theorem okWide_array {w : World} {r : Reach} {base : Nat} {t e : TypeId} {n : Nat} {v : Value} (ht : P.underlying t = some (.array n e)) (h : Value.okWide P w r base t v) : ∃ cs, v = .agg cs ∧ cs.size = P.cellsOf t := by
  simp only [Value.okWide, ht] at h
  obtain ⟨cs, h1, h2, _⟩ := h
  exact ⟨cs, h1, h2⟩
theorem opens_array {α : Type} {t e : TypeId} {n : Nat} {d : Kd α} {G : α → Prop} (hu : P.underlying t = some (.array n e)) (hc : P.cellsOf e = d.sz) (ht : P.cellsOf t = n * d.sz) (hs : 0 < d.sz) (he : Opens enc P W e d G) :
    Opens enc P W t (Kd.arr n d hs) (fun l => ∀ x ∈ l, G x) := by
  intro spare fuel cs y hy hw
  obtain ⟨xs, m, rfl, rfl, hl, hn, hx⟩ := DataW.trod_array hu hy
  simp only [DataW.weights, hu] at hw
  have hone : ∀ j, j < n → ∃ x, d.K W x ((cs.drop (j * d.sz)).take d.sz) ∧ G x := by
    intro j hj
    obtain ⟨z, hz⟩ : ∃ z, xs[j]? = some z := ⟨_, List.getElem?_eq_getElem (by omega)⟩
    have h := hx j hj
    rw [hz, hc] at h
    exact he spare m _ z h (fun k hk => hw k (weights_all (List.mem_map.2 ⟨z, List.mem_of_getElem? hz, rfl⟩) hk))
  have hlist : ∀ k, k ≤ n → ∃ l : List α, l.length = k ∧ (∀ x ∈ l, G x) ∧ ∀ j p, l[j]? = some p → d.K W p ((cs.drop (j * d.sz)).take d.sz) := by
    intro k
    induction k with
    | zero => intro _; exact ⟨[], rfl, by simp, by simp⟩
    | succ k ih =>
      intro hk
      obtain ⟨l, h1, h2, h3⟩ := ih (by omega)
      obtain ⟨x, h5, h6⟩ := hone k (by omega)
      refine ⟨l ++ [x], by simp [h1], ?_, ?_⟩
      · intro q hq
        rcases List.mem_append.1 hq with hq | hq
        · exact h2 q hq
        · rw [List.mem_singleton.1 hq]; exact h6
      · intro j p hp
        by_cases hj : j < k
        · rw [List.getElem?_append_left (by omega)] at hp
          exact h3 j p hp
        · rw [List.getElem?_append_right (by omega)] at hp
          have : j - l.length = 0 := by
            have := (List.getElem?_eq_some_iff.1 hp).1
            simp at this; omega
          rw [this] at hp
          simp only [List.getElem?_cons_zero, Option.some.injEq] at hp
          subst hp
          have : j = k := by omega
          subst this
          exact h5
  obtain ⟨l, h1, h2, h3⟩ := hlist n (Nat.le_refl _)
  exact ⟨l, ⟨h1, by rw [hl, ht, h1], h3⟩, h2⟩
end
end Go.Proofs.Ytbnbpnnpbnpidaa.OpenA
