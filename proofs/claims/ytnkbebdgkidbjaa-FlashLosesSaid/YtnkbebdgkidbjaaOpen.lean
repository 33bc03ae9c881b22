/- How an argument of a law is opened, whatever it is made of (whole numbers, bools, strings, structs and slices of these): what its data read as, in the words of the printed texts ('Kd').
   No condition. -/
import Derived.Test.YtnkbebdgkidbjaaWMore
import Derived.ProofKit
import Derived.SizedLaws
import Derived.ChangeSlices
import Derived.DataReads
import Derived.Carry
namespace Go.Proofs.Ytnkbebdgkidbjaa.Open
open Go.ChangeShapes Go.WideShapes Go.RowKit Go.Proofs.YtnkbebdgkidbjaaW.PrintWords
set_option linter.unusedVariables false

/-- Whatever reads at type t holds an x of the kind d, and x meets G. -/
def Opens {α H : Type} (enc : TypeId × Value → H) (P : Program) (W : World) (t : TypeId) (d : Kd α) (G : α → Prop) : Prop :=
  ∀ (spare : Nat → Bool) (fuel : Nat) (cs : List Value) (y : DataW H × List MemPlace), DataW.trod enc P W 0 spare true fuel t cs = some y →
    (∀ n ∈ y.1.weights P t, n ≤ reachBytes) → ∃ x, d.K W x cs ∧ G x

section
variable {H : Type} {enc : TypeId × Value → H} {P : Program} {W : World}

theorem opens_int {t : TypeId} {k : IntKind} (h : P.underlying t = some (.int k)) : Opens enc P W t (Kd.int k) (fun x => (Lit.int k x).wf = true) := by
  intro spare fuel cs y hy _
  cases fuel with
  | zero => simp [DataW.trod] at hy
  | succ fuel =>
    simp only [DataW.trod, h] at hy
    match cs, hy with
    | [.int k' n], hy =>
      simp only at hy
      split at hy
      · rename_i hk
        obtain ⟨rfl, hw⟩ := hk
        exact ⟨n, rfl, hw⟩
      · cases hy

theorem opens_bool {t : TypeId} (h : P.underlying t = some .bool) : Opens enc P W t Kd.bool (fun _ => True) := by
  intro spare fuel cs y hy _
  cases fuel with
  | zero => simp [DataW.trod] at hy
  | succ fuel =>
    simp only [DataW.trod, h] at hy
    match cs, hy with
    | [.bool b], hy => exact ⟨b, rfl, trivial⟩

theorem opens_string {t : TypeId} (h : P.underlying t = some .string) : Opens enc P W t Kd.string (fun s => s.size ≤ 140737488351232) := by
  intro spare fuel cs y hy hw
  cases fuel with
  | zero => simp [DataW.trod] at hy
  | succ fuel =>
    simp only [DataW.trod, h] at hy
    match cs, hy with
    | [.string s], hy =>
      simp only at hy
      split at hy
      · simp only [Option.some.injEq] at hy
        subst hy
        refine ⟨s, rfl, ?_⟩
        have := hw s.data.toList.length (by simp [DataW.weights])
        simpa [reachBytes] using this
      · cases hy

theorem opens_mono {α : Type} {t : TypeId} {d : Kd α} {G G' : α → Prop} (h : Opens enc P W t d G) (hG : ∀ x, G x → G' x) : Opens enc P W t d G' := by
  intro spare fuel cs y hy hw
  obtain ⟨x, h1, h2⟩ := h spare fuel cs y hy hw
  exact ⟨x, h1, hG x h2⟩

theorem opens_iso {α β : Type} {t : TypeId} {d : Kd α} {G : α → Prop} (h : Opens enc P W t d G) (f : β → α) (g : α → β) (hfg : ∀ x, f (g x) = x) : Opens enc P W t (Kd.iso d f) (fun y => G (f y)) := by
  intro spare fuel cs y hy hw
  obtain ⟨x, h1, h2⟩ := h spare fuel cs y hy hw
  refine ⟨g x, ?_, ?_⟩
  · show d.K W (f (g x)) cs
    rw [hfg]; exact h1
  · show G (f (g x))
    rw [hfg]; exact h2

theorem weights_all {e : TypeId} {l : List (DataW H)} {x : DataW H} (hx : x ∈ l) {n : Nat} (hn : n ∈ x.weights P e) : n ∈ DataW.weightsAll P e l := by
  induction l with
  | nil => cases hx
  | cons a r ih =>
    simp only [DataW.weightsAll, List.mem_append]
    rcases List.mem_cons.1 hx with rfl | hx
    · exact .inl hn
    · exact .inr (ih hx)

theorem cells_get {b0 : Nat} {a : Addr} {n : Nat} {c : List Value} (h : W.cells? b0 a n = some c) : c.length = n ∧ ∀ i u, c[i]? = some u → W.cell? (a.add i) = some u := by
  unfold World.cells? at h
  split at h
  · have hl := mapM_some_length h
    rw [List.length_range] at hl
    refine ⟨hl, fun i u hu => ?_⟩
    have hi : i < n := by have := (List.getElem?_eq_some_iff.1 hu).1; omega
    have := mapM_some_get h i i (by rw [List.getElem?_range hi])
    rw [this]; exact hu
  · cases h

theorem add_add (a : Addr) (i j : Nat) : (a.add i).add j = a.add (i + j) := by
  by_cases hi : i = 0
  · subst hi; simp [Addr.add]
  · by_cases hj : j = 0
    · subst hj; simp [Addr.add]
    · simp [Addr.add, hi, hj, Nat.add_assoc]

theorem opens_slice {α : Type} {t e : TypeId} {d : Kd α} {G : α → Prop} {B : Nat} (hu : P.underlying t = some (.slice e)) (hc : P.cellsOf e = d.sz) (hB : P.bytesOf e = B) (he : Opens enc P W e d G) :
    Opens enc P W t (Kd.slice e d) (fun l => l.length * B ≤ 140737488351232 ∧ l.length ≤ 9223372036854775807 ∧ ∀ x ∈ l, G x) := by
  intro spare fuel cs y hy hw
  cases fuel with
  | zero => simp [DataW.trod] at hy
  | succ fuel =>
    simp only [DataW.trod, hu] at hy
    match cs, hy with
    | [.slice none 0 0], hy =>
      exact ⟨[], ⟨none, 0, rfl, Nat.le_refl _, rfl, Nat.zero_le _, fun h => absurd h (Nat.lt_irrefl 0)⟩, by simp, by simp, by simp⟩
    | [.slice (some a) len cap], hy =>
      simp only at hy
      split at hy
      · rename_i hr
        obtain ⟨_, hlc, hcm⟩ := hr
        obtain ⟨elems, hel, hy⟩ := Option.bind_eq_some_iff.1 hy
        obtain ⟨rest, hrest, rfl⟩ := Option.map_eq_some_iff.1 hy
        have hlen := mapM_some_length hel
        rw [List.length_range] at hlen
        simp only [DataW.weights, hu] at hw
        have hw1 := hw _ (List.mem_cons_self ..)
        have hone : ∀ j, j < len → ∃ x c, c.length = d.sz ∧ d.K W x c ∧ G x ∧ ∀ i u, c[i]? = some u → W.cell? (a.add (j * d.sz + i)) = some u := by
          intro j hj
          have hg := mapM_some_get hel j j (by rw [List.getElem?_range hj])
          obtain ⟨z, hz⟩ : ∃ z, elems[j]? = some z := ⟨elems[j]'(by omega), List.getElem?_eq_getElem (by omega)⟩
          rw [hz] at hg
          obtain ⟨c, hcc, htr⟩ := Option.bind_eq_some_iff.1 hg
          have hcg := cells_get hcc
          obtain ⟨x, hK, hG⟩ := he spare fuel c z htr (fun n hn => hw n (List.mem_cons_of_mem _ (List.mem_append_left _ (weights_all (List.mem_map.2 ⟨z, List.mem_of_getElem? hz, rfl⟩) hn))))
          refine ⟨x, c, by rw [hcg.1, hc], hK, hG, fun i u hu' => ?_⟩
          have := hcg.2 i u hu'
          rw [add_add, hc] at this
          exact this
        -- the list of what is read
        have hlist : ∀ n, n ≤ len → ∃ xs : List α, xs.length = n ∧ (∀ x ∈ xs, G x) ∧ ∀ j p, xs[j]? = some p → ∃ c, c.length = d.sz ∧ d.K W p c ∧ ∀ i u, c[i]? = some u → W.cell? (a.add (j * d.sz + i)) = some u := by
          intro n
          induction n with
          | zero => intro _; exact ⟨[], rfl, by simp, by simp⟩
          | succ n ih =>
            intro hn
            obtain ⟨xs, h1, h2, h3⟩ := ih (by omega)
            obtain ⟨x, c, h4, h5, h6, h7⟩ := hone n (by omega)
            refine ⟨xs ++ [x], by simp [h1], ?_, ?_⟩
            · intro q hq
              rcases List.mem_append.1 hq with hq | hq
              · exact h2 q hq
              · rw [List.mem_singleton.1 hq]; exact h6
            · intro j p hp
              by_cases hj : j < n
              · rw [List.getElem?_append_left (by omega)] at hp
                exact h3 j p hp
              · rw [List.getElem?_append_right (by omega)] at hp
                have : j - xs.length = 0 := by
                  have := (List.getElem?_eq_some_iff.1 hp).1
                  simp at this; omega
                rw [this] at hp
                simp only [List.getElem?_cons_zero, Option.some.injEq] at hp
                subst hp
                have : j = n := by omega
                subst this
                exact ⟨c, h4, h5, h7⟩
        obtain ⟨xs, h1, h2, h3⟩ := hlist len (Nat.le_refl _)
        subst h1
        refine ⟨xs, ⟨some a, cap, rfl, hlc, rfl, Nat.le_trans hlc hcm, fun _ => ⟨a, rfl, h3⟩⟩, ?_, Nat.le_trans hlc hcm, h2⟩
        rw [hB, List.length_map] at hw1
        have := Nat.le_trans (Nat.mul_le_mul_right B (Nat.le_add_right elems.length _)) hw1
        rw [hlen] at this
        simpa [reachBytes] using this
      · cases hy

/-- The same of the fields of a struct from a cell on. -/
def OpensF {α : Type} (enc : TypeId × Value → H) (P : Program) (W : World) (fs : List Field) (off : Nat) (d : Kd α) (G : α → Prop) : Prop :=
  ∀ (spare : Nat → Bool) (fuel : Nat) (cs : List Value) (xs : List (DataW H × List MemPlace)), cs.length = off + d.sz →
    (fs.mapM fun f => DataW.trod enc P W 0 spare true fuel f.type ((cs.drop f.offset).take (P.cellsOf f.type))) = some xs →
    (∀ n ∈ DataW.weightsEach P (fs.map (·.type)) (xs.map (·.1)), n ≤ reachBytes) → ∃ x, d.K W x (cs.drop off) ∧ G x

theorem opensF_last {α : Type} {f : Field} {off : Nat} {d : Kd α} {G : α → Prop} (ho : f.offset = off) (hc : P.cellsOf f.type = d.sz) (h : Opens enc P W f.type d G) : OpensF enc P W [f] off d G := by
  intro spare fuel cs xs hl hm hw
  simp only [List.mapM_cons, List.mapM_nil, Option.pure_def, Option.bind_eq_bind] at hm
  obtain ⟨y, hy, hm⟩ := Option.bind_eq_some_iff.1 hm
  simp only [Option.bind_some, Option.some.injEq] at hm
  subst hm
  rw [ho, hc, List.take_of_length_le (by rw [List.length_drop]; omega)] at hy
  exact h spare fuel _ y hy (fun n hn => hw n (by simp [DataW.weightsEach, hn]))

theorem opensF_cons {α β : Type} {f : Field} {fs : List Field} {off off' : Nat} {d : Kd α} {d' : Kd β} {G : α → Prop} {G' : β → Prop} (ho : f.offset = off) (hc : P.cellsOf f.type = d.sz) (hoff : off' = off + d.sz)
    (h : Opens enc P W f.type d G) (h' : OpensF enc P W fs off' d' G') : OpensF enc P W (f :: fs) off (Kd.pair d d') (fun x => G x.1 ∧ G' x.2) := by
  subst hoff
  intro spare fuel cs xs hl hm hw
  simp only [List.mapM_cons, Option.pure_def, Option.bind_eq_bind] at hm
  obtain ⟨y, hy, hm⟩ := Option.bind_eq_some_iff.1 hm
  obtain ⟨ys, hys, hm⟩ := Option.bind_eq_some_iff.1 hm
  simp only [Option.some.injEq] at hm
  subst hm
  have hsz : (Kd.pair d d').sz = d.sz + d'.sz := rfl
  rw [hsz] at hl
  rw [ho, hc] at hy
  simp only [List.map_cons, DataW.weightsEach, List.mem_append] at hw
  obtain ⟨x, hx, gx⟩ := h spare fuel _ y hy (fun n hn => hw n (.inl hn))
  obtain ⟨x', hx', gx'⟩ := h' spare fuel cs ys (by omega) hys (fun n hn => hw n (.inr hn))
  refine ⟨(x, x'), ⟨(cs.drop off).take d.sz, cs.drop (off + d.sz), ?_, hx, hx'⟩, gx, gx'⟩
  rw [← List.drop_drop, List.take_append_drop]

theorem opens_struct {α : Type} {t : TypeId} {fs : Array Field} {d : Kd α} {G : α → Prop} (hu : P.underlying t = some (.struct fs)) (hc : P.cellsOf t = d.sz) (h : OpensF enc P W fs.toList 0 d G) : Opens enc P W t d G := by
  intro spare fuel cs y hy hw
  cases fuel with
  | zero => simp [DataW.trod] at hy
  | succ fuel =>
    simp only [DataW.trod, hu] at hy
    split at hy
    · rename_i hl
      obtain ⟨xs, hxs, rfl⟩ := Option.map_eq_some_iff.1 hy
      obtain ⟨x, hx, gx⟩ := h spare fuel cs xs (by omega) hxs (fun n hn => hw n (by simpa [DataW.weights, hu] using hn))
      exact ⟨x, by simpa using hx, gx⟩
    · cases hy

/-- An argument, opened. -/
theorem open_arg {α : Type} {t : TypeId} {d : Kd α} {G : α → Prop} (ho : Opens enc P W t d G) {spare : Nat → Bool} {v : Value} {y : DataW H} {p : List MemPlace} {ts : List TypeId} {ds : List (DataW H)} {j : Nat}
    (hsz : (DataW.weightsEach P ts ds).all (· ≤ reachBytes) = true) (ht : ts[j]? = some t) (hd : ds[j]? = some y) (h : DataW.Trod enc P W 0 spare true t v y p) : ∃ x, d.K W x v.cells.toList ∧ G x := by
  obtain ⟨fuel, hf⟩ := h
  refine ho spare fuel _ _ hf (fun n hn => ?_)
  have := List.all_eq_true.1 hsz n (DataW.weights_mem_each ht hd n hn)
  simpa using this
end
end Go.Proofs.Ytnkbebdgkidbjaa.Open
