/- The walk of the law GeomPieces.
   No condition. -/
import Derived.Test.YtdmcihajgcdhmaaPieces
import Derived.Maps.Range
import Derived.Sort.LoopGhostIn
namespace Go.Proofs.Ytdmcihajgcdhmaa.Range
open Go.RowKit Go.Shelf Go.Proofs.YtdmcihajgcdhmaaW.PrintWords Go.Proofs.Ytdmcihajgcdhmaa.QGeomPieces Geo
set_option linter.unusedVariables false
set_option linter.unusedSimpArgs false
set_option linter.unusedSectionVars false
attribute [local go_sem] Oper.semAt_some
/-- An operation that is no defer statement runs in a round as everywhere. -/
def noDefer (o : Oper) : Bool := match o.op with | .defer _ => false | _ => true
theorem noDefer_sem {o : Oper} (h : noDefer o = true) (ro : Option Nat) (ρ : Operand → Value) : Oper.semAt ro ρ o = execOp ρ o := Oper.semAt_eq ro ρ o (fun c e => by simp [noDefer, e] at h)
section
variable {F : Fence} {n : Nat} {P : Program} {ops : Array Oper} {C : World → Prop} {md : Region.Mode}
theorem wpIn_of_quiet_r {o : Oper} {a : Act} {K : Act → Prop} {K' : Act → World → Prop} {Q' : Exit → Act → World → Prop} {w : World} (hro : noDefer o = true) (hw : C w) (h : ∀ a w', C w' → K a → K' a w')
    (ha : o.askedIn F P a C) (hh : o.quietIn F n P a C K) : o.wpIn F n P a w K' Q' := by
  obtain ⟨v, h1, h2⟩ := hh
  have h3 := h1 w hw
  unfold Oper.quietAtIn at h3
  unfold Oper.wpIn
  refine ⟨ha w hw, ?_⟩
  rw [noDefer_sem hro]
  generalize (execOp a.eval o).run P w = r at *
  cases r with
  | ok x w' =>
    cases x <;> simp only [Oper.quietUponIn] at h3 <;> simp only [Oper.uponIn]
    case value u =>
      obtain ⟨e1, e2⟩ := h3
      rw [e1, e2]
      exact h _ _ hw h2
    case skip =>
      obtain ⟨e1, e2⟩ := h3
      rw [e1, ← e2]
      exact h _ _ hw h2
    case enter f args =>
      obtain ⟨e1, hd, hc⟩ := h3
      rw [e1]
      exact ⟨hd, hc.mono fun e w'' ⟨he, hw''⟩ => by subst he; exact h _ _ hw'' h2⟩
  | halt x w' => simp only [Oper.quietUponIn] at h3
theorem wpOpIn_of_qOpIn_r {i : Nat} {a : Act} {K : Act → Prop} {K' : Act → World → Prop} {Q' : Exit → Act → World → Prop} {w : World} (hro : ∀ (j : Nat) (o : Oper), ops[j]? = some o → noDefer o = true) (hC : C w) (h : ∀ a w', C w' → K a → K' a w')
    (hh : qOpIn F n P ops C i K a) : wpOpIn F n P ops Q' i K' a w := by
  unfold qOpIn at hh
  unfold wpOpIn
  split
  · rename_i ho; simp only [ho] at hh; exact h _ _ hC hh
  · rename_i o ho
    simp only [ho] at hh
    obtain ⟨ha, hh⟩ := hh
    split
    · rename_i hw; simp only [hw, if_true] at hh; exact wpIn_of_quiet_r (hro i o ho) hC h ha hh
    · rename_i hw; simp only [hw] at hh; exact ⟨ha w hC, h _ _ hC hh⟩
theorem wpAnyIn_of_quiet_r {Q : Act → Prop} {Q' : Exit → Act → World → Prop} (hro : ∀ (j : Nat) (o : Oper), ops[j]? = some o → noDefer o = true) (hQ : ∀ a w, C w → Q a → Q' .normal a w) : ∀ (fuel : Nat) (listed : Array Bool) (a : Act) (w : World), C w →
    wpAnyQIn F n P md ops C Q fuel listed a → wpAnyIn F n P md ops Q' fuel listed a w
  | 0, _, _, _, hw, h => ⟨h.1, hQ _ _ hw h.2⟩
  | fuel + 1, _, _, _, hw, h => ⟨fun h0 => hQ _ _ hw (h.1 h0), fun i hi => wpOpIn_of_qOpIn_r hro hw (fun a' w' hw' => wpAnyIn_of_quiet_r hro hQ fuel _ a' w' hw') (h.2 i hi)⟩
/-- One walk of the text's order serves every order, inside a round too: the region's operations only read. -/
theorem wpIn_region_quiet_round {id : Nat} {Q : Exit → Act → World → Prop} {a : Act} {w : World} {l : List Oper} (hro : l.all noDefer = true) (hm : P.follows .mixedOrders = true) (hB : Region.lexB .any l.toArray = true)
    (h : wpQuietIn F n P l.toArray (fun w' => ∃ n, w' = w.drewN n) (fun a' => ∀ w', (∃ n, w' = w.drewN n) → Q .normal a' w') l a) : (Code.region id l.toArray true).wpIn F n P Q a w := by
  simp only [Region.lexB, Bool.and_eq_true] at hB
  have hr : ∀ (j : Nat) (o : Oper), l.toArray[j]? = some o → noDefer o = true := fun j o ho => List.all_eq_true.1 hro o (List.mem_of_getElem? (by simpa using ho))
  refine wpIn_region_any hm (wpAnyIn_of_quiet_r (Q := fun a' => ∀ w', (∃ n, w' = w.drewN n) → Q .normal a' w') hr (fun _ w' hw' h => h w' hw') _ _ _ _ ⟨1, rfl⟩ ?_)
  have := wpAnyQIn_lex (F := F) (n := n) (C := fun w' => ∃ n, w' = w.drewN n) (md := .any) hB.1 l 0 (Array.replicate l.toArray.size false) a (by simp) (by simpa using hB.2) h
  simpa using this
end
def toS (x : Int × Int × Int) : S48 := ⟨x.1, x.2.1, x.2.2⟩
theorem ref_step (k : Nat) {p s r a o n rg : Int} (h : InRange p o n rg) (hr : rg = p * s) (hs : s ≤ 64) (L : List S48) (hL : L.length < 1000) (i : Nat) (hi : (i : Int) < s) :
    cellarref02_Pieces.l0 (k + 2) o n L (i : Int) p s r a = if (Pcs.cut p o n i).1 < (Pcs.cut p o n i).2 then cellarref02_Pieces.l0 k o n (L ++ [toS ((i : Int), (Pcs.cut p o n i).1, (Pcs.cut p o n i).2)]) ((i + 1 : Nat) : Int) p s r a
      else cellarref02_Pieces.l0 k o n L ((i + 1 : Nat) : Int) p s r a := by
  obtain ⟨p0, p1, o0, n0, n1, o1, r1⟩ := h
  have a0 : 0 ≤ (i : Int) * p := Int.mul_nonneg (by omega) (by omega)
  have a1 : (i : Int) * p ≤ 64 * p := Int.mul_le_mul_of_nonneg_right (by omega) (by omega)
  have w0 : wrap64 ((i : Int) * p) = (i : Int) * p := w64 (by omega) (by omega)
  have w1 : wrap64 (o - (i : Int) * p) = o - (i : Int) * p := w64 (by omega) (by omega)
  have w2 : wrap64 (o - (i : Int) * p + n) = o - (i : Int) * p + n := w64 (by omega) (by omega)
  have w3 : wrap64 ((i : Int) + 1) = ((i + 1 : Nat) : Int) := by rw [w64 (by omega) (by omega)]; rfl
  have j2 : ∀ x : Int, cellarref02_Pieces.j2 (k + 1) o n L (i : Int) x (o - (i : Int) * p + n) p s r a = if x < min (o - i * p + n) p then cellarref02_Pieces.l0 k o n (L ++ [toS ((i : Int), x, min (o - i * p + n) p)]) ((i + 1 : Nat) : Int) p s r a
      else cellarref02_Pieces.l0 k o n L ((i + 1 : Nat) : Int) p s r a := by
    intro x
    rw [cellarref02_Pieces.j2, w3]
    by_cases c : o - (i : Int) * p + n > p
    · rw [if_pos c, show min (o - (i : Int) * p + n) p = p by omega]
      by_cases e : x < p
      · rw [if_pos e, if_pos e, if_pos (by omega)]; rfl
      · rw [if_neg e, if_neg e]
    · rw [if_neg c, show min (o - (i : Int) * p + n) p = o - (i : Int) * p + n by omega]
      by_cases e : x < o - (i : Int) * p + n
      · rw [if_pos e, if_pos e, if_pos (by omega)]; rfl
      · rw [if_neg e, if_neg e]
  rw [cellarref02_Pieces.l0, if_pos hi, w0, w1, w2]
  unfold Pcs.cut
  by_cases c : o - (i : Int) * p < 0
  · rw [if_pos c, j2, show max (o - (i : Int) * p) 0 = 0 by omega]
  · rw [if_neg c, j2, show max (o - (i : Int) * p) 0 = o - (i : Int) * p by omega]
theorem ref_loop {p s r a o n rg : Int} (h : InRange p o n rg) (hr : rg = p * s) (h1 : 1 ≤ s) (hs : s ≤ 64) (d : Nat) : ∀ (k i : Nat), (i : Int) + d = s → 2 * d < k →
    cellarref02_Pieces.l0 k o n ((Pcs.upto (Pcs.pc p o n) (Pcs.got p o n i)).map toS) (i : Int) p s r a = some ((Pcs.upto (Pcs.pc p o n) (Pcs.cnt p o n)).map toS) := by
  have hc : Pcs.cnt p o n = 0 ∨ o / p + Pcs.cnt p o n ≤ s := by
    by_cases c : Pcs.cnt p o n = 0
    · exact .inl c
    · obtain ⟨e0, e1, _⟩ := Pcs.in_facts h.p0 h.o0 h.n0 (j := Pcs.cnt p o n - 1) (by omega)
      have o1 := h.o1
      have hq : o / p + (Pcs.cnt p o n - 1 : Nat) < s := Int.lt_of_mul_lt_mul_right (a := p) (by rw [Int.mul_comm s p, ← hr]; omega) (by have := h.p0; omega)
      omega
  have hq0 : 0 ≤ o / p := Int.ediv_nonneg h.o0 (by have := h.p0; omega)
  induction d with
  | zero =>
    intro k i hi hk
    obtain ⟨k, rfl⟩ : ∃ m, k = m + 1 := ⟨k - 1, by omega⟩
    rw [cellarref02_Pieces.l0, if_neg (by omega)]
    have : Pcs.got p o n i = Pcs.cnt p o n := by unfold Pcs.got; omega
    rw [this]
  | succ d ih =>
    intro k i hi hk
    obtain ⟨k, rfl⟩ : ∃ m, k = m + 2 := ⟨k - 2, by omega⟩
    have hl : ((Pcs.upto (Pcs.pc p o n) (Pcs.got p o n i)).map toS).length < 1000 := by
      rw [List.length_map, Pcs.upto_length]; unfold Pcs.got; omega
    rw [ref_step k h hr hs _ hl i (by omega)]
    by_cases c : o / p ≤ i ∧ (i : Int) < o / p + Pcs.cnt p o n
    · have hj : (i : Int) - o / p = (((i : Int) - o / p).toNat : Int) := by omega
      obtain ⟨c1, c2⟩ := Pcs.cut_in h.p0 h.o0 h.n0 (j := ((i : Int) - o / p).toNat) (by omega) (i := i) (by omega)
      rw [if_pos c1, c2]
      have e1 : Pcs.got p o n (i + 1) = Pcs.got p o n i + 1 := by unfold Pcs.got; omega
      have e2 : Pcs.got p o n i = ((i : Int) - o / p).toNat := by unfold Pcs.got; omega
      have := ih k (i + 1) (by omega) (by omega)
      rw [e1, Pcs.upto_succ, List.map_append, e2] at this
      rw [e2]
      exact this
    · rw [if_neg (Pcs.cut_out h.p0 h.o0 h.n0 (by omega))]
      have e1 : Pcs.got p o n (i + 1) = Pcs.got p o n i := by unfold Pcs.got; omega
      have := ih k (i + 1) (by omega) (by omega)
      rwa [e1] at this
theorem ref_in {p s r a o n rg : Int} (ho : Ok p s r a) (h : InRange p o n rg) (hr : rg = p * s) : cellarref02_Pieces.f 300 p s r a o n = some ((Pcs.upto (Pcs.pc p o n) (Pcs.cnt p o n)).map toS) := by
  have bd := Ok.bounds ho
  have e1 : cellarref02_Check.f 300 p s r a = some 0 := by rw [show (300 : Nat) = 280 + 20 from rfl, rcheck_eq]; unfold chk; rw [if_pos ho]
  have e2 : cellarref02_Region.f p s r a = some rg := by unfold cellarref02_Region.f; rw [bd.2.2.2.2.2.2.2.2.2.2.2.2.2.1, hr]
  have n0 := h.n0
  have n1 := h.n1
  have o0 := h.o0
  have o1 := h.o1
  have r1 := h.r1
  unfold cellarref02_Pieces.f
  rw [e1, Option.bind_some, if_pos rfl, e2, Option.bind_some, within_eq (by omega) r1 true (by simp; omega), Option.bind_some, show (300 : Nat) = 299 + 1 from rfl, cellarref02_Pieces.j0, if_neg (by decide)]
  have := ref_loop h hr (r := r) (a := a) (by omega) (by omega) s.toNat 299 0 (by omega) (by omega)
  have e3 : Pcs.got p o n 0 = 0 := by
    have hq0 : 0 ≤ o / p := Int.ediv_nonneg h.o0 (by have := h.p0; omega)
    unfold Pcs.got; omega
  rw [e3] at this
  exact this
theorem ref_out {p s r a o n rg : Int} (ho : Ok p s r a) (hr : rg = p * s) (hw : ¬ (o ≥ 0 ∧ n ≥ 0 ∧ o ≤ rg ∧ n ≤ rg - o)) : cellarref02_Pieces.f 300 p s r a o n = some [] := by
  have bd := Ok.bounds ho
  have e1 : cellarref02_Check.f 300 p s r a = some 0 := by rw [show (300 : Nat) = 280 + 20 from rfl, rcheck_eq]; unfold chk; rw [if_pos ho]
  have e2 : cellarref02_Region.f p s r a = some rg := by unfold cellarref02_Region.f; rw [bd.2.2.2.2.2.2.2.2.2.2.2.2.2.1, hr]
  unfold cellarref02_Pieces.f
  rw [e1, Option.bind_some, if_pos rfl, e2, Option.bind_some, within_eq (by omega) (by omega) false (by simp; omega), Option.bind_some, show (300 : Nat) = 299 + 1 from rfl, cellarref02_Pieces.j0, if_pos (by decide)]
theorem ref_bad {p s r a o n : Int} (ho : ¬ Ok p s r a) : cellarref02_Pieces.f 300 p s r a o n = some [] := by
  have e1 : cellarref02_Check.f 300 p s r a = some 20 := by rw [show (300 : Nat) = 280 + 20 from rfl, rcheck_eq]; unfold chk; rw [if_neg ho]
  unfold cellarref02_Pieces.f
  rw [e1, Option.bind_some, if_neg (by decide), show (300 : Nat) = 299 + 1 from rfl, cellarref02_Pieces.j0, if_pos (by decide)]
/-- The law's three first blocks: what is asked, where to stop, what it will answer. -/
structure Tri (W w1 : World) (p s r a o n st : Int) : Prop where
  g : w1.heap[W.heap.size]? = some (.cells #[.int .i64 p, .int .i64 s, .int .i64 r, .int .i64 a, .int .i64 o, .int .i64 n] 41)
  t : w1.heap[W.heap.size + 1]? = some (.cells #[.int .i64 st] 3)
  b : w1.heap[W.heap.size + 2]? = some (.cells #[.bool false] 4)
theorem Tri.start (W : World) (p s r a o n st : Int) : Tri W (((W.alloc (.cells #[.int .i64 p, .int .i64 s, .int .i64 r, .int .i64 a, .int .i64 o, .int .i64 n] 41)).alloc (.cells #[.int .i64 st] 3)).alloc (.cells #[.bool false] 4)) p s r a o n st := by
  have h1 := blk_new (W.alloc (.cells #[.int .i64 p, .int .i64 s, .int .i64 r, .int .i64 a, .int .i64 o, .int .i64 n] 41)) (.cells #[.int .i64 st] 3)
  have h2 := blk_new ((W.alloc (.cells #[.int .i64 p, .int .i64 s, .int .i64 r, .int .i64 a, .int .i64 o, .int .i64 n] 41)).alloc (.cells #[.int .i64 st] 3)) (.cells #[.bool false] 4)
  simp only [World.size_alloc] at h1 h2
  exact ⟨blk_alloc (blk_alloc (blk_new W _) _) _, blk_alloc h1 _, h2⟩
theorem Tri.next {W w1 w2 : World} {p s r a o n st : Int} (h : Tri W w1 p s r a o n st) (hb : Below w1.heap.size w1 w2) : Tri W w2 p s r a o n st := ⟨blk_below h.g hb, blk_below h.t hb, blk_below h.b hb⟩
theorem Tri.cells {W w1 : World} {p s r a o n st : Int} (h : Tri W w1 p s r a o n st) : w1.cell? ⟨W.heap.size, 0, none⟩ = some (.int .i64 p) ∧ w1.cell? ⟨W.heap.size, 1, none⟩ = some (.int .i64 s) ∧ w1.cell? ⟨W.heap.size, 2, none⟩ = some (.int .i64 r) ∧ w1.cell? ⟨W.heap.size, 3, none⟩ = some (.int .i64 a) ∧
    w1.cell? ⟨W.heap.size, 4, none⟩ = some (.int .i64 o) ∧ w1.cell? ⟨W.heap.size, 5, none⟩ = some (.int .i64 n) ∧ w1.cell? ⟨W.heap.size + 1, 0, none⟩ = some (.int .i64 st) ∧ w1.cell? ⟨W.heap.size + 2, 0, none⟩ = some (.bool false) ∧ w1.frozen? ⟨W.heap.size + 2, 0, none⟩ = false :=
  ⟨blk_cell h.g 0, blk_cell h.g 1, blk_cell h.g 2, blk_cell h.g 3, blk_cell h.g 4, blk_cell h.g 5, blk_cell h.t 0, blk_cell h.b 0, blk_frozen h.b 0⟩
theorem below_three {W w1 : World} {x y z : Obj} (hb : Below (((W.alloc x).alloc y).alloc z).heap.size (((W.alloc x).alloc y).alloc z) w1) : Below W.heap.size W w1 := ((((Below.refl _ W).alloc (Nat.le_refl _) x).alloc (by simp) y).alloc (by simp; omega) z).trans (hb.mono (by simp; omega))
def dfr (D : Nat) : Deferred := { target := .collected D, args := #[] }
/-- What lies ahead of a round of the law's own loop. -/
structure Inv (w6 : World) (ρ B7 : Nat) (Ds : List Nat) (w : World) : Prop where
  below : Below w6.heap.size w6 w
  lo : w6.heap.size ≤ B7
  b7 : w.heap[B7]? = some (.cells #[.int .i64 (ρ : Int)] 3)
  ds : ∀ D ∈ Ds, w6.heap.size ≤ D ∧ w.heap[D]? = some (.deferred (some []))
  nd : Ds.Nodup
theorem Inv.grown {w6 w w' : World} {ρ B7 : Nat} {Ds : List Nat} {row : Option Nat} (h : Inv w6 ρ B7 Ds w) (hg : w.grownBy w' row) (hr : ∀ j, row = some j → w6.heap.size ≤ j ∧ j ≠ B7 ∧ j ∉ Ds) : Inv w6 ρ B7 Ds w' :=
  ⟨h.below.grown hg h.below.size (fun k e => (hr k e).1), h.lo, blk_grown h.b7 hg (fun e => (hr _ e.symm).2.1 rfl),
    fun D hD => ⟨(h.ds D hD).1, blk_grown (h.ds D hD).2 hg (fun e => (hr _ e.symm).2.2 hD)⟩, h.nd⟩
theorem Inv.next {w6 w : World} {ρ B7 D : Nat} {Ds : List Nat} (h : Inv w6 ρ B7 Ds w) (hK : w.heap[D]? = some (.deferred (some []))) (hD : w6.heap.size ≤ D) (hn : D ∉ Ds) (v : Int) (hv : v = ((ρ + 1 : Nat) : Int)) :
    Inv w6 (ρ + 1) w.heap.size (D :: Ds) (w.alloc (.cells #[.int .i64 v] 3)) := by
  subst hv
  exact ⟨h.below.alloc h.below.size _, h.below.size, blk_new w _, fun D' hD' => by
    rcases List.mem_cons.1 hD' with rfl | hD'
    · exact ⟨hD, blk_alloc hK _⟩
    · exact ⟨(h.ds D' hD').1, blk_alloc (h.ds D' hD').2 _⟩, List.nodup_cons.2 ⟨hn, h.nd⟩⟩
theorem leave {F : Fence} {n : Nat} {P : Program} {fn : Func} {R : Ending → World → Prop} (tmps : Array Value) (base : Nat) : ∀ (Ds : List Nat) (w : World), (∀ D ∈ Ds, base ≤ D ∧ w.heap[D]? = some (.deferred (some []))) → Ds.Nodup → base ≤ w.heap.size →
    (∀ w', Below base w w' → LeavesInM F n P fn tmps R [] .returning w') → LeavesInM F n P fn tmps R (Ds.map dfr) .returning w
  | [], w, _, _, _, h => h w (Below.refl _ _)
  | D :: Ds, w, hd, hn, hb, h => by
    obtain ⟨h1, h2⟩ := hd D (List.mem_cons_self ..)
    have hn' := List.nodup_cons.1 hn
    have hlow : Below base w (w.putObj D (.deferred none)) := (Below.refl base w).grown (grownBy_putObj' w D _) hb (fun k e => by cases e; exact h1)
    refine ⟨by simp, .inl ⟨D, _, rfl, run_takeDeferred h2, leave tmps base Ds _ (fun D' hD' => ?_) hn'.2 (by rw [World.putObj_size]; exact hb) (fun w' hw' => h w' (hlow.trans hw'))⟩⟩
    obtain ⟨h3, h4⟩ := hd D' (List.mem_cons_of_mem _ hD')
    exact ⟨h3, (World.putObj_heap_other (fun e => hn'.1 (by subst e; exact hD'))).trans h4⟩
theorem eqA48 (d : Nat) (w : World) (x0 y0 : Int) (x1 y1 : Int) (x2 y2 : Int) :
    (Op.equalIn (d + 2) 48 (.agg #[.int .i64 x0, .int .i64 x1, .int .i64 x2]) (.agg #[.int .i64 y0, .int .i64 y1, .int .i64 y2])).run Try.prog w = .ok (x0 == y0 && (x1 == y1 && (x2 == y2))) w := by
  refine eqA_of Try.underlying48 (by kernel_rfl) ?_
  refine eqf_cons (by rfl) (by go_simp; rfl) (by go_simp; rfl) (by go_simp) ?_
  refine eqf_cons (by rfl) (by go_simp; rfl) (by go_simp; rfl) (by go_simp) ?_
  exact eqf_last (by rfl) (by go_simp; rfl) (by go_simp; rfl) (by go_simp)
attribute [local go_sem high] eqA48
theorem reads_below {α : Type} {d : Kd α} {w w1 : World} {A : Option Addr} {n : Nat} {l : List α} (h : Kd.C d w A n l) (hb : Below w.heap.size w w1) : Kd.C d w1 A n l := Kd.C_below h hb
theorem blk_low {w w' : World} {g : Nat} {o : Obj} (hb : Below w.heap.size w w') (h : w.heap[g]? = some o) : w'.heap[g]? = some o := blk_below h hb
theorem pre_snoc {l pre : List (Int × Int × Int)} {x : Int × Int × Int} (h : pre <+: l) : pre ++ [x] <+: l ↔ l[pre.length]? = some x := by
  obtain ⟨t, rfl⟩ := h
  rw [List.getElem?_append_right (Nat.le_refl _), Nat.sub_self, List.prefix_append_right_inj]
  cases t with
  | nil => simp
  | cons y t => simp [eq_comm]
theorem same_piece {x y : Int × Int × Int} (h : (!x.1 == y.1) = false ∧ (!x.2.1 == y.2.1) = false ∧ (!x.2.2 == y.2.2) = false) : x = y := by
  obtain ⟨h1, h2, h3⟩ := h
  exact Prod.ext (by simpa using h1) (Prod.ext (by simpa using h2) (by simpa using h3))
theorem other_piece {x y : Int × Int × Int} (h : (!x.1 == y.1) = true ∨ (!x.2.1 == y.2.1) = true ∨ (!x.2.2 == y.2.2) = true) : x ≠ y := by
  rintro rfl
  simp at h
/-- The law's own cells between two pieces: as many have come as its counter says, and they are the first ones. -/
structure Mid (w0 : World) (B8 : Nat) (l pre : List (Int × Int × Int)) (w : World) : Prop where
  grown : w0.grownBy w (some B8)
  i : w.heap[B8]? = some (.cells #[.int .i64 (pre.length : Int)] 3)
theorem mid_step {w0 w : World} {B8 nq : Nat} {l pre : List (Int × Int × Int)} (h : Mid w0 B8 l pre w) (hB : B8 < w0.heap.size) (x : Int × Int × Int) : Mid w0 B8 l (pre ++ [x]) ((w.drewN nq).setCell ⟨B8, 0, none⟩ (.int .i64 ((pre.length : Int) + 1))) :=
  ⟨h.grown.andThen (⟨rfl, rfl, rfl, (KeepsOthers.setCell w ⟨B8, 0, none⟩ (.int .i64 ((pre.length : Int) + 1))).size, fun k _ hne => Below.heap_setCell w ⟨B8, 0, none⟩ _ k (fun e => hne (by rw [e]))⟩ : w.grownBy ((w.drewN nq).setCell ⟨B8, 0, none⟩ (.int .i64 ((pre.length : Int) + 1))) (some B8)) (fun j e => .inr e),
    blk_put (w := w.drewN nq) h.i 0 _ (by simp)⟩
theorem Mid.own (w0 : World) (B8 : Nat) (l : List (Int × Int × Int)) : OwnFrom w0.heap.size (Mid w0 B8 l) := fun pre X Y row hs hg hrow =>
  ⟨hs.grown.andThen hg (fun j e => .inl (hrow j e).1), own_blk (β := Unit) B8 (fun _ => .cells #[.int .i64 (pre.length : Int)] 3) (fun _ => rfl) () X Y row hs.i hg (fun r e => (hrow r e).2)⟩
set_option maxHeartbeats 4000000 in
set_option maxRecDepth 100000 in
theorem law_walk (p s r a o n st : Int) (l : List (Int × Int × Int)) (r1 r2 r3 : Int) (N : Nat) (W : World) (hl : l.length < 1000) (hrf : Aside0 (cellarref02_Pieces.f 300 p s r a o n = some (l.map toS))) (hby : Aside0 (geom_Bytes.f (0 + 1) p s r a = some (r1, r2, r3)))
    (hseq : Aside0 (∀ (w w' W0 : World) (v : Value) (b1 b2 : Nat), Laid w w' p s r a o n r1 r3 v b1 b2 → Below w'.heap.size w' W0 →
      SeqStopsK Fence.wide (9 - 1) Try.prog 49 #[.pointer (some ⟨b2, 0, none⟩), .pointer (some ⟨w.heap.size + 1, 0, none⟩), .pointer (some ⟨w.heap.size + 2, 0, none⟩), .pointer (some ⟨b1, 0, none⟩), .pointer (some ⟨w.heap.size, 0, none⟩)] encP
        (KeepI w.heap.size w'.heap.size) (fun ys => ys = l) (fun pre => pre <+: l) N W0)) :
    CallsIn Fence.wide 9 Try.prog 8 #[.agg #[.int .i64 p, .int .i64 s, .int .i64 r, .int .i64 a, .int .i64 o, .int .i64 n], .int .i64 st] W fun e w' => e = .returned (.bool true) ∧ Below W.heap.size W w' := by
  refine callsIn_of_wp_marks Try.func8 rfl trivial ?_ rfl
  simp only [Try.ntmps8, List.size_toArray, List.length_cons, List.length_nil, Nat.reduceAdd, Nat.reduceSub, Array.replicate_succ, Array.replicate_zero, List.push_toArray, List.append_toArray, List.nil_append, List.cons_append]
  gi_wp2_with (first
    | (refine ⟨trivial, ?_⟩; gi_at_call 16; refine (callsIn_wide.2 (cellarlaw02_awake.calls 1 true _ (awake_eq 0))).mono ?_; rintro e w1 ⟨rfl, hb1⟩; have T1 := Aside0.mk ((Tri.start W p s r a o n st).next hb1); have B1 := Aside0.mk (below_three hb1); obtain ⟨x0, x1, x2, x3, x4, x5, x6, x7, x8⟩ := T1.out.cells; clear hb1)
    | (refine ⟨trivial, ?_⟩; gi_at_call 28; refine (callsIn_wide.2 (cellarref02_Pieces.calls 300 p s r a o n _ _ hrf.out)).mono ?_; rintro e w2 ⟨v0, rfl, hR, hb2⟩; have T2 := Aside0.mk (T1.out.next hb2); have B2 := Aside0.mk (below_then B1.out B1.out.size hb2); clear x0 x1 x2 x3 x4 x5 x6 x7 x8; obtain ⟨A, c, rfl⟩ := Kd.R_slice hR; simp only [List.length_map] at hR ⊢; have HR := Aside0.mk hR; clear hR hb2; obtain ⟨x0, x1, x2, x3, x4, x5, x6, x7, x8⟩ := (T2.out.next (below_alloc (Below.refl w2.heap.size w2) (.cells #[.slice A l.length c] 42))).cells)
    | (refine ⟨trivial, ?_⟩; gi_at_call 29; refine (callsIn_wide.2 (pieces_walk 1 p s r a o n r1 r2 r3 hby.out _)).mono ?_; rintro e w6 ⟨v, b1, b2, rfl, hL⟩; have LL := Aside0.mk hL; have hv := hL.val; subst hv; clear hL x0 x1 x2 x3 x4 x5 x6 x7 x8))
  have hsz : (w2.alloc (.cells #[.slice A l.length c] 42)).heap.size = w2.heap.size + 1 := by simp
  have T6 := Aside0.mk ((T2.out.next (below_alloc (Below.refl w2.heap.size w2) (.cells #[.slice A l.length c] 42))).next LL.out.below)
  have B6 := Aside0.mk (below_then (below_alloc B2.out (.cells #[.slice A l.length c] 42)) (by have := B2.out.size; simp; omega) LL.out.below)
  have S6 := Aside0.mk (blk_below (blk_new w2 (.cells #[.slice A l.length c] 42)) LL.out.below)
  have hsq := fun W0 hW => hseq.out _ w6 W0 _ b1 b2 LL.out hW
  rw [hsz] at hsq
  have HS := Aside0.mk hsq
  have hlt : w2.heap.size + 1 ≤ w6.heap.size := by have := LL.out.below.size; omega
  have hl2 := blk_lt T2.out.b
  have C6 : Aside0 (Kd.C k48 w6 A l.length (l.map toS)) := ⟨by have h := (Kd.R_reads' HR.out).2.2; rw [List.length_map] at h; exact reads_below (reads_below h (below_alloc (Below.refl _ _) _)) LL.out.below⟩
  clear hsq hsz
  refine wpIn_loop_ghost (fun gk a' w' => ∃ (ρ B7 : Nat) (Ds : List Nat) (u8 u9 u26 u27 u28 u29 u30 u31 u32 u33 u34 u35 u36 u37 u38 u39 u40 u41 u42 u43 u44 u45 u46 u47 u48 u49 u50 u51 u52 u53 u54 u55 u56 u57 u58 u59 u60 u61 u62 u63 u64 u65 u66 : Value), gk + ρ = 3 ∧ Inv w6 ρ B7 Ds w' ∧ a' = { tmps := #[.agg #[.int .i64 p, .int .i64 s, .int .i64 r, .int .i64 a, .int .i64 o, .int .i64 n], .int .i64 st, .pointer (some ⟨W.heap.size, 0, none⟩), .pointer (some ⟨W.heap.size + 1, 0, none⟩), .pointer (some ⟨W.heap.size + 1 + 1, 0, none⟩), .pointer (some ⟨w2.heap.size, 0, none⟩), .func (.func 49) #[] #[.pointer (some ⟨b2, 0, none⟩), .pointer (some ⟨w2.heap.size + 1 + 1, 0, none⟩), .pointer (some ⟨w2.heap.size + 1 + 2, 0, none⟩), .pointer (some ⟨b1, 0, none⟩), .pointer (some ⟨w2.heap.size + 1, 0, none⟩)], .pointer (some ⟨B7, 0, none⟩), u8, u9, .bool true, .bool false, .pointer (some ⟨W.heap.size, 0, none⟩), .agg #[.int .i64 p, .int .i64 s, .int .i64 r, .int .i64 a], .pointer (some ⟨W.heap.size, 4, none⟩), .int .i64 o, .pointer (some ⟨W.heap.size, 5, none⟩), .int .i64 n, .slice A l.length c, .pointer (some ⟨W.heap.size, 0, none⟩), .agg #[.int .i64 p, .int .i64 s, .int .i64 r, .int .i64 a], .pointer (some ⟨W.heap.size, 4, none⟩), .int .i64 o, .pointer (some ⟨W.heap.size, 5, none⟩), .int .i64 n, .func (.func 49) #[] #[.pointer (some ⟨b2, 0, none⟩), .pointer (some ⟨w2.heap.size + 1 + 1, 0, none⟩), .pointer (some ⟨w2.heap.size + 1 + 2, 0, none⟩), .pointer (some ⟨b1, 0, none⟩), .pointer (some ⟨w2.heap.size + 1, 0, none⟩)], u26, u27, u28, u29, u30, u31, u32, u33, u34, u35, u36, u37, u38, u39, u40, u41, u42, u43, u44, u45, u46, u47, u48, u49, u50, u51, u52, u53, u54, u55, u56, u57, u58, u59, u60, u61, u62, u63, u64, u65, u66], defers := Ds.map dfr }) 3 ?start ?round
  case start => exact ⟨0, w6.heap.size, [], undef, undef, undef, undef, undef, undef, undef, undef, undef, undef, undef, undef, undef, undef, undef, undef, undef, undef, undef, undef, undef, undef, undef, undef, undef, undef, undef, undef, undef, undef, undef, undef, undef, undef, undef, undef, undef, undef, undef, undef, undef, undef, undef, rfl, ⟨(Below.refl _ _).alloc (Nat.le_refl _) _, Nat.le_refl _, blk_new w6 _, (fun _ h => by cases h), List.nodup_nil⟩, rfl⟩
  case round =>
    rintro gk a' wr ⟨ρ, B7, Ds, u8, u9, u26, u27, u28, u29, u30, u31, u32, u33, u34, u35, u36, u37, u38, u39, u40, u41, u42, u43, u44, u45, u46, u47, u48, u49, u50, u51, u52, u53, u54, u55, u56, u57, u58, u59, u60, u61, u62, u63, u64, u65, u66, hgk, hI, rfl⟩
    have HI := Aside0.mk hI
    have c7 := blk_cell hI.b7 0
    have TR : Tri W wr p s r a o n st := ⟨blk_low hI.below T6.out.g, blk_low hI.below T6.out.t, blk_low hI.below T6.out.b⟩
    have ct := blk_cell TR.t 0
    have cb : wr.cell? ⟨W.heap.size + 1 + 1, 0, none⟩ = some (.bool false) := blk_cell TR.b 0
    have fb : wr.frozen? ⟨W.heap.size + 1 + 1, 0, none⟩ = false := blk_frozen TR.b 0
    have cs := blk_cell (blk_low hI.below S6.out) 0
    have hle := hI.below.size
    simp only [List.getElem?_toArray, List.getElem?_cons_zero] at c7 ct cs
    clear hI TR
    by_cases hρ : ρ < 3
    · gi_wp2
      have h7 := blk_lt HI.out.b7
      obtain ⟨w0, hw0⟩ : ∃ w0, wr.alloc (.cells #[.int .i64 0] 3) = w0 := ⟨_, rfl⟩
      have hs0 : w0.heap.size = wr.heap.size + 1 := by rw [← hw0]; simp
      have M0 := Aside0.mk (show Mid w0 wr.heap.size l [] w0 from ⟨⟨rfl, rfl, rfl, Nat.le_refl _, fun _ _ _ => rfl⟩, by rw [← hw0]; exact blk_new wr _⟩)
      have I0 := Aside0.mk (show Inv w6 ρ B7 Ds w0 by rw [← hw0]; exact HI.out.grown (World.grownBy_alloc wr _ none) (fun j e => by cases e))
      have hb0 := Aside0.mk (show Below w6.heap.size w6 w0 from I0.out.below)
      have hnew : Aside0 (w6.heap.size ≤ wr.heap.size ∧ wr.heap.size ≠ B7 ∧ wr.heap.size ∉ Ds) := ⟨hle, fun e => by omega, fun h => Nat.lt_irrefl _ (blk_lt (HI.out.ds _ h).2)⟩
      rw [hw0]
      clear hw0 c7 ct cb fb cs
      refine wpIn_rangeFunc_ownH rfl (by omega) (gf := 49) (lb := _) rfl trivial (enters_of Try.func49 (by kernel_rfl) rfl) (HS.out w0 hb0.out) (fun h k => h.trans k) (KeepI.putObj (by omega)) (Below.refl _ w0) (fun _ => rfl)
        (fun pre Wx => Mid w0 wr.heap.size l pre Wx ∧ pre <+: l) (fun cd pre Wx => (cd = .ret ∧ ¬ pre <+: l) ∨ (cd = .exit 2 ∧ pre <+: l ∧ ρ = 1 ∧ (pre.length : Int) = st ∧ Mid w0 wr.heap.size l pre Wx))
        (OwnFrom.and (Mid.own w0 wr.heap.size l) (ownFrom_pure _ _)) (fun cd pre X Y row hs hg hrow => hs.imp id (fun h => ⟨h.1, h.2.1, h.2.2.1, h.2.2.2.1, Mid.own w0 wr.heap.size l pre X Y row h.2.2.2.2 hg hrow⟩))
        ⟨M0.out, List.nil_prefix⟩
        (fun x a' Wx => ∃ Bx, w0.heap.size ≤ Bx ∧ Wx.heap[Bx]? = some (.cells #[.int .i64 x.1, .int .i64 x.2.1, .int .i64 x.2.2] 48) ∧ a' = { tmps := #[.agg #[.int .i64 p, .int .i64 s, .int .i64 r, .int .i64 a, .int .i64 o, .int .i64 n], .int .i64 st, .pointer (some ⟨W.heap.size, 0, none⟩), .pointer (some ⟨W.heap.size + 1, 0, none⟩), .pointer (some ⟨W.heap.size + 1 + 1, 0, none⟩), .pointer (some ⟨w2.heap.size, 0, none⟩), .func (.func 49) #[] #[.pointer (some ⟨b2, 0, none⟩), .pointer (some ⟨w2.heap.size + 1 + 1, 0, none⟩), .pointer (some ⟨w2.heap.size + 1 + 2, 0, none⟩), .pointer (some ⟨b1, 0, none⟩), .pointer (some ⟨w2.heap.size + 1, 0, none⟩)], .pointer (some ⟨B7, 0, none⟩), .pointer (some ⟨wr.heap.size, 0, none⟩), .pointer (some ⟨Bx, 0, none⟩), .bool true, .bool false, .pointer (some ⟨W.heap.size, 0, none⟩), .agg #[.int .i64 p, .int .i64 s, .int .i64 r, .int .i64 a], .pointer (some ⟨W.heap.size, 4, none⟩), .int .i64 o, .pointer (some ⟨W.heap.size, 5, none⟩), .int .i64 n, .slice A l.length c, .pointer (some ⟨W.heap.size, 0, none⟩), .agg #[.int .i64 p, .int .i64 s, .int .i64 r, .int .i64 a], .pointer (some ⟨W.heap.size, 4, none⟩), .int .i64 o, .pointer (some ⟨W.heap.size, 5, none⟩), .int .i64 n, .func (.func 49) #[] #[.pointer (some ⟨b2, 0, none⟩), .pointer (some ⟨w2.heap.size + 1 + 1, 0, none⟩), .pointer (some ⟨w2.heap.size + 1 + 2, 0, none⟩), .pointer (some ⟨b1, 0, none⟩), .pointer (some ⟨w2.heap.size + 1, 0, none⟩)], .int .i64 ρ, .bool true, u28, u29, .func (.func 49) #[] #[.pointer (some ⟨b2, 0, none⟩), .pointer (some ⟨w2.heap.size + 1 + 1, 0, none⟩), .pointer (some ⟨w2.heap.size + 1 + 2, 0, none⟩), .pointer (some ⟨b1, 0, none⟩), .pointer (some ⟨w2.heap.size + 1, 0, none⟩)], .agg #[.int .i64 x.1, .int .i64 x.2.1, .int .i64 x.2.2], u32, u33, u34, u35, u36, u37, u38, u39, u40, u41, u42, u43, u44, u45, u46, u47, u48, u49, u50, u51, u52, u53, u54, u55, u56, u57, u58, u59, u60, u61, u62, u63, u64, u65, u66], defers := [] })
        (fun x a' => Own.from (fun s X Y row hs hg hrow => by obtain ⟨Bx, h1, h2, h3⟩ := hs; exact ⟨Bx, h1, own_blk (β := Unit) Bx (fun _ => .cells #[.int .i64 x.1, .int .i64 x.2.1, .int .i64 x.2.2] 48) (fun _ => rfl) () X Y row h2 hg hrow, h3⟩) _) ?assign ?body ?done ?stop
      case assign =>
        rintro lp pre x Wx K ⟨hM, hpr⟩ hK
        have hsx := hM.grown.size
        gi_wp2
        exact hK _ _ ((KeepsOthers.alloc _ _).from _) (KeepI.alloc (by omega) _) ⟨⟨hM.grown.andThen (World.grownBy_alloc Wx _ none) (fun j e => by cases e), blk_alloc hM.i _⟩, hpr⟩ ⟨Wx.heap.size, hsx, blk_new _ _, rfl⟩
      case body =>
        rintro lp pre x a' Wx hl' ⟨rc, hrc⟩ ⟨hM, hpr⟩ ⟨Bx, hBx, hX, rfl⟩ hlen
        have IX := I0.out.grown hM.grown (fun j e => by cases e; exact hnew.out)
        have e0 := blk_cell hX 0
        have e1 := blk_cell hX 1
        have e2 := blk_cell hX 2
        have c8 := blk_cell hM.i 0
        have f8 := blk_frozen hM.i 0
        have c7 := blk_cell IX.b7 0
        have ct := blk_cell (blk_low IX.below T6.out.t) 0
        have cb : Wx.cell? ⟨W.heap.size + 1 + 1, 0, none⟩ = some (.bool false) := blk_cell (blk_low IX.below T6.out.b) 0
        have fb : Wx.frozen? ⟨W.heap.size + 1 + 1, 0, none⟩ = false := blk_frozen (blk_low IX.below T6.out.b) 0
        have cs := blk_cell (blk_low IX.below S6.out) 0
        simp only [List.getElem?_toArray, List.getElem?_cons_zero, List.getElem?_cons_succ] at e0 e1 e2 c8 c7 ct cs
        have SM := Aside0.mk hM
        have SI := Aside0.mk IX
        have SX := Aside0.mk hX
        have hpl := hpr.length_le
        have hmx : Try.prog.follows .mixedOrders = true := by kernel_rfl
        clear hM IX hX hrc
        by_cases hi : pre.length < l.length
        · have hd1 : decide (l.length ≤ pre.length) = false := decide_eq_false (by omega)
          obtain ⟨ad, hA, q0, q1, q2⟩ := at_T48 (reads_below C6.out SI.out.below) (pre.length : Int) (by omega) (by omega)
          subst hA
          obtain ⟨y, hy⟩ : ∃ y, l[pre.length]? = some y := ⟨_, List.getElem?_eq_getElem hi⟩
          have hrd : rd_T48 (l.map toS) (pre.length : Int) = toS y := by
            unfold rd_T48
            rw [Int.toNat_natCast, List.getD_eq_getElem?_getD, List.getElem?_map, hy]; rfl
          rw [hrd] at q0 q1 q2
          simp only [Int.toNat_natCast, toS] at q0 q1 q2
          have SY := Aside0.mk hy
          have m0 : (0 : Int) ≤ (pre.length : Int) := by omega
          clear hy hrd
          gi_wp2
          refine wpIn_region_quiet_round (by kernel_rfl) (by kernel_rfl) (by kernel_rfl) ?_
          repeat (gi_big_quiet_step (fail))
          refine wpQuietIn_nil ?_
          intro _ hw'
          obtain ⟨nq, hw''⟩ := hw'
          subst hw''
          gi_wp2
          · refine ⟨(KeepsOthers.trans (⟨Nat.le_refl _, fun _ _ h _ => h⟩ : KeepsOthers Wx (Wx.drewN nq)) (KeepsOthers.setCell _ _ _)).from _, .inl ⟨rfl, fun h => ?_⟩⟩
            rw [pre_snoc hpr, SY.out] at h
            exact other_piece (by assumption) (Option.some.inj h).symm
          · have e1 : (ρ : Int) = 1 := by assumption
            have e2 : ((pre.length : Int) + 1 == st) = true := by assumption
            obtain rfl := same_piece (x := x) (y := y) (by assumption)
            exact ⟨(KeepsOthers.trans (⟨Nat.le_refl _, fun _ _ h _ => h⟩ : KeepsOthers Wx (Wx.drewN nq)) (KeepsOthers.setCell _ _ _)).from _, .inr ⟨rfl, (pre_snoc hpr).2 SY.out, by omega, by simpa using e2, mid_step SM.out (by omega) x⟩⟩
          · obtain rfl := same_piece (x := x) (y := y) (by assumption)
            exact ⟨(KeepsOthers.trans (⟨Nat.le_refl _, fun _ _ h _ => h⟩ : KeepsOthers Wx (Wx.drewN nq)) (KeepsOthers.setCell _ _ _)).from _, fun b h1 h2 => Below.heap_setCell (Wx.drewN nq) _ _ b (by simp; omega), mid_step SM.out (by omega) x, (pre_snoc hpr).2 SY.out⟩
          · obtain rfl := same_piece (x := x) (y := y) (by assumption)
            exact ⟨(KeepsOthers.trans (⟨Nat.le_refl _, fun _ _ h _ => h⟩ : KeepsOthers Wx (Wx.drewN nq)) (KeepsOthers.setCell _ _ _)).from _, fun b h1 h2 => Below.heap_setCell (Wx.drewN nq) _ _ b (by simp; omega), mid_step SM.out (by omega) x, (pre_snoc hpr).2 SY.out⟩
        · have hd1 : decide (l.length ≤ pre.length) = true := decide_eq_true (by omega)
          gi_wp2
          refine wpIn_region_quiet_round (by kernel_rfl) (by kernel_rfl) (by kernel_rfl) ?_
          repeat (gi_big_quiet_step (fail))
          refine wpQuietIn_nil ?_
          intro _ hw'
          obtain ⟨nq, hw''⟩ := hw'
          subst hw''
          gi_wp2
          refine ⟨((KeepsOthers.trans (⟨Nat.le_refl _, fun _ _ h _ => h⟩ : KeepsOthers Wx (Wx.drewN nq)) (KeepsOthers.setCell _ _ _))).from _, .inl ⟨rfl, fun h => ?_⟩⟩
          have := h.length_le
          simp at this; omega
      case done =>
        rintro D ys Wx hD rfl ⟨hM, hpr⟩ hK
        have IX := I0.out.grown hM.grown (fun j e => by cases e; exact hnew.out)
        have c8 := blk_cell hM.i 0
        have c7 := blk_cell IX.b7 0
        have cs := blk_cell (blk_low IX.below S6.out) 0
        simp only [List.getElem?_toArray, List.getElem?_cons_zero, List.getElem?_cons_succ] at c8 c7 cs
        have SM := Aside0.mk hM
        have SI := Aside0.mk IX
        have SK := Aside0.mk hK
        clear hM IX hK
        gi_wp2
        have hDn : D ∉ Ds := fun h => by have := blk_lt (HI.out.ds _ h).2; omega
        all_goals exact ⟨gk - 1, by omega, ρ + 1, Wx.heap.size, D :: Ds, _, _, _, _, _, _, _, _, _, _, _, _, _, _, _, _, _, _, _, _, _, _, _, _, _, _, _, _, _, _, _, _, _, _, _, _, _, _, _, _, _, _, _, by omega, SI.out.next SK.out (by omega) hDn _ (by simp), rfl⟩
      case stop =>
        rintro D cd pre Wx hD hsp hix hK
        rcases hix with ⟨rfl, hno⟩ | ⟨rfl, hpr, h1, hst, hM⟩
        · exact absurd hsp hno
        have IX := I0.out.grown hM.grown (fun j e => by cases e; exact hnew.out)
        subst hst h1
        have c8 := blk_cell hM.i 0
        have c7 : Wx.cell? ⟨B7, 0, none⟩ = some (.int .i64 1) := blk_cell IX.b7 0
        have ct := blk_cell (blk_low IX.below T6.out.t) 0
        have cs := blk_cell (blk_low IX.below S6.out) 0
        simp only [List.getElem?_toArray, List.getElem?_cons_zero, List.getElem?_cons_succ] at c8 ct cs
        have SM := Aside0.mk hM
        have SI := Aside0.mk IX
        have SK := Aside0.mk hK
        have hDn : D ∉ Ds := fun h => by have := blk_lt (HI.out.ds _ h).2; omega
        have hpe := Aside0.mk hpr
        clear hM IX hK hpr hsp
        by_cases hpl : pre.length = l.length
        · obtain rfl := hpe.out.eq_of_length hpl
          clear hpl
          gi_wp2
          all_goals exact ⟨gk - 1, by omega, 1 + 1, Wx.heap.size, D :: Ds, _, _, _, _, _, _, _, _, _, _, _, _, _, _, _, _, _, _, _, _, _, _, _, _, _, _, _, _, _, _, _, _, _, _, _, _, _, _, _, _, _, _, _, by omega, SI.out.next SK.out (by omega) hDn _ (by simp), rfl⟩
        · have hpl' : ¬ (pre.length : Int) = (l.length : Int) := by omega
          gi_wp2
          all_goals exact ⟨gk - 1, by omega, 1 + 1, Wx.heap.size, D :: Ds, _, _, _, _, _, _, _, _, _, _, _, _, _, _, _, _, _, _, _, _, _, _, _, _, _, _, _, _, _, _, _, _, _, _, _, _, _, _, _, _, _, _, _, by omega, SI.out.next SK.out (by omega) hDn _ (by simp), rfl⟩
    · gi_wp2
      have hb9 : Below W.heap.size W (wr.setCell ⟨W.heap.size + 1 + 1, 0, none⟩ (.bool true)) := (below_then B6.out B6.out.size HI.out.below).setCell (by simp; omega) _
      refine leave _ w6.heap.size Ds _ (fun D hD => ⟨(HI.out.ds D hD).1, (KeepsOthers.setCell _ _ _).same D _ (HI.out.ds D hD).2 rfl⟩) HI.out.nd (Nat.le_trans hle (KeepsOthers.setCell _ _ _).size) (fun w' hw' => ?_)
      have hr8 : w'.cell? ⟨W.heap.size + 1 + 1, 0, none⟩ = some (.bool true) := (hw'.cell (p := ⟨W.heap.size + 1 + 1, 0, none⟩) (by simp; omega)).trans (by rw [blk_cell (blk_set (blk_low HI.out.below T6.out.b) 0 _)]; rfl)
      exact ⟨.bool true, by simp [results, Try.f8, go_sem, hr8], rfl, hb9.trans (hw'.mono (by omega))⟩
theorem upto_prefix {α : Type} (f : Nat → α) {k n : Nat} (h : k ≤ n) : Pcs.upto f k <+: Pcs.upto f n := by
  obtain ⟨d, rfl⟩ := Nat.exists_eq_add_of_le h
  unfold Pcs.upto
  rw [List.range_add, List.map_append]
  exact List.prefix_append _ _
theorem piecesLaw (p s r a o n st : Int) (W : World) :
    Calls Try.prog 8 #[.agg #[.int .i64 p, .int .i64 s, .int .i64 r, .int .i64 a, .int .i64 o, .int .i64 n], .int .i64 st] W fun e w' => e = .returned (.bool true) ∧ Below W.heap.size W w' := by
  refine (callsIn_wide (n := 9)).1 ?_
  by_cases ho : Ok p s r a
  · have bd := Ok.bounds ho
    by_cases hw : o ≥ 0 ∧ n ≥ 0 ∧ o ≤ p * s ∧ n ≤ p * s - o
    · have hin : InRange p o n (p * s) := ⟨by omega, by omega, by omega, by omega, by omega, by omega, by omega⟩
      have hq0 : 0 ≤ o / p := Int.ediv_nonneg hin.o0 (by omega)
      have hlen : Pcs.cnt p o n < 1000 := by
        by_cases c : Pcs.cnt p o n = 0
        · omega
        · obtain ⟨e0, e1, _⟩ := Pcs.in_facts hin.p0 hin.o0 hin.n0 (j := Pcs.cnt p o n - 1) (by omega)
          have hq : o / p + (Pcs.cnt p o n - 1 : Nat) < s := Int.lt_of_mul_lt_mul_right (a := p) (by rw [Int.mul_comm s p]; omega) (by omega)
          omega
      refine law_walk p s r a o n st (Pcs.upto (Pcs.pc p o n) (Pcs.cnt p o n)) (p * s) (p * s * r) 0 (Pcs.cnt p o n) W (by rw [Pcs.upto_length]; exact hlen) ⟨ref_in ho hin rfl⟩ ⟨bytes_yes 0 ho⟩ ⟨fun w w' W0 v b1 b2 hL hB => ?_⟩
      intro l J Jx W1 h1 h2 h3 h4 h5
      refine (stops_yes (9 - 1) (by omega) hL hin hB l J Jx W1 h1 h2 h3 h4 h5).mono ?_
      rintro e W2 ⟨he, h | ⟨pre, ⟨k, hk, rfl⟩, hj⟩⟩
      · exact ⟨he, .inl h⟩
      · exact ⟨he, .inr ⟨_, upto_prefix _ hk, hj⟩⟩
    · refine law_walk p s r a o n st [] (p * s) (p * s * r) 0 0 W (by simp) ⟨ref_out ho rfl hw⟩ ⟨bytes_yes 0 ho⟩ ⟨fun w w' W0 v b1 b2 hL hB => ?_⟩
      intro l J Jx W1 h1 h2 h3 h4 h5
      refine (stops_no (9 - 1) hL (.inr ⟨rfl, by omega, by omega, by omega⟩) hB l J Jx W1 h1 h2 h3 h4 h5).mono ?_
      rintro e W2 ⟨he, h | ⟨pre, rfl, hj⟩⟩
      · exact ⟨he, .inl h⟩
      · exact ⟨he, .inr ⟨_, List.nil_prefix, hj⟩⟩
  · have hb : geom_Bytes.f (0 + 1) p s r a = some (0, 0, 20) := bytes_no 0 (by unfold chk; rw [if_neg ho])
    refine law_walk p s r a o n st [] 0 0 20 0 W (by simp) ⟨ref_bad ho⟩ ⟨hb⟩ ⟨fun w w' W0 v b1 b2 hL hB => ?_⟩
    intro l J Jx W1 h1 h2 h3 h4 h5
    refine (stops_no (9 - 1) hL (.inl (by decide)) hB l J Jx W1 h1 h2 h3 h4 h5).mono ?_
    rintro e W2 ⟨he, h | ⟨pre, rfl, hj⟩⟩
    · exact ⟨he, .inl h⟩
    · exact ⟨he, .inr ⟨_, List.nil_prefix, hj⟩⟩
end Go.Proofs.Ytdmcihajgcdhmaa.Range
namespace Go.Proofs.Ytdmcihajgcdhmaa.Main
open Go.RowKit
set_option linter.unusedVariables false
theorem GeomPieces (W : World) (a0_0 : Int) (a0_1 : Int) (a0_2 : Int) (a0_3 : Int) (a0_4 : Int) (a0_5 : Int) (a1 : Int) (w0_0 : (Lit.int .i64 a0_0).wf = true) (w0_1 : (Lit.int .i64 a0_1).wf = true) (w0_2 : (Lit.int .i64 a0_2).wf = true) (w0_3 : (Lit.int .i64 a0_3).wf = true) (w0_4 : (Lit.int .i64 a0_4).wf = true) (w0_5 : (Lit.int .i64 a0_5).wf = true) (w1 : (Lit.int .i64 a1).wf = true) :
    Calls Try.prog 8 #[.agg #[.int .i64 a0_0, .int .i64 a0_1, .int .i64 a0_2, .int .i64 a0_3, .int .i64 a0_4, .int .i64 a0_5], .int .i64 a1] W fun e w' => e = .returned (.bool true) ∧ Below W.heap.size W w' :=
  Range.piecesLaw a0_0 a0_1 a0_2 a0_3 a0_4 a0_5 a1 W
end Go.Proofs.Ytdmcihajgcdhmaa.Main
