/- The walk of the law GeomCovers.
   No condition. -/
import Derived.Test.YtdmcihajgcdhmaaPieces
namespace Go.Proofs.Ytdmcihajgcdhmaa.Range
open Go.RowKit Go.Shelf Go.Proofs.YtdmcihajgcdhmaaW.PrintWords Go.Proofs.Ytdmcihajgcdhmaa.QGeomPieces Geo
set_option linter.unusedVariables false
set_option linter.unusedSimpArgs false
set_option linter.unusedSectionVars false
attribute [local go_sem] Oper.semAt_some
theorem own_blk {β : Type} (b : Nat) (f : β → Obj) (ho : ∀ s, (f s).isCells = true) : Own (fun s W => W.heap[b]? = some (f s)) := fun s X Y row hs hg hrow =>
  (hg.block b (Array.getElem?_eq_some_iff.1 hs).1 (fun e => by obtain ⟨o, h1, h2⟩ := hrow b e.symm; rw [hs] at h1; cases h1; rw [ho] at h2; cases h2)).trans hs
/-- A piece lies on a page, and begins where the one ahead ended. -/
def Good (p s A : Int) (x : Int × Int × Int) : Prop := 0 ≤ x.1 ∧ x.1 < s ∧ 0 ≤ x.2.1 ∧ x.2.1 < x.2.2 ∧ x.2.2 ≤ p ∧ x.1 * p + x.2.1 = A
instance (p s A : Int) (x : Int × Int × Int) : Decidable (Good p s A x) := by unfold Good; infer_instance
def covered (p s o : Int) (l : List (Int × Int × Int)) : Option Int := l.foldl (fun acc x => acc.bind fun A => if Good p s A x then some (A + (x.2.2 - x.2.1)) else none) (some o)
theorem covered_snoc (p s o : Int) (l : List (Int × Int × Int)) (x : Int × Int × Int) : covered p s o (l ++ [x]) = (covered p s o l).bind fun A => if Good p s A x then some (A + (x.2.2 - x.2.1)) else none := by
  simp [covered]
theorem covered_upto {p o n rg s : Int} (h : InRange p o n rg) (hs : rg = p * s) (k : Nat) (hk : k ≤ Pcs.cnt p o n) : covered p s o (Pcs.upto (Pcs.pc p o n) k) = some (Pcs.atj p o n k) := by
  induction k with
  | zero => rw [Pcs.at_zero h.p0 h.o0 h.n0]; rfl
  | succ k ih =>
    obtain ⟨A, Q, R, S, T, eA, eQ, eR, eS, eT, eA', ePc, f1, f2, f3, f4, f5, f6, f7, f8, f9, f10⟩ := round_facts h (k := k) (by omega)
    rw [Pcs.upto_succ, covered_snoc, ih (by omega), eA, Option.bind_some, ePc, eA']
    have o1 := h.o1
    have p0 := h.p0
    have hq : Q < s := Int.lt_of_mul_lt_mul_right (a := p) (by rw [eS, Int.mul_comm s p, ← hs]; omega) (by omega)
    have hg : Good p s A (Q, A - S, T - S) := ⟨f3, hq, by show 0 ≤ A - S; omega, by show A - S < T - S; omega, by show T - S ≤ p; omega, by show Q * p + (A - S) = A; rw [eS]; omega⟩
    rw [if_pos hg]
    show some (A + (T - S - (A - S))) = some T
    congr 1; omega
/-- The law's own cells between two rounds. -/
def Own9 (W : World) (p s r a o : Int) (Bt : Nat) (pre : List (Int × Int × Int)) (W' : World) : Prop :=
  (∃ A, covered p s o pre = some A ∧ 0 ≤ A ∧ A ≤ 1048576 ∧ W'.heap[Bt]? = some (.cells #[.int .i64 A] 3)) ∧
    (W'.heap[W.heap.size]? = some (.cells #[.int .i64 p, .int .i64 s, .int .i64 r, .int .i64 a] 24) ∧ W'.heap[W.heap.size + 1]? = some (.cells #[.bool false] 4))
theorem own9 (W : World) (p s r a o : Int) (Bt : Nat) : Own (Own9 W p s r a o Bt) := fun pre X Y row hs hg hrow => by
  obtain ⟨⟨A, h1, h2, h3, h4⟩, h5, h6⟩ := hs
  exact ⟨⟨A, h1, h2, h3, own_blk (β := Unit) Bt (fun _ => .cells #[.int .i64 A] 3) (fun _ => rfl) () X Y row h4 hg hrow⟩,
    own_blk (β := Unit) _ (fun _ => .cells #[.int .i64 p, .int .i64 s, .int .i64 r, .int .i64 a] 24) (fun _ => rfl) () X Y row h5 hg hrow, own_blk (β := Unit) _ (fun _ => .cells #[.bool false] 4) (fun _ => rfl) () X Y row h6 hg hrow⟩
theorem bcell {W w1 : World} (hb : Below W.heap.size W w1) : (∀ b o, b < W.heap.size → w1.cell? ⟨b, o, none⟩ = W.cell? ⟨b, o, none⟩) ∧ (∀ b o, b < W.heap.size → w1.frozen? ⟨b, o, none⟩ = W.frozen? ⟨b, o, none⟩) :=
  ⟨fun b o h => hb.cell (p := ⟨b, o, none⟩) h, fun b o h => hb.frozen (p := ⟨b, o, none⟩) h⟩
/-- The law's two first blocks: the geometry, and what it will answer. -/
structure Two (W w1 : World) (p s r a : Int) : Prop where
  g : w1.heap[W.heap.size]? = some (.cells #[.int .i64 p, .int .i64 s, .int .i64 r, .int .i64 a] 24)
  b : w1.heap[W.heap.size + 1]? = some (.cells #[.bool false] 4)
theorem Two.start (W : World) (p s r a : Int) : Two W ((W.alloc (.cells #[.int .i64 p, .int .i64 s, .int .i64 r, .int .i64 a] 24)).alloc (.cells #[.bool false] 4)) p s r a :=
  ⟨blk_alloc (blk_new W _) _, by have := blk_new (W.alloc (.cells #[.int .i64 p, .int .i64 s, .int .i64 r, .int .i64 a] 24)) (.cells #[.bool false] 4); rwa [World.size_alloc] at this⟩
theorem Two.next {W w1 w2 : World} {p s r a : Int} (h : Two W w1 p s r a) (hb : Below w1.heap.size w1 w2) : Two W w2 p s r a := ⟨blk_below h.g hb, blk_below h.b hb⟩
theorem Two.cells {W w1 : World} {p s r a : Int} (h : Two W w1 p s r a) : w1.cell? ⟨W.heap.size, 0, none⟩ = some (.int .i64 p) ∧ w1.cell? ⟨W.heap.size, 1, none⟩ = some (.int .i64 s) ∧ w1.cell? ⟨W.heap.size, 2, none⟩ = some (.int .i64 r) ∧ w1.cell? ⟨W.heap.size, 3, none⟩ = some (.int .i64 a) ∧
    w1.cell? ⟨W.heap.size + 1, 0, none⟩ = some (.bool false) ∧ w1.frozen? ⟨W.heap.size + 1, 0, none⟩ = false :=
  ⟨blk_cell h.g 0, blk_cell h.g 1, blk_cell h.g 2, blk_cell h.g 3, blk_cell h.b 0, blk_frozen h.b 0⟩
theorem below_two {W w1 : World} {x y : Obj} (hb : Below ((W.alloc x).alloc y).heap.size ((W.alloc x).alloc y) w1) : Below W.heap.size W w1 := (((Below.refl _ W).alloc (Nat.le_refl _) x).alloc (by simp) y).trans (hb.mono (by simp; omega))
theorem answered {W w1 : World} {p s r a : Int} (h : Two W w1 p s r a) (v : Bool) : (w1.setCell ⟨W.heap.size + 1, 0, none⟩ (.bool v)).cell? ⟨W.heap.size + 1, 0, none⟩ = some (.bool v) := by rw [blk_cell (blk_set h.b 0 _)]; rfl
set_option maxHeartbeats 4000000 in
set_option maxRecDepth 100000 in
theorem covers_bad (p s r a o nn : Int) (W : World) (ho : ¬ Ok p s r a) :
    CallsIn Fence.wide 9 Try.prog 9 #[.agg #[.int .i64 p, .int .i64 s, .int .i64 r, .int .i64 a], .int .i64 o, .int .i64 nn] W fun e w' => e = .returned (.bool true) ∧ Below W.heap.size W w' := by
  have hck : Aside0 (cellarref02_Check.f (0 + 20) p s r a = some 20) := ⟨by rw [rcheck_eq]; unfold chk; rw [if_neg ho]⟩
  clear ho
  refine callsIn_of_wp_marks Try.func9 rfl trivial ?_ rfl
  simp only [Try.ntmps9, List.size_toArray, List.length_cons, List.length_nil, Nat.reduceAdd, Nat.reduceSub, Array.replicate_succ, Array.replicate_zero, List.push_toArray, List.append_toArray, List.nil_append, List.cons_append]
  gi_wp2_with (first
    | (refine ⟨trivial, ?_⟩; gi_at_call 16; refine (callsIn_wide.2 (cellarlaw02_awake.calls 1 true _ (awake_eq 0))).mono ?_; rintro e w1 ⟨rfl, hb1⟩; have T1 := Aside0.mk ((Two.start W p s r a).next hb1); have B1 := Aside0.mk (below_two hb1); obtain ⟨x0, x1, x2, x3, x4, x5⟩ := T1.out.cells; clear hb1)
    | (refine ⟨trivial, ?_⟩; gi_at_call 17; refine (callsIn_wide.2 (cellarref02_Check.calls (0 + 20) p s r a 20 _ hck.out)).mono ?_; rintro e w2 ⟨rfl, hb2⟩; have T2 := Aside0.mk (T1.out.next hb2); have B2 := Aside0.mk (below_then B1.out B1.out.size hb2); clear x0 x1 x2 x3 x4 x5; obtain ⟨x0, x1, x2, x3, x4, x5⟩ := T2.out.cells; clear hb2))
  refine ⟨trivial, ?_⟩
  gi_wp2
  refine ⟨trivial, ?_⟩
  gi_wp2
  exact ⟨.bool true, by simp [results, Try.f9, go_sem, answered T2.out], rfl, B2.out.setCell (by simp) _⟩
theorem mul_facts {p s o nn rg x : Int} (h : InRange p o nn rg) (hr : rg = p * s) (h0 : 0 ≤ x) (h1 : x < s) : 0 ≤ x * p ∧ x * p + p ≤ rg := by
  have p0 := h.p0
  have a := Int.mul_nonneg h0 (Int.le_of_lt p0)
  have b : (x + 1) * p ≤ s * p := Int.mul_le_mul_of_nonneg_right (by omega) (Int.le_of_lt p0)
  rw [Int.add_mul, Int.one_mul, Int.mul_comm s p, ← hr] at b
  exact ⟨a, b⟩
theorem below_drawn {w w' : World} (h : Drawn0 w w') : Below w.heap.size w w' := by
  obtain ⟨m, rfl⟩ := h
  exact pw_below_drewN (Below.refl _ _) m
theorem within_eq {o nn rg : Int} (h0 : 0 ≤ rg) (h1 : rg ≤ 1048576) (b : Bool) (h : b = decide (o ≥ 0 ∧ nn ≥ 0 ∧ o ≤ rg ∧ nn ≤ rg - o)) : cellarref02_Within.f o nn rg = some b := by
  unfold cellarref02_Within.f
  by_cases c1 : o ≥ 0
  · rw [if_pos c1]
    by_cases c2 : nn ≥ 0
    · rw [if_pos c2]
      by_cases c3 : o ≤ rg
      · rw [if_pos c3, w64 (by omega) (by omega), h]; simp [c1, c2, c3]
      · rw [if_neg c3, h]; simp [c3]
    · rw [if_neg c2, h]; simp [c2]
  · rw [if_neg c1, h]; simp [c1]
set_option maxHeartbeats 4000000 in
set_option maxRecDepth 100000 in
theorem covers_out (p s r a o nn rg : Int) (W : World) (ho : Ok p s r a) (hr : rg = p * s) (hw : ¬ (o ≥ 0 ∧ nn ≥ 0 ∧ o ≤ rg ∧ nn ≤ rg - o)) :
    CallsIn Fence.wide 9 Try.prog 9 #[.agg #[.int .i64 p, .int .i64 s, .int .i64 r, .int .i64 a], .int .i64 o, .int .i64 nn] W fun e w' => e = .returned (.bool true) ∧ Below W.heap.size W w' := by
  have hck : Aside0 (cellarref02_Check.f (0 + 20) p s r a = some 0) := ⟨by rw [rcheck_eq]; unfold chk; rw [if_pos ho]⟩
  have bd := Ok.bounds ho
  have hrg : Aside0 (cellarref02_Region.f p s r a = some rg) := ⟨by unfold cellarref02_Region.f; rw [bd.2.2.2.2.2.2.2.2.2.2.2.2.2.1, hr]⟩
  have hwi : Aside0 (cellarref02_Within.f o nn rg = some false) := ⟨within_eq (by omega) (by omega) false (by simp; omega)⟩
  clear ho hr hw bd
  refine callsIn_of_wp_marks Try.func9 rfl trivial ?_ rfl
  simp only [Try.ntmps9, List.size_toArray, List.length_cons, List.length_nil, Nat.reduceAdd, Nat.reduceSub, Array.replicate_succ, Array.replicate_zero, List.push_toArray, List.append_toArray, List.nil_append, List.cons_append]
  gi_wp2_with (first
    | (refine ⟨trivial, ?_⟩; gi_at_call 16; refine (callsIn_wide.2 (cellarlaw02_awake.calls 1 true _ (awake_eq 0))).mono ?_; rintro e w1 ⟨rfl, hb1⟩; have T1 := Aside0.mk ((Two.start W p s r a).next hb1); have B1 := Aside0.mk (below_two hb1); obtain ⟨x0, x1, x2, x3, x4, x5⟩ := T1.out.cells; clear hb1)
    | (refine ⟨trivial, ?_⟩; gi_at_call 17; refine (callsIn_wide.2 (cellarref02_Check.calls (0 + 20) p s r a 0 _ hck.out)).mono ?_; rintro e w2 ⟨rfl, hb2⟩; have T2 := Aside0.mk (T1.out.next hb2); have B2 := Aside0.mk (below_then B1.out B1.out.size hb2); clear x0 x1 x2 x3 x4 x5; obtain ⟨x0, x1, x2, x3, x4, x5⟩ := T2.out.cells; clear hb2)
    | (refine ⟨trivial, ?_⟩; gi_at_call 20; refine (callsIn_wide.2 (cellarref02_Region.calls p s r a _ _ hrg.out)).mono ?_; rintro e w3 ⟨rfl, hb3⟩; have T3 := Aside0.mk (T2.out.next hb3); have B3 := Aside0.mk (below_then B2.out B2.out.size hb3); clear x0 x1 x2 x3 x4 x5; obtain ⟨x0, x1, x2, x3, x4, x5⟩ := T3.out.cells; clear hb3)
    | (refine ⟨trivial, ?_⟩; gi_at_call 30; refine (callsIn_wide.2 (cellarref02_Within.calls o nn rg false _ hwi.out)).mono ?_; rintro e w4 ⟨rfl, hd4⟩; have hb4 := below_drawn hd4; have T4 := Aside0.mk (T3.out.next hb4); have B4 := Aside0.mk (below_then B3.out B3.out.size hb4); clear hd4 hb4; clear x0 x1 x2 x3 x4 x5; obtain ⟨x0, x1, x2, x3, x4, x5⟩ := T4.out.cells))
  exact ⟨.bool true, by simp [results, Try.f9, go_sem, answered T4.out], rfl, B4.out.setCell (by simp) _⟩
set_option maxHeartbeats 4000000 in
set_option maxRecDepth 100000 in
theorem covers_in (p s r a o nn rg : Int) (W : World) (ho : Ok p s r a) (hr : rg = p * s) (hw : o ≥ 0 ∧ nn ≥ 0 ∧ o ≤ rg ∧ nn ≤ rg - o) :
    CallsIn Fence.wide 9 Try.prog 9 #[.agg #[.int .i64 p, .int .i64 s, .int .i64 r, .int .i64 a], .int .i64 o, .int .i64 nn] W fun e w' => e = .returned (.bool true) ∧ Below W.heap.size W w' := by
  have hck : Aside0 (cellarref02_Check.f (0 + 20) p s r a = some 0) := ⟨by rw [rcheck_eq]; unfold chk; rw [if_pos ho]⟩
  have bd := Ok.bounds ho
  have hrg : Aside0 (cellarref02_Region.f p s r a = some rg) := ⟨by unfold cellarref02_Region.f; rw [bd.2.2.2.2.2.2.2.2.2.2.2.2.2.1, hr]⟩
  have hwi : Aside0 (cellarref02_Within.f o nn rg = some true) := ⟨within_eq (by omega) (by omega) true (by simp; omega)⟩
  have hby : Aside0 (geom_Bytes.f (0 + 1) p s r a = some (rg, p * s * r, 0)) := ⟨by rw [bytes_yes 0 ho, hr]⟩
  have hin : Aside0 (InRange p o nn rg) := ⟨⟨by omega, by omega, by omega, by omega, by omega, by omega, by omega⟩⟩
  have hrs : Aside0 (rg = p * s) := ⟨hr⟩
  clear ho hr hw bd
  refine callsIn_of_wp_marks Try.func9 rfl trivial ?_ rfl
  simp only [Try.ntmps9, List.size_toArray, List.length_cons, List.length_nil, Nat.reduceAdd, Nat.reduceSub, Array.replicate_succ, Array.replicate_zero, List.push_toArray, List.append_toArray, List.nil_append, List.cons_append]
  gi_wp2_with (first
    | (refine ⟨trivial, ?_⟩; gi_at_call 16; refine (callsIn_wide.2 (cellarlaw02_awake.calls 1 true _ (awake_eq 0))).mono ?_; rintro e w1 ⟨rfl, hb1⟩; have T1 := Aside0.mk ((Two.start W p s r a).next hb1); have B1 := Aside0.mk (below_two hb1); obtain ⟨x0, x1, x2, x3, x4, x5⟩ := T1.out.cells; clear hb1)
    | (refine ⟨trivial, ?_⟩; gi_at_call 17; refine (callsIn_wide.2 (cellarref02_Check.calls (0 + 20) p s r a 0 _ hck.out)).mono ?_; rintro e w2 ⟨rfl, hb2⟩; have T2 := Aside0.mk (T1.out.next hb2); have B2 := Aside0.mk (below_then B1.out B1.out.size hb2); clear x0 x1 x2 x3 x4 x5; obtain ⟨x0, x1, x2, x3, x4, x5⟩ := T2.out.cells; clear hb2)
    | (refine ⟨trivial, ?_⟩; gi_at_call 20; refine (callsIn_wide.2 (cellarref02_Region.calls p s r a _ _ hrg.out)).mono ?_; rintro e w3 ⟨rfl, hb3⟩; have T3 := Aside0.mk (T2.out.next hb3); have B3 := Aside0.mk (below_then B2.out B2.out.size hb3); clear x0 x1 x2 x3 x4 x5; obtain ⟨x0, x1, x2, x3, x4, x5⟩ := T3.out.cells; clear hb3)
    | (refine ⟨trivial, ?_⟩; gi_at_call 30; refine (callsIn_wide.2 (cellarref02_Within.calls o nn rg true _ hwi.out)).mono ?_; rintro e w4 ⟨rfl, hd4⟩; have hb4 := below_drawn hd4; have T4 := Aside0.mk (T3.out.next hb4); have B4 := Aside0.mk (below_then B3.out B3.out.size hb4); clear hd4 hb4; clear x0 x1 x2 x3 x4 x5; obtain ⟨x0, x1, x2, x3, x4, x5⟩ := T4.out.cells; have y0 := cell_old x0 (.cells #[.int .i64 o] 3); have y1 := cell_old x1 (.cells #[.int .i64 o] 3); have y2 := cell_old x2 (.cells #[.int .i64 o] 3); have y3 := cell_old x3 (.cells #[.int .i64 o] 3))
    | (refine ⟨trivial, ?_⟩; gi_at_call 29; refine (callsIn_wide.2 (pieces_walk 1 p s r a o nn rg (p * s * r) 0 hby.out _)).mono ?_; rintro e w6 ⟨v, b1, b2, rfl, hL⟩; have LL := Aside0.mk hL; have hv := hL.val; subst hv; clear hL))
  have hsz : (w4.alloc (.cells #[.int .i64 o] 3)).heap.size = w4.heap.size + 1 := by simp
  have T6 := Aside0.mk ((⟨blk_alloc T4.out.g _, blk_alloc T4.out.b _⟩ : Two W (w4.alloc (.cells #[.int .i64 o] 3)) p s r a).next LL.out.below)
  have K6 := Aside0.mk (blk_below (blk_new w4 (.cells #[.int .i64 o] 3)) LL.out.below)
  have B6 := Aside0.mk (below_then (below_alloc B4.out _) (by have := B4.out.size; simp; omega) LL.out.below)
  have hlt : w4.heap.size + 1 ≤ w6.heap.size := by have := LL.out.below.size; omega
  have hl4 := blk_lt T4.out.b
  have hs := stops_yes (9 - 1) (by omega) LL.out hin.out (Below.refl _ w6)
  rw [hsz] at hs
  have HS := Aside0.mk hs
  clear hs x0 x1 x2 x3 x4 x5 y0 y1 y2 y3 hsz
  refine wpIn_rangeFunc_ownH rfl (by omega) (gf := 49) (lb := _) rfl trivial (enters_of Try.func49 (by kernel_rfl) rfl) HS.out (fun h k => h.trans k) (KeepI.putObj (Nat.le_refl _)) (Below.refl _ w6) (fun _ => rfl)
    (fun pre Wx => (Own9 W p s r a o w4.heap.size pre Wx ∧ Below W.heap.size W Wx) ∧ w6.heap.size ≤ Wx.heap.size) (fun _ pre _ => covered p s o pre = none)
    (OwnFrom.and (OwnFrom.and ((own9 W p s r a o w4.heap.size).from _) (ownFrom_below (Nat.le_refl _) (by omega))) (fun _ _ _ _ hs hg _ => Nat.le_trans hs hg.size)) (fun c => ownFrom_pure _ _)
    ⟨⟨⟨⟨o, rfl, hin.out.o0, by have := hin.out.o1; have := hin.out.r1; have := hin.out.n0; omega, K6.out⟩, T6.out.g, T6.out.b⟩, B6.out⟩, Nat.le_refl _⟩
    (fun x a' Wx => ∃ Bx, w6.heap.size ≤ Bx ∧ Wx.heap[Bx]? = some (.cells #[.int .i64 x.1, .int .i64 x.2.1, .int .i64 x.2.2] 48) ∧ a' = { tmps := #[.agg #[.int .i64 p, .int .i64 s, .int .i64 r, .int .i64 a], .int .i64 o, .int .i64 nn, .pointer (some ⟨W.heap.size, 0, none⟩), undef, undef, .pointer (some ⟨W.heap.size + 1, 0, none⟩), .pointer (some ⟨w4.heap.size, 0, none⟩), .pointer (some ⟨Bx, 0, none⟩), .bool true, .bool false, .agg #[.int .i64 p, .int .i64 s, .int .i64 r, .int .i64 a], .int .i64 0, .bool false, .bool false, .int .i64 o, .int .i64 nn, .agg #[.int .i64 p, .int .i64 s, .int .i64 r, .int .i64 a], .int .i64 rg, .bool true, .bool false, .bool false, .int .i64 o, .agg #[.int .i64 p, .int .i64 s, .int .i64 r, .int .i64 a], .int .i64 o, .int .i64 nn, .func (.func 49) #[] #[.pointer (some ⟨b2, 0, none⟩), .pointer (some ⟨w4.heap.size + 1 + 1, 0, none⟩), .pointer (some ⟨w4.heap.size + 1 + 2, 0, none⟩), .pointer (some ⟨b1, 0, none⟩), .pointer (some ⟨w4.heap.size + 1, 0, none⟩)], .agg #[.int .i64 x.1, .int .i64 x.2.1, .int .i64 x.2.2], undef, undef, undef, undef, undef, undef, undef, undef, undef, undef, undef, undef, undef, undef, undef, undef, undef, undef, undef, undef, undef, undef, undef, undef, undef, undef, undef, undef, undef, undef, undef, undef, undef, undef, undef, undef, undef, undef, undef, undef, undef, undef, undef, undef, undef, undef, undef, undef, undef, undef, undef, undef, undef], defers := [] })
    (fun x a' => Own.from (fun s X Y row hs hg hrow => by obtain ⟨Bx, h1, h2, h3⟩ := hs; exact ⟨Bx, h1, own_blk (β := Unit) Bx (fun _ => .cells #[.int .i64 x.1, .int .i64 x.2.1, .int .i64 x.2.2] 48) (fun _ => rfl) () X Y row h2 hg hrow, h3⟩) _) ?assign ?body ?done ?stop
  case assign =>
    rintro l pre x Wx K ⟨⟨hi, hb⟩, hsx⟩ hK
    gi_wp2
    refine hK _ _ ((KeepsOthers.alloc _ _).from _) (KeepI.alloc hsx _) ⟨⟨?_, hb.alloc hb.size _⟩, by simp; omega⟩ ⟨Wx.heap.size, hsx, blk_new _ _, rfl⟩
    obtain ⟨⟨A, h1, h2, h3, h4⟩, h5, h6⟩ := hi
    exact ⟨⟨A, h1, h2, h3, blk_alloc h4 _⟩, blk_alloc h5 _, blk_alloc h6 _⟩
  case body =>
    rintro l pre x a' Wx hl ⟨rc, hrc⟩ ⟨⟨⟨⟨A, h1, h2, h3, h4⟩, h5, h6⟩, hb⟩, hsx⟩ ⟨Bx, hBx, hX, rfl⟩ hlen
    have e0 := blk_cell hX 0
    have e1 := blk_cell hX 1
    have e2 := blk_cell hX 2
    have g0 := blk_cell h5 0
    have g1 := blk_cell h5 1
    have a0 := blk_cell h4 0
    have a1 := blk_frozen h4 0
    have r0 := blk_cell h6 0
    have r1 := blk_frozen h6 0
    simp only [List.getElem?_toArray, List.getElem?_cons_zero, List.getElem?_cons_succ] at e0 e1 e2 g0 g1 a0 r0
    have S1 := Aside0.mk h1
    have S4 := Aside0.mk h4
    have S5 := Aside0.mk h5
    have S6 := Aside0.mk h6
    clear h1 h4 h5 h6 hX hrc
    gi_wp2
    · have k0 : 0 ≤ x.1 := by assumption
      have k1 : x.1 < s := by assumption
      have k5 : ((((x.1 < 0 ∨ s ≤ x.1) ∨ x.2.1 < 0) ∨ x.2.2 ≤ x.2.1) ∨ p < x.2.2) ∨ (wrap64 (wrap64 (x.1 * p) + x.2.1) != A) = true := by assumption
      refine ⟨(KeepsOthers.setCell _ _ _).from _, ?_⟩
      show covered p s o (pre ++ [x]) = none
      rw [covered_snoc, S1.out, Option.bind_some, if_neg]
      rintro ⟨g0, g1, g2, g3, g4, g5⟩
      have mb := mul_facts hin.out hrs.out k0 k1
      have h1 := hin.out.r1
      have h2 := hin.out.p1
      rw [w64 (n := x.1 * p) (by omega) (by omega), w64 (by omega) (by omega), g5] at k5
      rcases k5 with ((((k5 | k5) | k5) | k5) | k5) | k5
      · omega
      · omega
      · omega
      · omega
      · omega
      · simp at k5
    · have k0 : 0 ≤ x.1 := by assumption
      have k1 : x.1 < s := by assumption
      have k2 : 0 ≤ x.2.1 := by assumption
      have k3 : x.2.1 < x.2.2 := by assumption
      have k4 : x.2.2 ≤ p := by assumption
      have k5 : ((((0 ≤ x.1 ∧ x.1 < s) ∧ 0 ≤ x.2.1) ∧ x.2.1 < x.2.2) ∧ x.2.2 ≤ p) ∧ (wrap64 (wrap64 (x.1 * p) + x.2.1) != A) = false := by assumption
      have mb := mul_facts hin.out hrs.out k0 k1
      have h1 := hin.out.r1
      have h2 := hin.out.p1
      have k6 := k5.2
      rw [w64 (n := x.1 * p) (by omega) (by omega), w64 (by omega) (by omega)] at k6
      have k7 : x.1 * p + x.2.1 = A := by simpa using k6
      refine ⟨(KeepsOthers.setCell _ _ _).from _, KeepI.setCell (.inl (by simp)) _, ⟨⟨⟨A + (x.2.2 - x.2.1), ?_, by omega, by omega, ?_⟩, blk_far S5.out (by simp; omega) _, blk_far S6.out (by simp; omega) _⟩, hb.setCell (by simp; omega) _⟩, Nat.le_trans hsx (KeepsOthers.setCell _ _ _).size⟩
      · rw [covered_snoc, S1.out, Option.bind_some, if_pos ⟨k0, k1, k2, k3, k4, k7⟩]
      · refine blk_put S4.out 0 _ ?_
        first | rfl | (rw [w64 (by omega) (by omega)]; rfl) | (rw [w64 (n := x.2.2 - x.2.1) (by omega) (by omega), w64 (by omega) (by omega)]; rfl)
    all_goals
      refine ⟨(KeepsOthers.setCell _ _ _).from _, ?_⟩
      show covered p s o (pre ++ [x]) = none
      rw [covered_snoc, S1.out, Option.bind_some, if_neg]
      rintro ⟨g0, g1, g2, g3, g4, g5⟩
      omega
  case done =>
    rintro D ys Wx hD rfl ⟨⟨⟨⟨A, h1, h2, h3, h4⟩, h5, h6⟩, hb⟩, _⟩ hK
    rw [covered_upto hin.out hrs.out _ (Nat.le_refl _), Pcs.at_end hin.out.p0 hin.out.o0 hin.out.n0] at h1
    obtain rfl := Option.some.inj h1
    have a0 := blk_cell h4 0
    have r0 := blk_cell h6 0
    have r1 := blk_frozen h6 0
    have h7 := hin.out.o0
    have h8 := hin.out.n0
    simp only [List.getElem?_toArray, List.getElem?_cons_zero, List.getElem?_cons_succ] at a0 r0
    have SK := Aside0.mk hK
    have S6 := Aside0.mk h6
    clear h1 h4 h5 h6 hK
    gi_wp2
    have hK' := (KeepsOthers.setCell Wx ⟨W.heap.size + 1, 0, none⟩ (.bool true)).same D _ SK.out rfl
    refine ⟨by simp, .inl ⟨_, _, rfl, run_takeDeferred hK', ?_⟩⟩
    have hc5 := cell_kept (show (Wx.setCell ⟨W.heap.size + 1, 0, none⟩ (.bool true)).cell? ⟨W.heap.size + 1, 0, none⟩ = some (.bool true) by rw [blk_cell (blk_set S6.out 0 _)]; rfl) (grownBy_putObj' _ D (.deferred none)) (fun r e => by cases e; exact ⟨_, hK', rfl⟩)
    refine ⟨.bool true, by simp [results, Try.f9, go_sem, hc5], rfl, (hb.setCell (p := ⟨W.heap.size + 1, 0, none⟩) (by simp) _).trans (belowK_b (w := W) (Nat.le_refl _) _ D _ _ (by omega) hK' rfl rfl)⟩
  case stop =>
    rintro D c pre Wx hD ⟨k, hk, rfl⟩ hx _
    rw [covered_upto hin.out hrs.out k hk] at hx
    cases hx
theorem covers (p s r a o nn : Int) (W : World) :
    Calls Try.prog 9 #[.agg #[.int .i64 p, .int .i64 s, .int .i64 r, .int .i64 a], .int .i64 o, .int .i64 nn] W fun e w' => e = .returned (.bool true) ∧ Below W.heap.size W w' := by
  refine (callsIn_wide (n := 9)).1 ?_
  by_cases ho : Ok p s r a
  · by_cases hw : o ≥ 0 ∧ nn ≥ 0 ∧ o ≤ p * s ∧ nn ≤ p * s - o
    · exact covers_in p s r a o nn _ W ho rfl hw
    · exact covers_out p s r a o nn _ W ho rfl hw
  · exact covers_bad p s r a o nn W ho
end Go.Proofs.Ytdmcihajgcdhmaa.Range
namespace Go.Proofs.Ytdmcihajgcdhmaa.Main
open Go.RowKit
set_option linter.unusedVariables false
theorem GeomCovers (W : World) (a0_0 : Int) (a0_1 : Int) (a0_2 : Int) (a0_3 : Int) (a1 : Int) (a2 : Int) (w0_0 : (Lit.int .i64 a0_0).wf = true) (w0_1 : (Lit.int .i64 a0_1).wf = true) (w0_2 : (Lit.int .i64 a0_2).wf = true) (w0_3 : (Lit.int .i64 a0_3).wf = true) (w1 : (Lit.int .i64 a1).wf = true) (w2 : (Lit.int .i64 a2).wf = true) :
    Calls Try.prog 9 #[.agg #[.int .i64 a0_0, .int .i64 a0_1, .int .i64 a0_2, .int .i64 a0_3], .int .i64 a1, .int .i64 a2] W fun e w' => e = .returned (.bool true) ∧ Below W.heap.size W w' :=
  Range.covers a0_0 a0_1 a0_2 a0_3 a1 a2 W
end Go.Proofs.Ytdmcihajgcdhmaa.Main
