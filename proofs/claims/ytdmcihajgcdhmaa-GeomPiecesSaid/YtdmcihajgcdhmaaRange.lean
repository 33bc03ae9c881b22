/- geom.Pieces: what its closure goes over, for every loop body.
   No condition. -/
import Derived.RangeFuncNested
import Derived.RangeFuncBound
import Derived.RangeFuncCalls
import Derived.RangeFuncLeaves
import Derived.Shelf.Abstract
import Derived.Shelf.RegionOpen
import Derived.WalkKit
import Derived.OwnWalkIn
import Derived.TacticsInMore
import Derived.LoopNIn
import Derived.LoopIn
import Derived.IntWalk
import Derived.Sort.QuietIn
import Derived.Test.YtdmcihajgcdhmaaGeo
import Derived.Test.YtdmcihajgcdhmaaQGeomPiecesx3
namespace Go.Proofs.Ytdmcihajgcdhmaa.Range
open Go.RowKit Go.Shelf Go.Proofs.YtdmcihajgcdhmaaW.PrintWords Go.Proofs.Ytdmcihajgcdhmaa.QGeomPieces Geo
set_option linter.unusedVariables false
set_option linter.unusedSimpArgs false
set_option linter.unusedSectionVars false
attribute [local go_sem] Oper.semAt_some
set_option linter.unusedSectionVars false
namespace Pcs
/-- How many pieces. -/
def cnt (p o n : Int) : Nat := if n ≤ 0 then 0 else ((o + n - 1) / p - o / p + 1).toNat
/-- Where the j-th begins. -/
def atj (p o n : Int) (j : Nat) : Int := min (o + n) (max o ((o / p + j) * p))
/-- The j-th. -/
def pc (p o n : Int) (j : Nat) : Int × Int × Int := (o / p + j, max o ((o / p + j) * p) - (o / p + j) * p, min (o + n) ((o / p + j + 1) * p) - (o / p + j) * p)
def upto {α : Type} (f : Nat → α) (k : Nat) : List α := (List.range k).map f
theorem upto_succ {α : Type} (f : Nat → α) (k : Nat) : upto f (k + 1) = upto f k ++ [f k] := by simp [upto, List.range_succ]
theorem upto_length {α : Type} (f : Nat → α) (k : Nat) : (upto f k).length = k := by simp [upto]
theorem div_facts {x p : Int} (hp : 0 < p) : x / p * p ≤ x ∧ x < (x / p + 1) * p := by
  have h1 := Int.ediv_mul_le x (Int.ne_of_gt hp)
  have h2 := Int.lt_ediv_add_one_mul_self x hp
  exact ⟨h1, h2⟩
theorem div_eq {x p q : Int} (hp : 0 < p) (h1 : q * p ≤ x) (h2 : x < (q + 1) * p) : x / p = q := by
  obtain ⟨d1, d2⟩ := div_facts (x := x) hp
  have a : q < x / p + 1 := Int.lt_of_mul_lt_mul_right (Int.lt_of_le_of_lt h1 d2) (Int.le_of_lt hp)
  have b : x / p < q + 1 := Int.lt_of_mul_lt_mul_right (Int.lt_of_le_of_lt d1 h2) (Int.le_of_lt hp)
  omega
section
variable {p o n : Int} (hp : 0 < p) (ho : 0 ≤ o) (hn : 0 ≤ n)
include hp ho hn
theorem at_zero : atj p o n 0 = o := by
  obtain ⟨d1, d2⟩ := div_facts (x := o) hp
  unfold atj
  rw [show ((0 : Nat) : Int) = 0 from rfl, Int.add_zero]; omega
theorem in_facts {j : Nat} (h : j < cnt p o n) : 0 < n ∧ (o / p + j) * p < o + n ∧ o < (o / p + j + 1) * p ∧ 0 ≤ (o / p + j) * p ∧ (o / p + j + 1) * p = (o / p + j) * p + p ∧ 0 ≤ o / p + j := by
  unfold cnt at h
  split at h
  · omega
  · obtain ⟨d1, d2⟩ := div_facts (x := o) hp
    obtain ⟨s1, s2⟩ := div_facts (x := o + n - 1) hp
    have hq : 0 ≤ o / p := Int.ediv_nonneg ho (Int.le_of_lt hp)
    have a : (o / p + j) * p ≤ (o + n - 1) / p * p := Int.mul_le_mul_of_nonneg_right (by omega) (Int.le_of_lt hp)
    have b : (o / p + 1) * p ≤ (o / p + j + 1) * p := Int.mul_le_mul_of_nonneg_right (by omega) (Int.le_of_lt hp)
    refine ⟨by omega, by omega, by omega, Int.mul_nonneg (by omega) (Int.le_of_lt hp), by rw [Int.add_mul, Int.one_mul], by omega⟩
theorem at_in {j : Nat} (h : j < cnt p o n) : atj p o n j = max o ((o / p + j) * p) ∧ atj p o n j < o + n ∧ atj p o n j / p = o / p + j ∧ 0 ≤ atj p o n j := by
  obtain ⟨h0, h1, h2, h3, h4, h5⟩ := in_facts hp ho hn h
  have e : atj p o n j = max o ((o / p + j) * p) := by unfold atj; omega
  refine ⟨e, by rw [e]; omega, ?_, by rw [e]; omega⟩
  rw [e]
  exact div_eq hp (by omega) (by omega)
theorem at_next {j : Nat} (h : j < cnt p o n) : atj p o n (j + 1) = min (o + n) ((o / p + j + 1) * p) := by
  obtain ⟨h0, h1, h2, h3, h4, h5⟩ := in_facts hp ho hn h
  unfold atj
  rw [show ((j + 1 : Nat) : Int) = (j : Int) + 1 from by omega, ← Int.add_assoc]
  omega
theorem at_end : atj p o n (cnt p o n) = o + n := by
  unfold atj
  by_cases h : n ≤ 0
  · have : cnt p o n = 0 := by unfold cnt; rw [if_pos h]
    omega
  · obtain ⟨s1, s2⟩ := div_facts (x := o + n - 1) hp
    have hle : o / p ≤ (o + n - 1) / p := Int.ediv_le_ediv hp (by omega)
    have e : o / p + (cnt p o n : Nat) = (o + n - 1) / p + 1 := by unfold cnt; rw [if_neg h]; omega
    rw [e]; omega
/-- The document's pieces: page by page. -/
def cut (p o n : Int) (i : Nat) : Int × Int := (max (o - i * p) 0, min (o - i * p + n) p)
theorem cut_out {i : Nat} (h : (i : Int) < o / p ∨ o / p + cnt p o n ≤ i) : ¬ (cut p o n i).1 < (cut p o n i).2 := by
  obtain ⟨d1, d2⟩ := div_facts (x := o) hp
  have hq : 0 ≤ o / p := Int.ediv_nonneg ho (Int.le_of_lt hp)
  unfold cut
  rcases h with h | h
  · have a : (i + 1) * p ≤ o / p * p := Int.mul_le_mul_of_nonneg_right (by omega) (Int.le_of_lt hp)
    have b : ((i : Int) + 1) * p = i * p + p := by rw [Int.add_mul, Int.one_mul]
    show ¬ max (o - i * p) 0 < min (o - i * p + n) p
    omega
  · have e := at_end hp ho hn
    unfold atj at e
    have a : (o / p + cnt p o n) * p ≤ i * p := Int.mul_le_mul_of_nonneg_right h (Int.le_of_lt hp)
    show ¬ max (o - i * p) 0 < min (o - i * p + n) p
    omega
theorem cut_in {j : Nat} (h : j < cnt p o n) {i : Nat} (hi : (i : Int) = o / p + j) : (cut p o n i).1 < (cut p o n i).2 ∧ ((i : Int), (cut p o n i).1, (cut p o n i).2) = pc p o n j := by
  obtain ⟨h0, h1, h2, h3, h4, h5⟩ := in_facts hp ho hn h
  unfold cut pc
  rw [← hi] at *
  show max (o - i * p) 0 < min (o - i * p + n) p ∧ _
  refine ⟨by omega, ?_⟩
  rw [Prod.mk.injEq, Prod.mk.injEq]
  exact ⟨rfl, by omega, by omega⟩
end
/-- How many pieces lie on the first i pages. -/
def got (p o n : Int) (i : Nat) : Nat := min (cnt p o n) ((i : Int) - o / p).toNat
end Pcs
/-- What lies from one block up to another one stays. -/
def KeepI (lo hi : Nat) (W W' : World) : Prop := ∀ b, lo ≤ b → b < hi → W'.heap[b]? = W.heap[b]?
theorem KeepI.refl (lo hi : Nat) (W : World) : KeepI lo hi W W := fun _ _ _ => rfl
theorem KeepI.trans {lo hi : Nat} {A B C : World} (h : KeepI lo hi A B) (k : KeepI lo hi B C) : KeepI lo hi A C := fun b h1 h2 => (k b h1 h2).trans (h b h1 h2)
theorem KeepI.cell {lo hi : Nat} {W W' : World} (h : KeepI lo hi W W') {b o : Nat} {v : Value} (h1 : lo ≤ b) (h2 : b < hi) (hc : W.cell? ⟨b, o, none⟩ = some v) : W'.cell? ⟨b, o, none⟩ = some v :=
  (World.cell?_of_block (a := ⟨b, o, none⟩) (h b h1 h2)).trans hc
theorem KeepI.putObj {lo hi : Nat} {w : World} (hw : hi ≤ w.heap.size) (W : World) (l : Nat) (o o' : Obj) (hl : w.heap.size ≤ l) (_ : W.heap[l]? = some o) (_ : o.isCells = false) (_ : o.isWalk = false) : KeepI lo hi W (W.putObj l o') :=
  fun b _ h2 => World.putObj_heap_other (by omega)
theorem KeepI.setCell {lo hi : Nat} {W : World} {c : Addr} (h : c.block < lo ∨ hi ≤ c.block) (v : Value) : KeepI lo hi W (W.setCell c v) := fun b h1 h2 => Below.heap_setCell W c v b (by omega)
theorem KeepI.alloc {lo hi : Nat} {W : World} (h : hi ≤ W.heap.size) (o : Obj) : KeepI lo hi W (W.alloc o) := fun b _ h2 => Below.heap_alloc W o b (by omega)
theorem KeepI.below {lo hi n : Nat} {W W' : World} (h : Below n W W') (hn : hi ≤ n) : KeepI lo hi W W' := fun b _ h2 => h.block b (by omega)
theorem cell_new1 (w : World) (v : Value) (t : TypeId) : (w.alloc (.cells #[v] t)).cell? ⟨w.heap.size, 0, none⟩ = some v := by rw [blk_cell (blk_new w _)]; rfl
theorem cell_old {w : World} {b o : Nat} {v : Value} (h : w.cell? ⟨b, o, none⟩ = some v) (x : Obj) : (w.alloc x).cell? ⟨b, o, none⟩ = some v :=
  (World.cell?_of_block (a := ⟨b, o, none⟩) (Below.heap_alloc w x b (World.block_lt_of_cell? w ⟨b, o, none⟩ h))).trans h
/-- A piece as yield takes it. -/
abbrev encP (x : Int × Int × Int) : Array Value := #[.agg #[.int .i64 x.1, .int .i64 x.2.1, .int .i64 x.2.2]]
/-- What a range must be. -/
structure InRange (p o n rg : Int) : Prop where
  p0 : 0 < p
  p1 : p ≤ 4096
  o0 : 0 ≤ o
  n0 : 0 ≤ n
  n1 : n ≤ rg
  o1 : o ≤ rg - n
  r1 : rg ≤ 1048576
theorem round_facts {p o n rg : Int} (h : InRange p o n rg) {k : Nat} (hk : k < Pcs.cnt p o n) : ∃ A Q R S T : Int, Pcs.atj p o n k = A ∧ A / p = Q ∧ (Q + 1) * p = R ∧ Q * p = S ∧ min (o + n) R = T ∧ Pcs.atj p o n (k + 1) = T ∧ Pcs.pc p o n k = (Q, A - S, T - S) ∧
    0 ≤ A ∧ A < o + n ∧ 0 ≤ Q ∧ Q ≤ 1048576 ∧ 0 ≤ S ∧ S ≤ A ∧ R = S + p ∧ S ≤ T ∧ T ≤ o + n ∧ A < T := by
  obtain ⟨p0, p1, o0, n0, n1, o1, r1⟩ := h
  obtain ⟨h0, h1, h2, h3, h4, h5⟩ := Pcs.in_facts p0 o0 n0 hk
  obtain ⟨a1, a2, a3, a4⟩ := Pcs.at_in p0 o0 n0 hk
  have a5 := Pcs.at_next p0 o0 n0 hk
  have hq : Pcs.atj p o n k / p ≤ Pcs.atj p o n k := Int.ediv_le_self _ a4
  have hr := (Pcs.div_facts (x := Pcs.atj p o n k) p0).1
  refine ⟨_, _, _, _, _, rfl, rfl, rfl, rfl, rfl, ?_, ?_, a4, a2, by rw [a3]; exact h5, by omega, ?_, hr, by rw [Int.add_mul, Int.one_mul], ?_, by omega, ?_⟩
  · rw [a3]; exact a5
  · rw [a3]; unfold Pcs.pc; rw [a1]
  · rw [a3]; exact h3
  · rw [a3] at hr ⊢
    omega
  · rw [a3]; omega
set_option maxRecDepth 100000 in
set_option maxHeartbeats 4000000 in
/-- geom.Pieces's closure, of a range that lies within a region: for every loop body that leaves the closure's own variables. -/
theorem iter_yes (n : Nat) (hn : 1 ≤ n) (l lo hi bE bO bN bR bG : Nat) (p s r a o nn rg : Int) (hin : InRange p o nn rg)
    (hE : lo ≤ bE ∧ bE < hi) (hO : lo ≤ bO ∧ bO < hi) (hN : lo ≤ bN ∧ bN < hi) (hR : lo ≤ bR ∧ bR < hi) (hG : lo ≤ bG ∧ bG < hi) (J Jx : List (Int × Int × Int) → World → Prop)
    (hY : ∀ pre x W, J pre W → pre.length < Pcs.cnt p o nn → YieldAt Fence.wide (n - 1) Try.prog l (encP x) W fun e W' =>
      (e = .returned (.bool true) ∧ J (pre ++ [x]) W' ∧ KeepI lo hi W W') ∨ (e = .returned (.bool false) ∧ Jx (pre ++ [x]) W'))
    (W : World) (hJ : AbidesFrom W.heap.size J) (cE : W.cell? ⟨bE, 0, none⟩ = some (.int .i64 0)) (cO : W.cell? ⟨bO, 0, none⟩ = some (.int .i64 o)) (cN : W.cell? ⟨bN, 0, none⟩ = some (.int .i64 nn)) (cR : W.cell? ⟨bR, 0, none⟩ = some (.int .i64 rg))
    (cG : W.cell? ⟨bG, 0, none⟩ = some (.int .i64 p)) (h0 : J [] W) :
    CallsIn Fence.wide n Try.prog 49 #[.func (.yield l) #[] #[], .pointer (some ⟨bE, 0, none⟩), .pointer (some ⟨bO, 0, none⟩), .pointer (some ⟨bN, 0, none⟩), .pointer (some ⟨bR, 0, none⟩), .pointer (some ⟨bG, 0, none⟩)] W fun e W' => (∃ v, e = .returned v) ∧
      ((∃ ys, ys = Pcs.upto (Pcs.pc p o nn) (Pcs.cnt p o nn) ∧ J ys W') ∨ (∃ pre, (∃ k, k ≤ Pcs.cnt p o nn ∧ pre = Pcs.upto (Pcs.pc p o nn) k) ∧ Jx pre W')) := by
  have hd := Aside0.mk hin
  obtain ⟨p0, p1, o0, n0, n1, o1, r1⟩ := hin
  have z0 := Aside0.mk (Pcs.at_zero (n := nn) p0 o0 n0)
  have z1 := Aside0.mk (Pcs.at_end p0 o0 n0)
  refine callsIn_of_wp Try.func49 rfl trivial ?_ rfl
  simp only [Try.ntmps49, List.size_toArray, List.length_cons, List.length_nil, Nat.reduceAdd, Nat.reduceSub, Array.replicate_succ, Array.replicate_zero, List.push_toArray, List.append_toArray, List.nil_append, List.cons_append]
  have d1 : decide (o < 0) = false := decide_eq_false (by omega)
  have d2 : decide (nn < 0) = false := decide_eq_false (by omega)
  have d3 : decide (rg < nn) = false := decide_eq_false (by omega)
  have d4 : decide (rg - nn < o) = false := decide_eq_false (by omega)
  have ws : IntKind.i64.wrap (o + nn) = o + nn := IntWalk.i64_in _ (by omega)
  gi_wp2
  gi_quiet (fail)
  gi_wp2
  gi_loopw [7] (fun i wr => ∃ k : Nat, k ≤ Pcs.cnt p o nn ∧ i = .int .i64 (Pcs.atj p o nn k) ∧ J (Pcs.upto (Pcs.pc p o nn) k) wr ∧ KeepI lo hi W wr)
    (fun i _ => (o + nn - intOf i).toNat)
  case atStart => exact ⟨0, Nat.zero_le _, by rw [z0.out], hJ _ _ _ none h0 ⟨rfl, rfl, rfl, Nat.le_refl _, fun _ _ _ => rfl⟩ (fun _ e => by cases e), fun _ _ _ => rfl⟩
  case round =>
    obtain ⟨k, hk, rfl, hJs, hnx⟩ := hrel
    have cG' := hnx.cell hG.1 hG.2 cG
    by_cases hlt : k < Pcs.cnt p o nn
    · obtain ⟨A, Q, R, S, T, eA, eQ, eR, eS, eT, eA', ePc, f1, f2, f3, f4, f5, f6, f7, f8, f9, f10⟩ := round_facts hd.out hlt
      rw [eA]
      have KA := Aside0.mk eA'
      have KP := Aside0.mk ePc
      have hc : (o + nn ≤ R ∧ T = o + nn) ∨ (R < o + nn ∧ T = R) := by omega
      clear eA eA' ePc eT
      subst f7
      rcases hc with ⟨hb, rfl⟩ | ⟨hb, rfl⟩
      all_goals
        obtain ⟨fn, tmps, assign, body, hy, hRd⟩ := hY _ (Pcs.pc p o nn k) wr hJs (by rw [Pcs.upto_length]; exact hlt)
        rw [KP.out] at hy hRd
        simp only [encP] at hy
        gi_wp2
        refine hRd.mono ?_
        rintro e W3 (⟨rfl, hJ3, hk3⟩ | ⟨rfl, hJx3⟩)
        · gi_wp2
          go_roundw
          case rel => exact ⟨k + 1, by omega, by rw [KA.out], by rw [Pcs.upto_succ, KP.out]; exact hJ3, hnx.trans hk3⟩
          case measure => simp [intOf]; omega
        · gi_wp2
          refine bodyPost_ret (results_none rfl _ _ _) rfl ?_
          exact ⟨⟨_, rfl⟩, .inr ⟨_, ⟨k + 1, by omega, by rw [Pcs.upto_succ, KP.out]⟩, hJx3⟩⟩
    · obtain rfl : k = Pcs.cnt p o nn := by omega
      rw [z1.out]
      gi_wp2
      go_end0
      exact ⟨⟨_, rfl⟩, .inl ⟨_, rfl, hJs⟩⟩
set_option maxRecDepth 100000 in
set_option maxHeartbeats 1000000 in
/-- .. of whatever else: no piece. -/
theorem iter_no (n : Nat) (l bE bO bN bR bG : Nat) (er o nn rg : Int) (hno : er ≠ 0 ∨ (er = 0 ∧ 0 ≤ rg ∧ rg ≤ 1048576 ∧ (o < 0 ∨ nn < 0 ∨ (0 ≤ nn ∧ rg < nn) ∨ (0 ≤ nn ∧ nn ≤ rg ∧ rg - nn < o))))
    (J : List (Int × Int × Int) → World → Prop)
    (W : World) (cE : W.cell? ⟨bE, 0, none⟩ = some (.int .i64 er)) (cO : W.cell? ⟨bO, 0, none⟩ = some (.int .i64 o)) (cN : W.cell? ⟨bN, 0, none⟩ = some (.int .i64 nn)) (cR : W.cell? ⟨bR, 0, none⟩ = some (.int .i64 rg)) (h0 : J [] W) :
    CallsIn Fence.wide n Try.prog 49 #[.func (.yield l) #[] #[], .pointer (some ⟨bE, 0, none⟩), .pointer (some ⟨bO, 0, none⟩), .pointer (some ⟨bN, 0, none⟩), .pointer (some ⟨bR, 0, none⟩), .pointer (some ⟨bG, 0, none⟩)] W fun e W' => (∃ v, e = .returned v) ∧ J [] W' := by
  refine callsIn_of_wp Try.func49 rfl trivial ?_ rfl
  simp only [Try.ntmps49, List.size_toArray, List.length_cons, List.length_nil, Nat.reduceAdd, Nat.reduceSub, Array.replicate_succ, Array.replicate_zero, List.push_toArray, List.append_toArray, List.nil_append, List.cons_append]
  have fin : ∀ (b : Bool), b = true → b = true := fun _ h => h
  by_cases c0 : er = 0
  · subst c0
    by_cases c1 : o < 0
    · have d1 := decide_eq_true c1
      clear hno
      gi_wp2
      refine bodyPost_ret (results_none rfl _ _ _) rfl ?_
      exact ⟨⟨_, rfl⟩, h0⟩
    · have d1 := decide_eq_false c1
      by_cases c2 : nn < 0
      · have d2 := decide_eq_true c2
        clear hno
        gi_wp2
        refine bodyPost_ret (results_none rfl _ _ _) rfl ?_
        exact ⟨⟨_, rfl⟩, h0⟩
      · have d2 := decide_eq_false c2
        by_cases c3 : rg < nn
        · have d3 := decide_eq_true c3
          clear hno
          gi_wp2
          refine bodyPost_ret (results_none rfl _ _ _) rfl ?_
          exact ⟨⟨_, rfl⟩, h0⟩
        · have d3 := decide_eq_false c3
          have d4 : decide (rg - nn < o) = true := decide_eq_true (by omega)
          have f1 : 0 ≤ rg := by omega
          have f2 : rg ≤ 1048576 := by omega
          clear hno
          gi_wp2
          refine bodyPost_ret (results_none rfl _ _ _) rfl ?_
          exact ⟨⟨_, rfl⟩, h0⟩
  · clear hno
    gi_wp2
    refine bodyPost_ret (results_none rfl _ _ _) rfl ?_
    exact ⟨⟨_, rfl⟩, h0⟩
end Go.Proofs.Ytdmcihajgcdhmaa.Range
