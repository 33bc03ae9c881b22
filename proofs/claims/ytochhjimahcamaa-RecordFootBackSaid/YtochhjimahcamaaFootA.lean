/- record.put and the document's low onto a constant's bytes; both EncodeFoot.
   No condition. -/
import Derived.Test.YtochhjimahcamaaDecBase
import Derived.ArgAppend
import Derived.Lib.SlBytesConst
import Derived.BigRegion
import Derived.Deep.QuietTactic
import Derived.BigQuiet
import Derived.Deep.RegionHeld3
import Derived.ChangeAlike
import Derived.RegionTactic
namespace Go.Proofs.Ytochhjimahcamaa.QRecordEncodes
open Geo Crc
open Go.RowKit Go.Proofs.YtochhjimahcamaaW.PrintWords Go.Proofs.YtochhjimahcamaaW.PrintLast Go.Proofs.YtochhjimahcamaaW.PrintMore
set_option linter.unusedVariables false
set_option linter.unusedSimpArgs false
def fbody (n u s t : Nat) : List Nat := [67, 76, 82, 70] ++ leb 4 n ++ leb 4 u ++ leb 4 s ++ leb 4 t
theorem fbody_bytes (n u s t : Nat) : Bytes (fbody n u s t) := by
  refine Bytes.append (Bytes.append (Bytes.append (Bytes.append ?_ (leb_bytes _ _)) (leb_bytes _ _)) (leb_bytes _ _)) (leb_bytes _ _)
  unfold Bytes; decide
theorem fbody_length (n u s t : Nat) : (fbody n u s t).length = 20 := by simp [fbody, leb_length]
def foot (n u s t : Nat) : List Nat := fbody n u s t ++ leb 4 (ext 0 (fbody n u s t))
theorem foot_length (n u s t : Nat) : (foot n u s t).length = 24 := by simp [foot, fbody_length, leb_length]
/-- What EncodeFoot answers. -/
def efoot (p s r a n u : Int) (x y : Nat) : List Nat × Int :=
  if Ok p s r a then (if n < 0 ∨ n > 2147483647 ∨ u < 32 ∨ u > p * s - 24 then ([], 1) else (foot n.toNat u.toNat x y, 0)) else ([], 20)
/-- put onto bytes of one's own. -/
theorem put_walk (P0 : Nat → Prop) (v : Value) (acc : List Nat) (x sz : Nat) (w0 w : World) (hB : Below w0.heap.size w0 w) (ho : Kd.R (Kd.int .u8) 5 w w0.heap.size P0 v (ints acc)) (hs : sz ≤ 8) (ha : acc.length < 140737488355000) :
    Calls Try.prog 28 #[v, .int .u64 (x : Int), .int .i64 (sz : Int)] w fun e w' => ∃ v', e = .returned v' ∧ Kd.R (Kd.int .u8) 5 w' w0.heap.size (fun k => P0 k ∨ w.heap.size ≤ k) v' (ints (acc ++ leb sz x)) ∧ Below w0.heap.size w0 w' ∧ Kept w w' (fun k => P0 k) :=
  record_put.calls 9 P0 v (ints acc) (x : Int) (sz : Int) _ w0 w hB ho (put_eq 9 sz x acc hs ha (by omega))
/-- A row of bytes that is full and marked behind its end, as a constant's bytes are. -/
def Full (g : Nat) (xs : List Int) (m : Nat × Nat) (v : Value) (ys : List Int) (i : Int) (w : World) : Prop :=
  v = .slice (some ⟨g, 0, none⟩) xs.length xs.length ∧ ys = xs ∧ i = 0 ∧ w.heap[g]? = some (.cells (nums .u8 xs).toArray 5 m)
theorem Full.cell {g : Nat} {xs : List Int} {m : Nat × Nat} {v : Value} {ys : List Int} {i : Int} {w : World} (h : Full g xs m v ys i w) (j : Nat) (u : Value) (hj : (nums .u8 xs)[j]? = some u) : w.cell? ((⟨g, 0, none⟩ : Addr).add j) = some u := by
  have e : ((⟨g, 0, none⟩ : Addr).add j) = ⟨g, j, none⟩ := by
    by_cases h0 : j = 0
    · subst h0; rfl
    · simp [Addr.add, h0]
  rw [e, cell_of_row w g j _ 5 m h.2.2.2, List.getElem?_toArray]
  exact hj
set_option maxHeartbeats 8000000 in
set_option maxRecDepth 100000 in
/-- put onto such a row: new memory is made. -/
theorem put_full (k : Nat) (g : Nat) (xs : List Int) (m : Nat × Nat) (a1 : Int) (a2 : Int) (r : List Int) (w : World) (hx : 0 < xs.length) (ha2 : 0 < a2) (hg : w.heap[g]? = some (.cells (nums .u8 xs).toArray 5 m)) (h : record_put.f k xs a1 a2 = some r) :
    Calls Try.prog 28 #[.slice (some ⟨g, 0, none⟩) xs.length xs.length, .int .u64 a1, .int .i64 a2] w fun e w' => ∃ v0_ : Value, e = .returned (v0_) ∧ Kd.R (Kd.int .u8) 5 w' w.heap.size (fun _ => True) v0_ r ∧ Below w.heap.size w w' := by
  have HO0 := Aside0.mk (show Full g xs m (.slice (some ⟨g, 0, none⟩) xs.length xs.length) xs 0 w from ⟨rfl, rfl, rfl, hg⟩)
  have hglt := Aside0.mk (blk_lt hg)
  obtain ⟨i0, hi, hz0, hz1, hz2⟩ := info_parts info5
  have HI := Aside0.mk (And.intro hi (And.intro hz0 (And.intro hz1 hz2)))
  have HB := Aside0.mk (Below.refl w.heap.size w)
  clear hg hi hz0 hz1 hz2
  have H : (record_put.l0 k xs a1 a2 0) = some r := h
  clear h
  have H' := Aside0.mk H
  clear H
  go_enter Try.func28, Try.ntmps28
  go_wp2
  go_loopg [0, 9] k (fun kq v0 v9 w' => ∃ (x0_1 : List Int) (x9_1 : Int), v9 = .int .i64 x9_1 ∧ Aside0 (record_put.l0 kq x0_1 a1 a2 x9_1 = some r) ∧ Aside0 (kq ≤ k) ∧ Aside0 (Full g xs m v0 x0_1 x9_1 w' ∨ Kd.R (Kd.int .u8) 5 w' w.heap.size (fun _ => True) v0 x0_1) ∧ Aside0 (Below w.heap.size w w'))
  case atStart => exact ⟨xs, 0, rfl, H', ⟨Nat.le_refl _⟩, ⟨.inl HO0.out⟩, HB⟩
  case round =>
    clear H' HO0 HB
    obtain ⟨x0_1, x9_1, rfl, HA, HK1, HO_0, HB⟩ := hrel
    cases gk with
    | zero => exact absurd HA.out (by simp [record_put.l0])
    | succ k1 =>
      have H := HA.out
      clear HA
      simp only [record_put.l0] at H
      by_cases c4 : x9_1 < a2
      · rw [if_pos c4] at H
        have c4b0 : decide (x9_1 < a2) = true := decide_eq_true c4
        clear c4
        obtain ⟨ji5, hji5⟩ : ∃ j_ : Int, (wrap64 (8 * x9_1)) = j_ := ⟨_, rfl⟩
        replace H : (if 0 ≤ (ji5) then (if x0_1.length < 140737488355328 then (record_put.l0 k1 (x0_1 ++ [(shr .u64 a1 (ji5)) % 256]) a1 a2 (wrap64 (x9_1 + 1))) else (none)) else (none)) = some r := by rw [hji5] at H; exact H
        have hji5w : (IntKind.i64.wrap (8 * x9_1)) = ji5 := (i64_w _).trans hji5
        by_cases c6 : 0 ≤ (ji5)
        · rw [if_pos c6] at H
          have c6b0 := eq_true c6
          have c6b1 : decide (0 ≤ (ji5)) = true := decide_eq_true c6
          clear c6
          obtain ⟨ji7, hji7⟩ : ∃ j_ : Int, (shr .u64 a1 (ji5)) = j_ := ⟨_, rfl⟩
          replace H : (if x0_1.length < 140737488355328 then (record_put.l0 k1 (x0_1 ++ [(ji7) % 256]) a1 a2 (wrap64 (x9_1 + 1))) else (none)) = some r := by rw [hji7] at H; exact H
          have hji7_ : (a1 / 2 ^ min (ji5).toNat 64) = ji7 := hji7
          have hji7z : (ji5) ≤ 64 → (a1 / 2 ^ (ji5).toNat) = ji7 := shr_small hji7
          by_cases c8 : x0_1.length < 140737488355328
          · rw [if_pos c8] at H
            have LMc8 := Aside0.mk c8
            clear c8
            have H' := Aside0.mk H
            clear H
            rcases HO_0.out with hF | hR
            · obtain ⟨rfl, rfl, rfl, hgr⟩ := hF
              have HG := Aside0.mk (show Full g x0_1 m (.slice (some ⟨g, 0, none⟩) x0_1.length x0_1.length) x0_1 0 wr from ⟨rfl, rfl, rfl, hgr⟩)
              clear hgr HO_0
              have h5 : ji5 = 0 := by rw [← hji5]; decide +kernel
              subst h5
              have h7 : ji7 = a1 := by rw [← hji7]; unfold shr; simp
              subst h7
              clear hji5 hji5w hji7 hji7_ hji7z c6b0 c6b1
              go_wp2_with ((with_reducible refine gate_builtin (b := .append) (xs := #[.tmp 12, .tmp 18]) rfl ?_); at_builtin; refine wpList_append_grows _ rfl (.tmp 12) (.tmp 18) 28 rfl 5 i0 (.int .u8 0) 1 1 Try.underlying28 HI.out.1 HI.out.2.1 HI.out.2.2.1 HI.out.2.2.2 rfl (by decide) (some ⟨g, 0, none⟩) x0_1.length x0_1.length (nums .u8 x0_1) rfl ?cn ?cl ?ch ⟨wr.heap.size, 0, none⟩ 1 1 [.int .u8 (ji7 % 256)] rfl rfl ?cc ?c1 ?cf ?b1 ?b2 ?_; (case cn => (intro e; cases e)); (case cl => simp [nums]); (case ch => (intro b e j u hj; cases e; exact pw_cell_below (below_alloc (Below.refl wr.heap.size wr) _) (HG.out.cell j u hj))); (case cc => exact World.news_of_block (cs := #[.int .u8 (ji7 % 256)]) (t := 5) (fr := (0, 0)) (blk_new wr _)); (case c1 => simp [Value.oneCell']); (case cf => omega); (case b1 => (have := LMc8.out; unfold maxLen; omega)); (case b2 => (have := LMc8.out; omega)); intro v1 w1 hown hgrow; have HR1 := Aside0.mk (Kd.R_lower (base' := w.heap.size) (Kd.R_of_own (h1 := fun _ => rfl) (ok := fun _ => True) (enc := Value.int .u8) (xs := x0_1 ++ [ji7 % 256]) (by simpa [encs, nums] using hown) (fun _ _ => trivial)) (by have := HB.out.size; simp; omega)); have HB1 := Aside0.mk ((below_alloc HB.out (.cells #[.int .u8 (ji7 % 256)] 5)).grown hgrow (by have := HB.out.size; simp; omega) (fun k e => by cases e)); clear hown hgrow HB HG)
              go_roundg k1
              case measure => have := HK1.out; omega
              case rel => exact ⟨_, _, rfl, ⟨by have h := H'.out; rw [show wrap64 (0 + 1) = 1 by decide +kernel] at h; exact h⟩, ⟨by have := HK1.out; omega⟩, ⟨.inr HR1.out⟩, HB1⟩
            · have HR0 := Aside0.mk hR
              clear HO_0 hR
              go_wp2_with ((with_reducible refine gate_builtin (b := .append) (xs := #[.tmp 12, .tmp 18]) rfl ?_); at_builtin; refine Kd.R_append (Kd.int .u8) (w0 := w) w.heap.size rfl (.tmp 12) (.tmp 18) 28 5 (.int .u8 0) 1 rfl Try.underlying28 info5 rfl (by decide) (by omega) u0 x0_1 ((ji7) % 256) [.int .u8 ((ji7) % 256)] (fun _ => True) (fun _ => False) rfl rfl ?aP (fun _ hk => hk.elim) ?aF ?aO ?aB ?aS ?aL ?_; (case aP => exact rfl); (case aB => exact HB.out); (case aF => exact (fun _ _ => trivial)); (case aO => exact HR0.out); (case aS => exact below_size HB.out); (case aL => have := LMc8.out; omega); intro v121 w9 ho hb hg hat; have HR1 := Aside0.mk ho; have HB1 := Aside0.mk hb; clear ho hb hg hat HB HR0)
              go_roundg k1
              case measure => have := HK1.out; omega
              case rel => exact ⟨_, _, rfl, H', ⟨by have := HK1.out; omega⟩, ⟨.inr HR1.out⟩, HB1⟩
          · rw [if_neg c8] at H
            exact absurd H (by simp)
        · rw [if_neg c6] at H
          exact absurd H (by simp)
      · rw [if_neg c4] at H
        have c4b0 : decide (x9_1 < a2) = false := decide_eq_false c4
        rcases HO_0.out with hF | hR
        · exact absurd ha2 (by have := hF.2.2.1; omega)
        · clear c4
          have HR := Aside0.mk hR
          clear HO_0 hR
          obtain rfl := Option.some.inj H
          go_wp2
          go_ret
          exact ⟨_, rfl, HR.out, HB.out⟩
set_option maxHeartbeats 8000000 in
set_option maxRecDepth 100000 in
/-- The document's low onto such a row. -/
theorem low_full (k : Nat) (g : Nat) (xs : List Int) (m : Nat × Nat) (a1 : Int) (a2 : Int) (r : List Int) (w : World) (hx : 0 < xs.length) (ha2 : 0 < a2) (hg : w.heap[g]? = some (.cells (nums .u8 xs).toArray 5 m)) (h : cellarref05_low.f k xs a1 a2 = some r) :
    Calls Try.prog 32 #[.slice (some ⟨g, 0, none⟩) xs.length xs.length, .int .u64 a1, .int .i64 a2] w fun e w' => ∃ v0_ : Value, e = .returned (v0_) ∧ Kd.R (Kd.int .u8) 5 w' w.heap.size (fun _ => True) v0_ r ∧ Below w.heap.size w w' := by
  have HO0 := Aside0.mk (show Full g xs m (.slice (some ⟨g, 0, none⟩) xs.length xs.length) xs 0 w from ⟨rfl, rfl, rfl, hg⟩)
  have hglt := Aside0.mk (blk_lt hg)
  obtain ⟨i0, hi, hz0, hz1, hz2⟩ := info_parts info5
  have HI := Aside0.mk (And.intro hi (And.intro hz0 (And.intro hz1 hz2)))
  have HB := Aside0.mk (Below.refl w.heap.size w)
  clear hg hi hz0 hz1 hz2
  have H : (cellarref05_low.l0 k xs a1 a2 0) = some r := h
  clear h
  have H' := Aside0.mk H
  clear H
  go_enter Try.func32, Try.ntmps32
  go_wp2
  go_loopg [0, 1, 7] k (fun kq v0 v1 v7 w' => ∃ (x0_1 : List Int) (x1_1 : Int) (x7_1 : Int), v1 = .int .u64 x1_1 ∧ v7 = .int .i64 x7_1 ∧ Aside0 (cellarref05_low.l0 kq x0_1 x1_1 a2 x7_1 = some r) ∧ Aside0 (kq ≤ k) ∧ Aside0 (Full g xs m v0 x0_1 x7_1 w' ∨ Kd.R (Kd.int .u8) 5 w' w.heap.size (fun _ => True) v0 x0_1) ∧ Aside0 (Below w.heap.size w w'))
  case atStart => exact ⟨xs, a1, 0, rfl, rfl, H', ⟨Nat.le_refl _⟩, ⟨.inl HO0.out⟩, HB⟩
  case round =>
    clear H' HO0 HB
    obtain ⟨x0_1, x1_1, x7_1, rfl, rfl, HA, HK1, HO_0, HB⟩ := hrel
    cases gk with
    | zero => exact absurd HA.out (by simp [cellarref05_low.l0])
    | succ k1 =>
      have H := HA.out
      clear HA
      simp only [cellarref05_low.l0] at H
      by_cases c4 : x7_1 < a2
      · rw [if_pos c4] at H
        have c4b0 : decide (x7_1 < a2) = true := decide_eq_true c4
        clear c4
        by_cases c5 : x0_1.length < 140737488355328
        · rw [if_pos c5] at H
          have LMc8 := Aside0.mk c5
          clear c5
          have H' := Aside0.mk H
          clear H
          rcases HO_0.out with hF | hR
          · obtain ⟨rfl, rfl, rfl, hgr⟩ := hF
            have HG := Aside0.mk (show Full g x0_1 m (.slice (some ⟨g, 0, none⟩) x0_1.length x0_1.length) x0_1 0 wr from ⟨rfl, rfl, rfl, hgr⟩)
            clear hgr HO_0
            go_wp2_with ((with_reducible refine gate_builtin (b := .append) (xs := #[.tmp 13, .tmp 16]) rfl ?_); at_builtin; refine wpList_append_grows _ rfl (.tmp 13) (.tmp 16) 28 rfl 5 i0 (.int .u8 0) 1 1 Try.underlying28 HI.out.1 HI.out.2.1 HI.out.2.2.1 HI.out.2.2.2 rfl (by decide) (some ⟨g, 0, none⟩) x0_1.length x0_1.length (nums .u8 x0_1) rfl ?cn ?cl ?ch ⟨wr.heap.size, 0, none⟩ 1 1 [.int .u8 (x1_1 % 256)] rfl rfl ?cc ?c1 ?cf ?b1 ?b2 ?_; (case cn => (intro e; cases e)); (case cl => simp [nums]); (case ch => (intro b e j u hj; cases e; exact pw_cell_below (below_alloc (Below.refl wr.heap.size wr) _) (HG.out.cell j u hj))); (case cc => exact World.news_of_block (cs := #[.int .u8 (x1_1 % 256)]) (t := 5) (fr := (0, 0)) (blk_new wr _)); (case c1 => simp [Value.oneCell']); (case cf => omega); (case b1 => (have := LMc8.out; unfold maxLen; omega)); (case b2 => (have := LMc8.out; omega)); intro v1 w1 hown hgrow; have HR1 := Aside0.mk (Kd.R_lower (base' := w.heap.size) (Kd.R_of_own (h1 := fun _ => rfl) (ok := fun _ => True) (enc := Value.int .u8) (xs := x0_1 ++ [x1_1 % 256]) (by simpa [encs, nums] using hown) (fun _ _ => trivial)) (by have := HB.out.size; simp; omega)); have HB1 := Aside0.mk ((below_alloc HB.out (.cells #[.int .u8 (x1_1 % 256)] 5)).grown hgrow (by have := HB.out.size; simp; omega) (fun k e => by cases e)); clear hown hgrow HB HG)
            go_roundg k1
            case measure => have := HK1.out; omega
            case rel => exact ⟨_, _, _, rfl, rfl, ⟨by have h := H'.out; rw [show wrap64 (0 + 1) = 1 by decide +kernel] at h; exact h⟩, ⟨by have := HK1.out; omega⟩, ⟨.inr HR1.out⟩, HB1⟩
          · have HR0 := Aside0.mk hR
            clear HO_0 hR
            go_wp2_with ((with_reducible refine gate_builtin (b := .append) (xs := #[.tmp 13, .tmp 16]) rfl ?_); at_builtin; refine Kd.R_append (Kd.int .u8) (w0 := w) w.heap.size rfl (.tmp 13) (.tmp 16) 28 5 (.int .u8 0) 1 rfl Try.underlying28 info5 rfl (by decide) (by omega) u0 x0_1 ((x1_1) % 256) [.int .u8 ((x1_1) % 256)] (fun _ => True) (fun _ => False) rfl rfl ?aP (fun _ hk => hk.elim) ?aF ?aO ?aB ?aS ?aL ?_; (case aP => exact rfl); (case aB => exact HB.out); (case aF => exact (fun _ _ => trivial)); (case aO => exact HR0.out); (case aS => exact below_size HB.out); (case aL => have := LMc8.out; omega); intro v121 w9 ho hb hg hat; have HR1 := Aside0.mk ho; have HB1 := Aside0.mk hb; clear ho hb hg hat HB HR0)
            go_roundg k1
            case measure => have := HK1.out; omega
            case rel => exact ⟨_, _, _, rfl, rfl, H', ⟨by have := HK1.out; omega⟩, ⟨.inr HR1.out⟩, HB1⟩
        · rw [if_neg c5] at H
          exact absurd H (by simp)
      · rw [if_neg c4] at H
        have c4b0 : decide (x7_1 < a2) = false := decide_eq_false c4
        rcases HO_0.out with hF | hR
        · exact absurd ha2 (by have := hF.2.2.1; omega)
        · clear c4
          have HR := Aside0.mk hR
          clear HO_0 hR
          obtain rfl := Option.some.inj H
          go_wp2
          go_ret
          exact ⟨_, rfl, HR.out, HB.out⟩
set_option maxHeartbeats 4000000 in
set_option maxRecDepth 100000 in
/-- Bytes, and their check sum behind them. -/
theorem summed_walk (v : Value) (bs : List Nat) (hb : Bytes bs) (hl : bs.length < 1000) (w0 w : World) (hB : Below w0.heap.size w0 w) (ho : Kd.R (Kd.int .u8) 5 w w0.heap.size (fun _ => True) v (ints bs)) :
    Calls Try.prog 42 #[v] w fun e w' => ∃ v', e = .returned v' ∧ Kd.R (Kd.int .u8) 5 w' w0.heap.size (fun _ => True) v' (ints (bs ++ leb 4 (ext 0 bs))) ∧ Below w0.heap.size w0 w' := by
  obtain ⟨A, c, rfl⟩ := Kd.R_slice ho
  obtain ⟨_, hc, hC⟩ := Kd.R_reads' ho
  have hx : ext 0 bs < 4294967296 := ext_lt (by decide) hb
  have hw : IntKind.u64.wrap ((ext 0 bs : Nat) : Int) = ((ext 0 bs : Nat) : Int) := u64w (by omega)
  have HO := Aside0.mk ho
  have HB := Aside0.mk hB
  have HC := Aside0.mk hC
  have HCR := Aside0.mk (crc_eq (bs.length + 10) bs hb (by omega) (by omega))
  clear ho hB hC
  go_enter Try.func42, Try.ntmps42
  go_wp2_with (first
    | (go_at_call 30; refine (sum_Crc.calls (bs.length + 10) A c (ints bs) _ _ HC.out hc HCR.out).mono ?_; rintro e w1 ⟨rfl, ⟨nd, rfl⟩⟩)
    | (go_at_call 28; refine (put_walk (fun _ => True) (.slice A (ints bs).length c) bs (ext 0 bs) 4 w0 _ (pw_below_drewN HB.out nd) (Kd.R_drewN HO.out nd) (by decide) (by omega)).mono ?_; rintro e w2 ⟨v2, rfl, hR, hb2, _⟩))
  go_ret
  exact ⟨_, rfl, Kd.R_mono hR (fun _ _ => trivial), hb2⟩
theorem put_lit (g x : Nat) (w : World) (hx : x < 18446744073709551616) (hg : w.heap[g]? = some (.cells #[.int .u8 67, .int .u8 76, .int .u8 82, .int .u8 70] 5 (4, 5))) :
    Calls Try.prog 28 #[.slice (some ⟨g, 0, none⟩) 4 4, .int .u64 (x : Int), .int .i64 4] w fun e w' => ∃ v0_ : Value, e = .returned (v0_) ∧ Kd.R (Kd.int .u8) 5 w' w.heap.size (fun _ => True) v0_ (ints ([67, 76, 82, 70] ++ leb 4 x)) ∧ Below w.heap.size w w' :=
  put_full 9 g (ints [67, 76, 82, 70]) (4, 5) (x : Int) 4 _ w (by decide) (by decide) hg (put_eq 9 4 x [67, 76, 82, 70] (by decide) (by decide) (by decide))
theorem efoot_bad {p s r a n u : Int} {x y : Nat} (h : ¬ Ok p s r a) : efoot p s r a n u x y = ([], 20) := by unfold efoot; rw [if_neg h]
set_option maxHeartbeats 4000000 in
set_option maxRecDepth 100000 in
theorem efoot_walk (p s r a n u : Int) (x y : Nat) (hx : x < 4294967296) (hy : y < 4294967296) (w : World) :
    Calls Try.prog 21 #[.agg #[.int .i64 p, .int .i64 s, .int .i64 r, .int .i64 a], .agg #[.int .i64 n, .int .i64 u, .int .u32 (x : Int), .int .u32 (y : Int)]] w fun e w' => ∃ v0_ : Value, e = .returned (.tuple #[v0_, .int .i64 (efoot p s r a n u x y).2]) ∧
      Kd.R (Kd.int .u8) 5 w' w.heap.size (fun _ => True) v0_ (ints (efoot p s r a n u x y).1) ∧ Below w.heap.size w w' := by
  have hB0 := ((Below.refl w.heap.size w).alloc (Nat.le_refl _) (.cells #[.int .i64 p, .int .i64 s, .int .i64 r, .int .i64 a] 23)).alloc (by simp) (.cells #[.int .i64 n, .int .i64 u, .int .u32 (x : Int), .int .u32 (y : Int)] 45)
  have hF := blk_new (w.alloc (.cells #[.int .i64 p, .int .i64 s, .int .i64 r, .int .i64 a] 23)) (.cells #[.int .i64 n, .int .i64 u, .int .u32 (x : Int), .int .u32 (y : Int)] 45)
  have hG := blk_alloc (blk_new w (.cells #[.int .i64 p, .int .i64 s, .int .i64 r, .int .i64 a] 23)) (.cells #[.int .i64 n, .int .i64 u, .int .u32 (x : Int), .int .u32 (y : Int)] 45)
  simp only [World.size_alloc] at hF
  have SB := Aside0.mk hB0
  have SF := Aside0.mk hF
  have SG := Aside0.mk hG
  clear hB0 hF hG
  by_cases ho : Ok p s r a
  · have hck : Aside0 (geom_Check.f (0 + 1) p s r a = some 0) := ⟨by rw [check_eq]; unfold chk; rw [if_pos ho]⟩
    have hby : Aside0 (geom_Bytes.f (0 + 1) p s r a = some (p * s, p * s * r, 0)) := ⟨bytes_yes 0 ho⟩
    have bd := Ok.bounds ho
    obtain ⟨q, hq⟩ : ∃ q, p * s = q := ⟨_, rfl⟩
    rw [hq] at hby bd
    have q0 : 128 ≤ q := by omega
    have q1 : q ≤ 262144 := by omega
    by_cases hbad : n < 0 ∨ n > 2147483647 ∨ u < 32 ∨ u > q - 24
    · have he : efoot p s r a n u x y = ([], 1) := by unfold efoot; rw [if_pos ho, hq, if_pos hbad]
      rw [he]
      clear ho hq he bd
      have hbd : ((n < 0 ∨ 2147483647 < n) ∨ u < 32) ∨ q - 24 < u := by omega
      clear hbad
      go_enter Try.func21, Try.ntmps21
      go_wp2_with (first
        | (go_at_call 27; refine (geom_Check.calls (0 + 1) p s r a 0 _ hck.out).mono ?_; rintro e w1 ⟨rfl, hb1⟩; have B1 := Aside0.mk (below_then SB.out SB.out.size hb1); have F1 := Aside0.mk (blk_below SF.out hb1); have G1 := Aside0.mk (blk_below SG.out hb1); have x0 := blk_cell G1.out 0; have x1 := blk_cell G1.out 1; have x2 := blk_cell G1.out 2; have x3 := blk_cell G1.out 3; simp only [List.getElem?_toArray, List.getElem?_cons_zero, List.getElem?_cons_succ] at x0 x1 x2 x3; clear hb1)
        | (go_at_call 41; refine (geom_Bytes.calls (0 + 1) p s r a q _ 0 _ hby.out).mono ?_; rintro e w2 ⟨rfl, hb2⟩; have B2 := Aside0.mk (below_then B1.out B1.out.size hb2); have F2 := Aside0.mk (blk_below F1.out hb2); have y0 := blk_cell F2.out 0; have y1 := blk_cell F2.out 1; simp only [List.getElem?_toArray, List.getElem?_cons_zero, List.getElem?_cons_succ] at y0 y1; clear hb2 x0 x1 x2 x3))
      all_goals first
        | (go_ret2; exact ⟨_, rfl, Kd.R_nil _ _ _ _ _, B2.out⟩)
        | (exfalso; omega)
    · have he : efoot p s r a n u x y = (foot n.toNat u.toNat x y, 0) := by unfold efoot; rw [if_pos ho, hq, if_neg hbad]
      rw [he]
      have g1 : decide (n < 0) = false := decide_eq_false (by omega)
      have g2 : decide (2147483647 < n) = false := decide_eq_false (by omega)
      have g3 : decide (u < 32) = false := decide_eq_false (by omega)
      have g4 : decide (q - 24 < u) = false := decide_eq_false (by omega)
      obtain ⟨n, rfl⟩ := Int.eq_ofNat_of_zero_le (show 0 ≤ n by omega)
      obtain ⟨u, rfl⟩ := Int.eq_ofNat_of_zero_le (show 0 ≤ u by omega)
      have n1 : n < 4294967296 := by omega
      have u1 : u < 4294967296 := by omega
      simp only [Int.toNat_natCast]
      clear bd ho hbad he hq
      have kc := fun (w : World) (C : Array Value) (n c : Nat) => Lib.run_convert_bytes_const (P := Try.prog) w 28 5 C n c Try.underlying28 Try.underlying5
      go_enter Try.func21, Try.ntmps21
      go_wp2_with (first
        | (go_at_call 27; refine (geom_Check.calls (0 + 1) p s r a 0 _ hck.out).mono ?_; rintro e w1 ⟨rfl, hb1⟩; have B1 := Aside0.mk (below_then SB.out SB.out.size hb1); have F1 := Aside0.mk (blk_below SF.out hb1); have G1 := Aside0.mk (blk_below SG.out hb1); have x0 := blk_cell G1.out 0; have x1 := blk_cell G1.out 1; have x2 := blk_cell G1.out 2; have x3 := blk_cell G1.out 3; simp only [List.getElem?_toArray, List.getElem?_cons_zero, List.getElem?_cons_succ] at x0 x1 x2 x3; clear hb1)
        | (go_at_call 41; refine (geom_Bytes.calls (0 + 1) p s r a q _ 0 _ hby.out).mono ?_; rintro e w2 ⟨rfl, hb2⟩; have B2 := Aside0.mk (below_then B1.out B1.out.size hb2); have F2 := Aside0.mk (blk_below F1.out hb2); have y0 := blk_cell F2.out 0; have y1 := blk_cell F2.out 1; have y2 := blk_cell F2.out 2; have y3 := blk_cell F2.out 3; simp only [List.getElem?_toArray, List.getElem?_cons_zero, List.getElem?_cons_succ] at y0 y1 y2 y3; have hlt := blk_lt F2.out; clear hb2 x0 x1 x2 x3))
      obtain ⟨wL, hwL⟩ : ∃ wL, (w2.alloc (.cells #[.int .u8 67, .int .u8 76, .int .u8 82, .int .u8 70] 5 (4, 5))).alloc (.cells #[.int .u64 (n : Int), .int .u64 (u : Int), .int .u64 (x : Int), .int .u64 (y : Int)] 25) = wL := ⟨_, rfl⟩
      have hgB : wL.heap[w2.heap.size]? = some (.cells #[.int .u8 67, .int .u8 76, .int .u8 82, .int .u8 70] 5 (4, 5)) := by rw [← hwL]; exact blk_alloc (blk_new w2 _) _
      have hgT : wL.heap[w2.heap.size + 1]? = some (.cells #[.int .u64 (n : Int), .int .u64 (u : Int), .int .u64 (x : Int), .int .u64 (y : Int)] 25) := by
        rw [← hwL]
        have h := blk_new (w2.alloc (.cells #[.int .u8 67, .int .u8 76, .int .u8 82, .int .u8 70] 5 (4, 5))) (.cells #[.int .u64 (n : Int), .int .u64 (u : Int), .int .u64 (x : Int), .int .u64 (y : Int)] 25)
        rwa [World.size_alloc] at h
      have BL := Aside0.mk (show Below w.heap.size w wL by rw [← hwL]; exact below_alloc (below_alloc B2.out _) _)
      have SB0 := Aside0.mk hgB
      have ST := Aside0.mk hgT
      have d0 := blk_cell hgT 0
      have d1 := blk_cell hgT 1
      have d2 := blk_cell hgT 2
      have d3 := blk_cell hgT 3
      simp only [List.getElem?_toArray, List.getElem?_cons_zero, List.getElem?_cons_succ] at d0 d1 d2 d3
      have sd2 := Aside0.mk d2
      have sd3 := Aside0.mk d3
      rw [hwL]
      clear hwL hgB hgT y0 y1 y2 y3 hlt g1 g2 g3 g4
      refine wp_loop_rounds 5 ?_
      rw [rounds_succ]
      go_wp2_with fail
      refine (put_lit w2.heap.size n wL (by omega) SB0.out).mono ?_
      rintro e w3 ⟨v3, rfl, hR3, hb3⟩
      have R3 := Aside0.mk hR3
      have B3 := Aside0.mk hb3
      replace d1 := pw_cell_below hb3 d1
      replace d2 := pw_cell_below hb3 d2
      replace d3 := pw_cell_below hb3 d3
      clear hR3 hb3 d0
      go_wp2_with fail
      rw [rounds_succ]
      go_wp2_with fail
      refine (put_walk (fun _ => True) v3 ([67, 76, 82, 70] ++ leb 4 n) u 4 wL w3 B3.out R3.out (by decide) (by simp [leb_length])).mono ?_
      rintro e w4 ⟨v4, rfl, hR4, hb4, hK4⟩
      have R4 := Aside0.mk (Kd.R_mono hR4 (ok' := fun _ => True) (fun _ _ => trivial))
      have B4 := Aside0.mk hb4
      clear d1 d2 d3 hR4 hb4 hK4
      have d2 := pw_cell_below B4.out sd2.out
      go_wp2_with fail
      rw [rounds_succ]
      go_wp2_with fail
      refine (put_walk (fun _ => True) v4 ([67, 76, 82, 70] ++ leb 4 n ++ leb 4 u) x 4 wL w4 B4.out R4.out (by decide) (by simp [leb_length])).mono ?_
      rintro e w5 ⟨v5, rfl, hR5, hb5, hK5⟩
      have R5 := Aside0.mk (Kd.R_mono hR5 (ok' := fun _ => True) (fun _ _ => trivial))
      have B5 := Aside0.mk hb5
      clear d2 hR5 hb5 hK5
      have d3 := pw_cell_below B5.out sd3.out
      go_wp2_with fail
      rw [rounds_succ]
      go_wp2_with fail
      refine (put_walk (fun _ => True) v5 ([67, 76, 82, 70] ++ leb 4 n ++ leb 4 u ++ leb 4 x) y 4 wL w5 B5.out R5.out (by decide) (by simp [leb_length])).mono ?_
      rintro e w6 ⟨v6, rfl, hR6, hb6, hK6⟩
      have R6 := Aside0.mk (Kd.R_mono hR6 (ok' := fun _ => True) (fun _ _ => trivial))
      have B6 := Aside0.mk hb6
      clear d3 hR6 hb6 hK6
      go_wp2_with fail
      rw [rounds_succ]
      go_wp2_with fail
      refine (summed_walk v6 (fbody n u x y) (fbody_bytes n u x y) (by rw [fbody_length]; decide) wL w6 B6.out R6.out).mono ?_
      rintro e w7 ⟨v7, rfl, hR7, hb7⟩
      have R7 := Aside0.mk hR7
      have B7 := Aside0.mk hb7
      clear hR7 hb7
      go_wp2_with fail
      go_ret2
      exact ⟨_, rfl, Kd.R_lower R7.out BL.out.size, below_then BL.out BL.out.size B7.out⟩
  · have hck : Aside0 (geom_Check.f (0 + 1) p s r a = some 20) := ⟨by rw [check_eq]; unfold chk; rw [if_neg ho]⟩
    rw [efoot_bad ho]
    clear ho
    go_enter Try.func21, Try.ntmps21
    go_wp2_with (go_at_call 27; refine (geom_Check.calls (0 + 1) p s r a 20 _ hck.out).mono ?_; rintro e w1 ⟨rfl, hb1⟩)
    go_ret2
    exact ⟨_, rfl, Kd.R_nil _ _ _ _ _, below_then SB.out SB.out.size hb1⟩
theorem low_lit (g x : Nat) (m0 m1 m2 m3 : Nat) (w : World) (hx : x < 18446744073709551616) (hg : w.heap[g]? = some (.cells #[.int .u8 (m0 : Int), .int .u8 (m1 : Int), .int .u8 (m2 : Int), .int .u8 (m3 : Int)] 5 (4, 5))) :
    Calls Try.prog 32 #[.slice (some ⟨g, 0, none⟩) 4 4, .int .u64 (x : Int), .int .i64 4] w fun e w' => ∃ v0_ : Value, e = .returned (v0_) ∧ Kd.R (Kd.int .u8) 5 w' w.heap.size (fun _ => True) v0_ (ints ([m0, m1, m2, m3] ++ leb 4 x)) ∧ Below w.heap.size w w' :=
  low_full 9 g (ints [m0, m1, m2, m3]) (4, 5) (x : Int) 4 _ w (by simp [ints]) (by decide) hg (low_eq 9 4 x [m0, m1, m2, m3] (by decide) hx (by simp) (by decide))
theorem low_walk (v : Value) (acc : List Nat) (x sz : Nat) (w0 w : World) (hx : x < 18446744073709551616) (hB : Below w0.heap.size w0 w) (ho : Kd.R (Kd.int .u8) 5 w w0.heap.size (fun _ => True) v (ints acc)) (hs : sz ≤ 8) (ha : acc.length < 140737488355000) :
    Calls Try.prog 32 #[v, .int .u64 (x : Int), .int .i64 (sz : Int)] w fun e w' => ∃ v', e = .returned v' ∧ Kd.R (Kd.int .u8) 5 w' w0.heap.size (fun _ => True) v' (ints (acc ++ leb sz x)) ∧ Below w0.heap.size w0 w' :=
  (cellarref05_low.calls 9 (fun _ => True) v (ints acc) (x : Int) (sz : Int) _ w0 w hB ho (low_eq 9 sz x acc hs hx ha (by omega))).mono fun e w' ⟨v', he, hR, hb, _⟩ => ⟨v', he, Kd.R_mono hR (fun _ _ => trivial), hb⟩
theorem run_convert_bytes_const_drew {P : Program} (w : World) (t e : TypeId) (C : Array Value) (n c : Nat) (ht : P.underlying t = some (.slice e)) (he : P.underlying e = some (.int .u8)) :
    (Sem.run P (convert t t (.slice (some ⟨w.heap.size, 0, none⟩) n c)) (w.alloc (.cells C e)).drew) = .ok (.slice (some ⟨w.heap.size, 0, none⟩) n c) (w.alloc (.cells C e (C.size, C.size + 1))).drew :=
  Lib.run_convert_bytes_const (P := P) w.drew t e C n c ht he
set_option maxHeartbeats 4000000 in
set_option maxRecDepth 100000 in
theorem refoot_walk (p s r a n u : Int) (x y : Nat) (hx : x < 4294967296) (hy : y < 4294967296) (w : World) :
    Calls Try.prog 22 #[.agg #[.int .i64 p, .int .i64 s, .int .i64 r, .int .i64 a], .agg #[.int .i64 n, .int .i64 u, .int .u32 (x : Int), .int .u32 (y : Int)]] w fun e w' => ∃ v0_ : Value, e = .returned (.tuple #[v0_, .int .i64 (efoot p s r a n u x y).2]) ∧
      Kd.R (Kd.int .u8) 5 w' w.heap.size (fun _ => True) v0_ (ints (efoot p s r a n u x y).1) ∧ Below w.heap.size w w' := by
  have hB0 := ((Below.refl w.heap.size w).alloc (Nat.le_refl _) (.cells #[.int .i64 p, .int .i64 s, .int .i64 r, .int .i64 a] 23)).alloc (by simp) (.cells #[.int .i64 n, .int .i64 u, .int .u32 (x : Int), .int .u32 (y : Int)] 45)
  have hF := blk_new (w.alloc (.cells #[.int .i64 p, .int .i64 s, .int .i64 r, .int .i64 a] 23)) (.cells #[.int .i64 n, .int .i64 u, .int .u32 (x : Int), .int .u32 (y : Int)] 45)
  have hG := blk_alloc (blk_new w (.cells #[.int .i64 p, .int .i64 s, .int .i64 r, .int .i64 a] 23)) (.cells #[.int .i64 n, .int .i64 u, .int .u32 (x : Int), .int .u32 (y : Int)] 45)
  simp only [World.size_alloc] at hF
  have SB := Aside0.mk hB0
  have SF := Aside0.mk hF
  have SG := Aside0.mk hG
  clear hB0 hF hG
  by_cases ho : Ok p s r a
  · have hck : Aside0 (cellarref02_Check.f (0 + 20) p s r a = some 0) := ⟨by rw [rcheck_eq]; unfold chk; rw [if_pos ho]⟩
    have bd := Ok.bounds ho
    obtain ⟨q, hq⟩ : ∃ q, p * s = q := ⟨_, rfl⟩
    rw [hq] at bd
    have q0 : 128 ≤ q := by omega
    have q1 : q ≤ 262144 := by omega
    have hpq : IntKind.i64.wrap (p * s) = q := by rw [i64_w, hq]; exact w64 (by omega) (by omega)
    by_cases hbad : n < 0 ∨ n > 2147483647 ∨ u < 32 ∨ u > q - 24
    · have he : efoot p s r a n u x y = ([], 1) := by unfold efoot; rw [if_pos ho, hq, if_pos hbad]
      rw [he]
      have HQ := Aside0.mk hq
      clear ho he bd hpq
      have hbd : ((n < 0 ∨ 2147483647 < n) ∨ u < 32) ∨ q - 24 < u := by omega
      clear hbad
      go_enter Try.func22, Try.ntmps22
      go_wp2_with (go_at_call 31; refine (cellarref02_Check.calls (0 + 20) p s r a 0 _ hck.out).mono ?_; rintro e w1 ⟨rfl, hb1⟩; have B1 := Aside0.mk (below_then SB.out SB.out.size hb1); have F1 := Aside0.mk (blk_below SF.out hb1); have G1 := Aside0.mk (blk_below SG.out hb1); have x0 := blk_cell G1.out 0; have x1 := blk_cell G1.out 1; have y0 := blk_cell F1.out 0; have y1 := blk_cell F1.out 1; simp only [List.getElem?_toArray, List.getElem?_cons_zero, List.getElem?_cons_succ] at x0 x1 y0 y1; clear hb1)
      all_goals first
        | (go_ret2; exact ⟨_, rfl, Kd.R_nil _ _ _ _ _, B1.out⟩)
        | (exfalso; have := HQ.out; omega)
    · have he : efoot p s r a n u x y = (foot n.toNat u.toNat x y, 0) := by unfold efoot; rw [if_pos ho, hq, if_neg hbad]
      rw [he]
      have g1 : decide (n < 0) = false := decide_eq_false (by omega)
      have g2 : decide (2147483647 < n) = false := decide_eq_false (by omega)
      have g3 : decide (u < 32) = false := decide_eq_false (by omega)
      have g4 : decide (q - 24 < u) = false := decide_eq_false (by omega)
      have hwq : IntKind.i64.wrap (q - 24) = q - 24 := by rw [i64_w]; exact w64 (by omega) (by omega)
      obtain ⟨n, rfl⟩ := Int.eq_ofNat_of_zero_le (show 0 ≤ n by omega)
      obtain ⟨u, rfl⟩ := Int.eq_ofNat_of_zero_le (show 0 ≤ u by omega)
      have n1 : n < 4294967296 := by omega
      have u1 : u < 4294967296 := by omega
      have hn : IntKind.u64.wrap (n : Int) = (n : Int) := u64w (by omega)
      have hu : IntKind.u64.wrap (u : Int) = (u : Int) := u64w (by omega)
      have hxw : IntKind.u64.wrap (x : Int) = (x : Int) := u64w (by omega)
      have hyw : IntKind.u64.wrap (y : Int) = (y : Int) := u64w (by omega)
      simp only [Int.toNat_natCast]
      clear bd ho hbad he hq
      have kc := fun (w : World) (C : Array Value) (n c : Nat) => Lib.run_convert_bytes_const (P := Try.prog) w 28 5 C n c Try.underlying28 Try.underlying5
      go_enter Try.func22, Try.ntmps22
      go_wp2_with (go_at_call 31; refine (cellarref02_Check.calls (0 + 20) p s r a 0 _ hck.out).mono ?_; rintro e w1 ⟨rfl, hb1⟩; have B1 := Aside0.mk (below_then SB.out SB.out.size hb1); have F1 := Aside0.mk (blk_below SF.out hb1); have G1 := Aside0.mk (blk_below SG.out hb1); have x0 := blk_cell G1.out 0; have x1 := blk_cell G1.out 1; have y0 := blk_cell F1.out 0; have y1 := blk_cell F1.out 1; have y2 := blk_cell F1.out 2; have y3 := blk_cell F1.out 3; simp only [List.getElem?_toArray, List.getElem?_cons_zero, List.getElem?_cons_succ] at x0 x1 y0 y1 y2 y3; clear hb1)
      have hsz1 : w.heap.size + 1 < w1.heap.size := blk_lt F1.out
      obtain ⟨bx, hbx⟩ : ∃ bx, w.heap.size + 1 = bx := ⟨_, rfl⟩
      rw [hbx] at y0 y1 y2 y3 hsz1
      clear x0 x1 g1 g2 g3 g4 hpq hwq
      rw [hbx]
      have kd := fun (w : World) (C : Array Value) (n c : Nat) => run_convert_bytes_const_drew (P := Try.prog) w 28 5 C n c Try.underlying28 Try.underlying5
      clear kc
      go_region_held (fun w' => w'.cell? ⟨bx, 0, none⟩ = some (.int .i64 (n : Int)) ∧ w'.cell? ⟨bx, 1, none⟩ = some (.int .i64 (u : Int)) ∧ w'.cell? ⟨bx, 2, none⟩ = some (.int .u32 (x : Int)) ∧ w'.cell? ⟨bx, 3, none⟩ = some (.int .u32 (y : Int)))
        (first
          | go_keep
          | (go_split_ands; refine ⟨pw_cell_below B6.out y0, pw_cell_below B6.out y1, pw_cell_below B6.out y2, pw_cell_below B6.out y3⟩)
          | (go_split_ands; refine ⟨pw_cell_below B5.out y0, pw_cell_below B5.out y1, pw_cell_below B5.out y2, pw_cell_below B5.out y3⟩)
          | (go_split_ands; refine ⟨pw_cell_below B4.out y0, pw_cell_below B4.out y1, pw_cell_below B4.out y2, pw_cell_below B4.out y3⟩)
          | (go_split_ands; refine ⟨pw_cell_below B3.out y0, pw_cell_below B3.out y1, pw_cell_below B3.out y2, pw_cell_below B3.out y3⟩))
        ((first
          | (go_at_call 32; refine (low_walk v5 ([67, 76, 82, 70] ++ leb 4 n ++ leb 4 u ++ leb 4 x) y 4 w1 w5 (by omega) B5.out R5.out (by decide) (by simp [leb_length])).mono ?_; rintro e w6 ⟨v6, rfl, hR6, hb6⟩; have R6 := Aside0.mk hR6; have B6 := Aside0.mk hb6; clear hR6 hb6)
          | (go_at_call 32; refine (low_walk v4 ([67, 76, 82, 70] ++ leb 4 n ++ leb 4 u) x 4 w1 w4 (by omega) B4.out R4.out (by decide) (by simp [leb_length])).mono ?_; rintro e w5 ⟨v5, rfl, hR5, hb5⟩; have R5 := Aside0.mk hR5; have B5 := Aside0.mk hb5; clear hR5 hb5)
          | (go_at_call 32; refine (low_walk v3 ([67, 76, 82, 70] ++ leb 4 n) u 4 w1 w3 (by omega) B3.out R3.out (by decide) (by simp [leb_length])).mono ?_; rintro e w4 ⟨v4, rfl, hR4, hb4⟩; have R4 := Aside0.mk hR4; have B4 := Aside0.mk hb4; clear hR4 hb4)
          | (go_at_call 32; refine (low_lit w1.heap.size n 67 76 82 70 _ (by omega) (by first | exact blk_new w1 _ | exact blk_drew (blk_new w1 _))).mono ?_; rintro e w3 ⟨v3, rfl, hR3, hb3⟩; have R3 := Aside0.mk (Kd.R_lower (base' := w1.heap.size) hR3 (by simp)); have B3 := Aside0.mk (below_then (below_drew (below_alloc (Below.refl w1.heap.size w1) _)) (by simp) hb3); clear hR3 hb3)))
      have hb := fbody_bytes n u x y
      have hlen := fbody_length n u x y
      have hx0 : ext 0 (fbody n u x y) < 4294967296 := ext_lt (by decide) hb
      have hw : IntKind.u64.wrap ((ext 0 (fbody n u x y) : Nat) : Int) = ((ext 0 (fbody n u x y) : Nat) : Int) := u64w (by omega)
      have hrc := Aside0.mk (rcrc_eq (10 * (fbody n u x y).length + 10) (fbody n u x y) hb (by omega) (by omega))
      have HR := Aside0.mk (show Kd.R (Kd.int .u8) 5 w6 w1.heap.size (fun _ => True) v6 (ints (fbody n u x y)) from R6.out)
      have HL := Aside0.mk hlen
      have HX := Aside0.mk hx0
      obtain ⟨A, c, rfl⟩ := Kd.R_slice HR.out
      obtain ⟨_, hc, hC⟩ := Kd.R_reads' HR.out
      have HC := Aside0.mk hC
      clear hC hb hlen hx0 R6 R3 R4 R5 B3 B4 B5 y0 y1 y2 y3 kd
      go_wp2_with (first
        | (go_at_call 33; refine (cellarref01_Crc.calls _ A c (ints (fbody n u x y)) _ _ HC.out hc hrc.out).mono ?_; rintro e w7 ⟨rfl, ⟨nd, rfl⟩⟩)
        | (go_at_call 32; refine (low_walk (.slice A (ints (fbody n u x y)).length c) (fbody n u x y) (ext 0 (fbody n u x y)) 4 w1 _ (by have := HX.out; omega) (pw_below_drewN B6.out nd) (Kd.R_drewN HR.out nd) (by decide) (by rw [HL.out]; decide)).mono ?_; rintro e w8 ⟨v8, rfl, hR8, hb8⟩; have R8 := Aside0.mk hR8; have B8 := Aside0.mk hb8; clear hR8 hb8))
      go_ret2
      exact ⟨_, rfl, Kd.R_lower R8.out B1.out.size, below_then B1.out B1.out.size B8.out⟩
  · have hck : Aside0 (cellarref02_Check.f (0 + 20) p s r a = some 20) := ⟨by rw [rcheck_eq]; unfold chk; rw [if_neg ho]⟩
    rw [efoot_bad ho]
    clear ho
    go_enter Try.func22, Try.ntmps22
    go_wp2_with (go_at_call 31; refine (cellarref02_Check.calls (0 + 20) p s r a 20 _ hck.out).mono ?_; rintro e w1 ⟨rfl, hb1⟩)
    go_ret2
    exact ⟨_, rfl, Kd.R_nil _ _ _ _ _, below_then SB.out SB.out.size hb1⟩
end Go.Proofs.Ytochhjimahcamaa.QRecordEncodes
