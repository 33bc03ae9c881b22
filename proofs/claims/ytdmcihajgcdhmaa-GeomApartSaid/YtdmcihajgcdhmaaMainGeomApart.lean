/- The walk of the law GeomApart.
   No condition. -/
import Derived.Test.YtdmcihajgcdhmaaRounds
namespace Go.Proofs.Ytdmcihajgcdhmaa.QGeomApart
open Geo
open Go.RowKit Go.Proofs.YtdmcihajgcdhmaaW.PrintWords Go.Proofs.YtdmcihajgcdhmaaW.PrintLast Go.Proofs.YtdmcihajgcdhmaaW.PrintMore
set_option linter.unusedVariables false
set_option linter.unusedSimpArgs false
set_option linter.unusedSectionVars false
theorem bcellA {W w1 : World} (hb : Below W.heap.size W w1) {g : Nat} {o : Obj} (h : W.heap[g]? = some o) : w1.heap[g]? = some o := blk_below h hb
set_option maxHeartbeats 4000000 in
set_option maxRecDepth 100000 in
theorem apart_walk (p s r a head foot : Int) (A3 : Option Addr) (c3 : Nat) (ns : List Int) (W : World) (hC : Kd.C (Kd.int .i64) W A3 ns.length ns) (hc : ns.length ≤ c3) (hb : ns.length * 8 ≤ 140737488351232) :
    Calls Try.prog 15 #[.agg #[.int .i64 p, .int .i64 s, .int .i64 r, .int .i64 a, .int .i64 head, .int .i64 foot, .slice A3 ns.length c3]] W fun e w' => e = .returned (.bool true) ∧ Below W.heap.size W w' := by
  have HC := Aside0.mk hC
  clear hC
  obtain ⟨L, m, er, hP⟩ : ∃ L m er, placed p s r a head foot ns = (L, m, er) := ⟨_, _, _, rfl⟩
  have HP := Aside0.mk ((place_eq (2 * ns.length + 2) p s r a head foot ns (by omega) (by omega)).trans (congrArg some hP))
  have HQ := Aside0.mk hP
  clear hP
  go_enter Try.func15, Try.ntmps15
  go_wp2_with (go_at_call 16; refine (cellarlaw02_awake.calls 1 true _ (awake_eq 0)).mono ?_; rintro e w1 ⟨rfl, hb1⟩)
  have g1 := Aside0.mk (blk_below (blk_new W (.cells #[.int .i64 p, .int .i64 s, .int .i64 r, .int .i64 a, .int .i64 head, .int .i64 foot, .slice A3 ns.length c3] 70)) hb1)
  have B1 := Aside0.mk (below_then ((Below.refl _ W).alloc (Nat.le_refl _) (.cells #[.int .i64 p, .int .i64 s, .int .i64 r, .int .i64 a, .int .i64 head, .int .i64 foot, .slice A3 ns.length c3] 70)) (by simp) hb1)
  have x0 := blk_cell g1.out 0
  have x1 := blk_cell g1.out 1
  have x2 := blk_cell g1.out 2
  have x3 := blk_cell g1.out 3
  have x4 := blk_cell g1.out 4
  have x5 := blk_cell g1.out 5
  have x6 := blk_cell g1.out 6
  simp only [List.getElem?_toArray, List.getElem?_cons_zero, List.getElem?_cons_succ] at x0 x1 x2 x3 x4 x5 x6
  clear hb1
  have hlt := blk_lt g1.out
  go_region
  have q0 := blk_cell (blk_new w1 (.cells #[.int .i64 p, .int .i64 s, .int .i64 r, .int .i64 a] 24)) 0
  have q1 := blk_cell (blk_new w1 (.cells #[.int .i64 p, .int .i64 s, .int .i64 r, .int .i64 a] 24)) 1
  have q2 := blk_cell (blk_new w1 (.cells #[.int .i64 p, .int .i64 s, .int .i64 r, .int .i64 a] 24)) 2
  have q3 := blk_cell (blk_new w1 (.cells #[.int .i64 p, .int .i64 s, .int .i64 r, .int .i64 a] 24)) 3
  simp only [List.getElem?_toArray, List.getElem?_cons_zero, List.getElem?_cons_succ] at q0 q1 q2 q3
  clear x0 x1 x2 x3 x4 x5 x6
  obtain ⟨w2, hw2⟩ : ∃ w2, (w1.alloc (.cells #[.int .i64 p, .int .i64 s, .int .i64 r, .int .i64 a] 24)).drew = w2 := ⟨_, rfl⟩
  have hs2 : w1.heap.size < w2.heap.size := by rw [← hw2]; simp
  have B2 : Below W.heap.size W w2 := by rw [← hw2]; exact below_drew ((B1.out).alloc B1.out.size _)
  have C2 : Kd.C (Kd.int .i64) w2 A3 ns.length ns := Kd.C_below HC.out B2
  have y0 : w2.cell? ⟨w1.heap.size, 0, none⟩ = some (.int .i64 p) := by rw [← hw2]; exact q0
  have y1 : w2.cell? ⟨w1.heap.size, 1, none⟩ = some (.int .i64 s) := by rw [← hw2]; exact q1
  have y2 : w2.cell? ⟨w1.heap.size, 2, none⟩ = some (.int .i64 r) := by rw [← hw2]; exact q2
  have y3 : w2.cell? ⟨w1.heap.size, 3, none⟩ = some (.int .i64 a) := by rw [← hw2]; exact q3
  have SB2 := Aside0.mk B2
  have SC2 := Aside0.mk C2
  clear B2 C2 q0 q1 q2 q3
  rw [hw2]
  clear hw2
  go_upto_region 4 with (fail)
  refine start_ (n := 13) (S := fun w' => w'.cell? ⟨w1.heap.size, 0, none⟩ = some (.int .i64 p) ∧ w'.cell? ⟨w1.heap.size, 1, none⟩ = some (.int .i64 s) ∧ w'.cell? ⟨w1.heap.size, 2, none⟩ = some (.int .i64 r) ∧ w'.cell? ⟨w1.heap.size, 3, none⟩ = some (.int .i64 a)) (ds := []) #[false, false, false, false, false, false, false, false, false, false, false, false, false] (by kernel_rfl) rfl rfl (⟨y0, y1, y2, y3⟩) (fun hHeld => ?_)
  generalize hwd : w2.drew = wd at hHeld ⊢
  have BD : Aside0 (Below w2.heap.size w2 wd) := ⟨by rw [← hwd]; exact below_drew (Below.refl _ _)⟩
  have CD := Aside0.mk (Kd.C_below SC2.out BD.out)
  clear hwd
  refine take_ (i := 0) (N := some 28) (v := ?_) (a' := ?_) #[true, false, false, false, false, false, false, false, false, false, false, false, false] rfl rfl (by kernel_rfl) (fun _ _ _ h => h) (Or.inl ⟨by rfl, ?_⟩) hHeld ?_ ?_
  rotate_left
  · intro w' s0
    obtain ⟨s1, s2, s3, s4⟩ := s0
    go_simp
    with_reducible rfl
  rotate_left
  · simp only [Act.put, List.setIfInBounds_toArray, List.set_cons_zero, List.set_cons_succ, i64_w, i32_w]
    rfl
  refine pure_ (i := 1) (N := some 29) (v := ?_) (a' := ?_) #[true, true, false, false, false, false, false, false, false, false, false, false, false] rfl rfl (by kernel_rfl) (fun _ _ _ h => h) (Or.inl ⟨by rfl, ?_⟩) ?_ ?_
  rotate_left
  · intro w'
    go_simp
    with_reducible rfl
  rotate_left
  · simp only [Act.put, List.setIfInBounds_toArray, List.set_cons_zero, List.set_cons_succ, i64_w, i32_w]
    rfl
  refine pure_ (i := 2) (N := some 30) (v := ?_) (a' := ?_) #[true, true, true, false, false, false, false, false, false, false, false, false, false] rfl rfl (by kernel_rfl) (fun _ _ _ h => h) (Or.inl ⟨by rfl, ?_⟩) ?_ ?_
  rotate_left
  · intro w'
    go_simp
    with_reducible rfl
  rotate_left
  · simp only [Act.put, List.setIfInBounds_toArray, List.set_cons_zero, List.set_cons_succ, i64_w, i32_w]
    rfl
  refine pure_ (i := 3) (N := some 31) (v := ?_) (a' := ?_) #[true, true, true, true, false, false, false, false, false, false, false, false, false] rfl rfl (by kernel_rfl) (fun _ _ _ h => h) (Or.inl ⟨by rfl, ?_⟩) ?_ ?_
  rotate_left
  · intro w'
    go_simp
    with_reducible rfl
  rotate_left
  · simp only [Act.put, List.setIfInBounds_toArray, List.set_cons_zero, List.set_cons_succ, i64_w, i32_w]
    rfl
  refine one_ (i := 4) (N := some 32) #[true, true, true, true, true, false, false, false, false, false, false, false, false] rfl rfl (by kernel_rfl) (by decide) (fun K hK => ?_)
  refine goes_ Try.func39 (by kernel_rfl) rfl #[.slice A3 ns.length c3] (by rfl) rfl rfl (by (try simp only [List.map_toArray, List.map_cons, List.map_nil]); first | done | rfl) ?_
  with_reducible refine (cellarlaw02_copied.calls A3 c3 ns ns wd CD.out hc (by unfold cellarlaw02_copied.f; rw [if_pos hb])).mono ?_
  rintro e w3 ⟨v3, rfl, hR3, hb3⟩
  refine ⟨_, rfl, ?_⟩
  obtain ⟨A4, c4, rfl, hc4, hC4⟩ := Kd.R_reads hR3
  have B3 := Aside0.mk (BD.out.trans (hb3.mono BD.out.size))
  have HC4 := Aside0.mk hC4
  clear hR3 hb3 hC4 CD
  refine hK.out _ _ (by exact ⟨pw_cell_below B3.out y0, pw_cell_below B3.out y1, pw_cell_below B3.out y2, pw_cell_below B3.out y3⟩) (fun hHeld => ?_)
  clear hK K
  refine norm_ (a' := ?_) ?_ ?_
  rotate_left
  · show Act.put _ (some 32) _ = _
    simp only [Act.put, List.setIfInBounds_toArray, List.set_cons_zero, List.set_cons_succ, i64_w, i32_w]
    rfl
  refine one_ (i := 5) (N := some 33) #[true, true, true, true, true, true, false, false, false, false, false, false, false] rfl rfl (by kernel_rfl) (by decide) (fun K hK => ?_)
  refine goes_ Try.func40 (by kernel_rfl) rfl #[.agg #[.int .i64 p, .int .i64 s, .int .i64 r, .int .i64 a], .int .i64 head, .int .i64 foot, .slice A4 ns.length c4] (by rfl) rfl rfl (by (try simp only [List.map_toArray, List.map_cons, List.map_nil]); first | done | rfl) ?_
  with_reducible refine (geom_Place.calls (2 * ns.length + 2 + 1) p s r a head foot A4 c4 ns L m er w3 HC4.out hc4 HP.out).mono ?_
  rintro e w4 ⟨v4, rfl, hR4, hb4⟩
  refine ⟨_, rfl, ?_⟩
  obtain ⟨A5, c5, rfl, hc5, hC5⟩ := Kd.R_reads hR4
  have B4' := Aside0.mk (B3.out.trans (hb4.mono B3.out.size))
  clear hR4 hb4 hc4
  refine hK.out _ _ (by exact ⟨pw_cell_below B4'.out y0, pw_cell_below B4'.out y1, pw_cell_below B4'.out y2, pw_cell_below B4'.out y3⟩) (fun hHeld => ?_)
  clear hK K
  refine norm_ (a' := ?_) ?_ ?_
  rotate_left
  · show Act.put _ (some 33) _ = _
    simp only [Act.put, List.setIfInBounds_toArray, List.set_cons_zero, List.set_cons_succ, i64_w, i32_w]
    rfl
  refine pure_ (i := 6) (N := some 27) (v := ?_) (a' := ?_) #[true, true, true, true, true, true, true, false, false, false, false, false, false] rfl rfl (by kernel_rfl) (fun _ _ _ h => h) (Or.inl ⟨by rfl, ?_⟩) ?_ ?_
  rotate_left
  · intro w'
    go_simp
    with_reducible rfl
  rotate_left
  · simp only [Act.put, List.setIfInBounds_toArray, List.set_cons_zero, List.set_cons_succ, i64_w, i32_w]
    rfl
  refine pure_ (i := 7) (N := some 34) (v := ?_) (a' := ?_) #[true, true, true, true, true, true, true, true, false, false, false, false, false] rfl rfl (by kernel_rfl) (fun _ _ _ h => h) (Or.inl ⟨by rfl, ?_⟩) ?_ ?_
  rotate_left
  · intro w'
    go_simp
    with_reducible rfl
  rotate_left
  · simp only [Act.put, List.setIfInBounds_toArray, List.set_cons_zero, List.set_cons_succ, i64_w, i32_w]
    rfl
  refine pure_ (i := 8) (N := some 35) (v := ?_) (a' := ?_) #[true, true, true, true, true, true, true, true, true, false, false, false, false] rfl rfl (by kernel_rfl) (fun _ _ _ h => h) (Or.inl ⟨by rfl, ?_⟩) ?_ ?_
  rotate_left
  · intro w'
    go_simp
    with_reducible rfl
  rotate_left
  · simp only [Act.put, List.setIfInBounds_toArray, List.set_cons_zero, List.set_cons_succ, i64_w, i32_w]
    rfl
  refine pure_ (i := 9) (N := some 36) (v := ?_) (a' := ?_) #[true, true, true, true, true, true, true, true, true, true, false, false, false] rfl rfl (by kernel_rfl) (fun _ _ _ h => h) (Or.inl ⟨by rfl, ?_⟩) ?_ ?_
  rotate_left
  · intro w'
    go_simp
    with_reducible rfl
  rotate_left
  · simp only [Act.put, List.setIfInBounds_toArray, List.set_cons_zero, List.set_cons_succ, i64_w, i32_w]
    rfl
  refine pure_ (i := 10) (N := some 7) (v := ?_) (a' := ?_) #[true, true, true, true, true, true, true, true, true, true, true, false, false] rfl rfl (by kernel_rfl) (fun _ _ _ h => h) (Or.inl ⟨by rfl, ?_⟩) ?_ ?_
  rotate_left
  · intro w'
    go_simp
    with_reducible rfl
  rotate_left
  · simp only [Act.put, List.setIfInBounds_toArray, List.set_cons_zero, List.set_cons_succ, i64_w, i32_w]
    rfl
  refine pure_ (i := 11) (N := some 8) (v := ?_) (a' := ?_) #[true, true, true, true, true, true, true, true, true, true, true, true, false] rfl rfl (by kernel_rfl) (fun _ _ _ h => h) (Or.inl ⟨by rfl, ?_⟩) ?_ ?_
  rotate_left
  · intro w'
    go_simp
    with_reducible rfl
  rotate_left
  · simp only [Act.put, List.setIfInBounds_toArray, List.set_cons_zero, List.set_cons_succ, i64_w, i32_w]
    rfl
  refine pure_ (i := 12) (N := some 9) (v := ?_) (a' := ?_) #[true, true, true, true, true, true, true, true, true, true, true, true, true] rfl rfl (by kernel_rfl) (fun _ _ _ h => h) (Or.inl ⟨by rfl, ?_⟩) ?_ ?_
  rotate_left
  · intro w'
    go_simp
    with_reducible rfl
  rotate_left
  · simp only [Act.put, List.setIfInBounds_toArray, List.set_cons_zero, List.set_cons_succ, i64_w, i32_w]
    rfl
  refine done_ (by kernel_rfl) ?_
  clear hHeld
  have z0 := pw_cell_below B4'.out y0
  have z1 := pw_cell_below B4'.out y1
  have z2 := pw_cell_below B4'.out y2
  have z3 := pw_cell_below B4'.out y3
  have B4 := Aside0.mk (SB2.out.trans (B4'.out.mono SB2.out.size))
  have C4 := Aside0.mk (Kd.C_below HC.out B4.out)
  have L4 := Aside0.mk hC5
  have hs4 : w1.heap.size < w4.heap.size := Nat.lt_of_lt_of_le hs2 B4'.out.size
  have HQ2 := Aside0.mk HQ.out
  clear hC5 y0 y1 y2 y3 SC2 SB2 HP HC HC4 g1 B1 hs2 hlt BD B3 B4'
  by_cases he : er = 0
  · obtain rfl : er = 0 := he
    have SD := Aside0.mk (show Said p s r a head foot ns L m by have := said (p := p) (s := s) (r := r) (a := a) (head := head) (foot := foot) (ns := ns) (by rw [HQ.out]); rwa [HQ.out] at this)
    have hck : Aside0 (cellarref02_Check.f (0 + 20) p s r a = some 0) := ⟨by rw [rcheck_eq]; unfold chk; rw [if_pos SD.out.ok]⟩
    have bd := Ok.bounds SD.out.ok
    obtain ⟨q, hq⟩ : ∃ q, p * s = q := ⟨_, rfl⟩
    have hrg : Aside0 (cellarref02_Region.f p s r a = some q) := ⟨by unfold cellarref02_Region.f; rw [bd.2.2.2.2.2.2.2.2.2.2.2.2.2.1, hq]⟩
    have hh := SD.out.hh
    rw [hq] at bd hh
    have hbd : Aside0 (0 ≤ q ∧ q ≤ 262144 ∧ 0 ≤ foot ∧ foot ≤ q ∧ 1 ≤ a ∧ a ≤ 4096 ∧ 0 ≤ head ∧ head ≤ q ∧ r ≤ 256) := ⟨by omega⟩
    have hwr : wrap64 (q - foot) = q - foot := w64 (by omega) (by omega)
    have KQ := Aside0.mk hq
    clear bd hh hq
    obtain ⟨ln, hln⟩ : ∃ ln, ns.length = ln := ⟨_, rfl⟩
    have hL : L.length = ln := by rw [SD.out.len, hln]
    have HLN := Aside0.mk hln
    have HLL := Aside0.mk hL
    rw [hL, hln]
    rw [hln] at hb
    rw [hL] at hc5
    rw [hln] at hc
    clear hL hln
    by_cases hz : ln = 0
    · have hm : m = 0 := by have := SD.out.last; rw [HLN.out, if_pos hz] at this; exact this
      subst hm
      subst hz
      have B4' := B4
      clear hbd hwr
      go_wp2_with (first
        | (go_at_call 17; refine (cellarref02_Check.calls (0 + 20) p s r a 0 _ hck.out).mono ?_; rintro e w5 ⟨rfl, hb5⟩; have D5 := Aside0.mk hb5; replace z0 := (hb5.cell (p := ⟨w1.heap.size, 0, none⟩) hs4).trans z0; replace z1 := (hb5.cell (p := ⟨w1.heap.size, 1, none⟩) hs4).trans z1; replace z2 := (hb5.cell (p := ⟨w1.heap.size, 2, none⟩) hs4).trans z2; replace z3 := (hb5.cell (p := ⟨w1.heap.size, 3, none⟩) hs4).trans z3; have hs5 := Nat.lt_of_lt_of_le hs4 hb5.size; clear hb5)
        | (go_at_call 20; refine (cellarref02_Region.calls p s r a q _ hrg.out).mono ?_; rintro e w6 ⟨rfl, hb6⟩; have D6 := Aside0.mk (below_then D5.out D5.out.size hb6); clear hb6))
      have BZ := Aside0.mk (below_then B4.out B4.out.size D6.out)
      clear D5 D6
      refine wp_loop_rounds 1 ?_
      rw [rounds_succ]
      go_wp2
      go_ret
      exact ⟨by first | rfl | simp, BZ.out⟩
    · have hz1 : decide (ln = 0) = false := decide_eq_false hz
      go_wp2_with (first
        | (go_at_call 17; refine (cellarref02_Check.calls (0 + 20) p s r a 0 _ hck.out).mono ?_; rintro e w5 ⟨rfl, hb5⟩; have D5 := Aside0.mk hb5; replace z0 := (hb5.cell (p := ⟨w1.heap.size, 0, none⟩) hs4).trans z0; replace z1 := (hb5.cell (p := ⟨w1.heap.size, 1, none⟩) hs4).trans z1; replace z2 := (hb5.cell (p := ⟨w1.heap.size, 2, none⟩) hs4).trans z2; replace z3 := (hb5.cell (p := ⟨w1.heap.size, 3, none⟩) hs4).trans z3; have hs5 := Nat.lt_of_lt_of_le hs4 hb5.size; clear hb5)
        | (go_at_call 20; refine (cellarref02_Region.calls p s r a q _ hrg.out).mono ?_; rintro e w6 ⟨rfl, hb6⟩; have D6 := Aside0.mk (below_then D5.out D5.out.size hb6); replace z0 := (hb6.cell (p := ⟨w1.heap.size, 0, none⟩) hs5).trans z0; replace z1 := (hb6.cell (p := ⟨w1.heap.size, 1, none⟩) hs5).trans z1; replace z2 := (hb6.cell (p := ⟨w1.heap.size, 2, none⟩) hs5).trans z2; replace z3 := (hb6.cell (p := ⟨w1.heap.size, 3, none⟩) hs5).trans z3; have hs6 := Nat.lt_of_lt_of_le hs5 hb6.size; clear hb6))
      have hA := fun k (hk : k < ln) => SD.out.one k (by rw [HLN.out]; exact hk)
      have DD := D6
      have KA := Aside0.mk hA
      clear hA D6 D5
      rw [hwr]
      have RD := Aside0.mk (fun (w' : World) (hb : Below w6.heap.size w6 w') => (show Rd p s r a head foot (q - foot) A3 A5 w1.heap.size ln ns L m w' from Rd.box ⟨z0, z1, z2, z3, Kd.C_below C4.out DD.out, Kd.C_below L4.out DD.out, HLN.out, HLL.out, by rw [KQ.out], SD.out⟩ hb))
      have BW6 := Aside0.mk (B4.out.trans (DD.out.mono B4.out.size))
      have HL6 := Aside0.mk (Kd.C_below L4.out DD.out)
      have hln63 : ln ≤ 9223372036854775807 := by rw [← HLL.out]; exact L4.out.2.1
      clear z0 z1 z2 z3 hs6 hs5 hs4 hc hc5 hb DD B4 C4 L4 HQ HQ2 hck hrg
      refine aloop (p := p) (s := s) (r := r) (a := a) (g := w1.heap.size) (ns := ns) (L := L) (m := m) _ _ _ _ _ _ _ _ _ _ _ _ _ _ _ _ _ _ _ _ _ _ _ _ _ _ _ _ _ _ _ _ _ _ _ _ _ _ _ _ _ _ _ _ _ _ _ _ _ _ _ _ _ _ _ _ _ _ _ _ _ _ _ _ _ _ _ _ _ _ _ _ _ _ _ _ _ _ _ _ _ _ _ _ _ _ _ _ _ _ _ _ _ _ _ _ _ _ _ _ _ _ _ _ _ _ _ _ _ _ _ _ _ _ _ _ _ _ _ _ _ _ _ _ _ _ _ _ _ _ _ _ _ _ _ _ _ _ _ _ _ _ _ _ _ _ _ _ _ _ _ _ _ _ _ _ _ _ _ _ _ _ _ _ _ _ _ _ _ _ RD.out _ ?_
      intro f w' hb
      have BE := Aside0.mk (BW6.out.trans (hb.mono BW6.out.size))
      have LR := Kd.C_below HL6.out hb
      have hlast := SD.out.last
      rw [HLN.out, if_neg hz] at hlast
      obtain ⟨⟨u0, u1, u2⟩, hU⟩ : ∃ U, L.getD (ln - 1) z60 = U := ⟨_, rfl⟩
      rw [hU] at hlast
      simp only at hlast
      have hAh := KA.out (ln - 1) (by omega)
      rw [hU] at hAh
      have p6 := hAh.rg
      have p9 := hAh.rg0
      simp only at p6 p9
      have hr9 := hbd.out.2.2.2.2.2.2.2.2
      have wreg : wrap64 (u0 + 1) = u0 + 1 := w64 (by omega) (by omega)
      subst hlast
      obtain ⟨ad5, e5, k0, k1, k2⟩ := at_T60 LR ((ln - 1 : Nat) : Int) (by omega) (by rw [HLL.out]; omega)
      subst e5
      rw [show rd_T60 L ((ln - 1 : Nat) : Int) = L.getD (ln - 1) z60 from rfl, hU] at k0 k1 k2
      simp only [Int.toNat_natCast] at k0 k1 k2
      have i0 : (0 : Int) ≤ (ln : Int) - 1 := by omega
      have i1 : (ln : Int) - 1 < (ln : Int) := by omega
      have hk1 : 1 ≤ ln := by omega
      clear hAh hU hb LR k1 k2 p6 p9 hr9
      go_wp2
      go_ret
      exact ⟨by first | rfl | simp, BE.out⟩
  · have he1 : (er == 0) = false := by simpa using he
    go_wp2
    go_ret
    exact ⟨rfl, B4.out⟩
end Go.Proofs.Ytdmcihajgcdhmaa.QGeomApart
namespace Go.Proofs.Ytdmcihajgcdhmaa.Main
open Go.RowKit Go.Proofs.YtdmcihajgcdhmaaW.PrintWords
set_option linter.unusedVariables false
theorem GeomApart (W : World) (a0_0 : Int) (a0_1 : Int) (a0_2 : Int) (a0_3 : Int) (a0_4 : Int) (a0_5 : Int) (A0_6 : Option Addr) (c0_6 : Nat) (l0_6 : List Int) (w0_0 : (Lit.int .i64 a0_0).wf = true) (w0_1 : (Lit.int .i64 a0_1).wf = true) (w0_2 : (Lit.int .i64 a0_2).wf = true) (w0_3 : (Lit.int .i64 a0_3).wf = true) (w0_4 : (Lit.int .i64 a0_4).wf = true) (w0_5 : (Lit.int .i64 a0_5).wf = true) (hC0_6 : Kd.C (Kd.int .i64) W A0_6 l0_6.length l0_6) (hc0_6 : l0_6.length ≤ c0_6) (hG0_6 : (fun l => l.length * 8 ≤ 140737488351232 ∧ l.length ≤ 9223372036854775807 ∧ ∀ x ∈ l, (fun x => (Lit.int .i64 x).wf = true) x) l0_6) :
    Calls Try.prog 15 #[.agg #[.int .i64 a0_0, .int .i64 a0_1, .int .i64 a0_2, .int .i64 a0_3, .int .i64 a0_4, .int .i64 a0_5, .slice A0_6 l0_6.length c0_6]] W fun e w' => e = .returned (.bool true) ∧ Below W.heap.size W w' :=
  QGeomApart.apart_walk a0_0 a0_1 a0_2 a0_3 a0_4 a0_5 A0_6 c0_6 l0_6 W hC0_6 hc0_6 hG0_6.1
end Go.Proofs.Ytdmcihajgcdhmaa.Main
