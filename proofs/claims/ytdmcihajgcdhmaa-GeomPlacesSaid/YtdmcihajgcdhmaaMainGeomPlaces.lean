/- The walk of the law GeomPlaces.
   No condition. -/
import Derived.Test.YtdmcihajgcdhmaaPlaces
namespace Go.Proofs.Ytdmcihajgcdhmaa.QGeomPlaces
open Geo
open Go.RowKit Go.Proofs.YtdmcihajgcdhmaaW.PrintWords Go.Proofs.YtdmcihajgcdhmaaW.PrintLast Go.Proofs.YtdmcihajgcdhmaaW.PrintMore
set_option linter.unusedVariables false
set_option linter.unusedSimpArgs false
set_option linter.unusedSectionVars false
attribute [local go_sem high] eqA60
attribute [local go_sem] max2_int min2_int max_two min_two
set_option maxHeartbeats 4000000 in
theorem kept_walk (g : Nat) (l : List Int) (A : Option Addr) (c : Nat) (w : World) (hg : w.heap[g]? = some (.cells (nums .i64 (room l 3)).toArray 3 (0, 0))) (hC : Kd.C (Kd.int .i64) w A l.length l) (hb : l.length * 8 ≤ 140737488351232) :
    Calls Try.prog 43 #[.slice (some ⟨g, 0, none⟩) l.length (l.length + 3), .slice A l.length c] w fun e w' => e = .returned (.bool true) ∧ w = w' := by
  have HG := Aside0.mk hg
  have HC := Aside0.mk hC
  obtain ⟨n, hn⟩ : ∃ n, l.length = n := ⟨_, rfl⟩
  have HN := Aside0.mk hn
  rw [hn] at hb
  rw [hn]
  have i1 : (0 : Int) ≤ (n : Int) + 3 := by omega
  have i2 : (n : Int) + 3 ≤ ((n + 3 : Nat) : Int) := by omega
  have i3 : ((n : Int) + 3).toNat = n + 3 := by omega
  have i4 : n + 3 ≤ 9223372036854775807 := by omega
  clear hg hC hn
  go_enter Try.func43, Try.ntmps43
  go_wp2
  go_loop [15] (fun idx => ∃ k : Nat, k ≤ n + 3 ∧ idx = .int .i64 (k : Int)) (fun idx => n + 3 - (intOf idx).toNat)
  case atStart => exact ⟨0, Nat.zero_le _, rfl⟩
  case round =>
    obtain ⟨k, hk, rfl⟩ := hrel
    by_cases hlt : k < n + 3
    · have z0 : w.cell? ⟨g, k, none⟩ = some (.int .i64 ((room l 3).getD k 0)) := by
        rw [blk_cell HG.out, List.getElem?_toArray]
        unfold nums
        rw [List.getElem?_map, List.getD_eq_getElem?_getD, List.getElem?_eq_getElem (by rw [room_len l 3 (by omega)]; have := HN.out; omega)]
        rfl
      have i5 : decide ((k : Int) < ((n + 3 : Nat) : Int)) = true := decide_eq_true (by omega)
      by_cases hkn : k < n
      · obtain ⟨ad, ea, z1⟩ := Kd.at_int HC.out (k : Int) (by omega) (by have := HN.out; omega)
        subst ea
        have e1 : (room l 3).getD k 0 = rd l (k : Int) := by
          unfold room rd
          rw [List.getD_eq_getElem?_getD, List.getElem?_append_left (by have := HN.out; omega), List.getD_eq_getElem?_getD, Int.toNat_natCast]
        rw [e1] at z0
        simp only [Int.toNat_natCast] at z1
        obtain ⟨z, hz⟩ : ∃ z, rd l (k : Int) = z := ⟨_, rfl⟩
        rw [hz] at z0 z1
        have i6 : decide ((k : Int) < (n : Int)) = true := decide_eq_true (by omega)
        have i7 : decide ((n : Int) ≤ (k : Int)) = false := decide_eq_false (by omega)
        clear hz e1
        go_wp2
        go_round
        case rel => exact ⟨k + 1, by omega, by go_num⟩
        case measure => simp [intOf]; omega
      · have e1 : (room l 3).getD k 0 = -77 := by
          unfold room
          rw [List.getD_eq_getElem?_getD, List.getElem?_append_right (by have := HN.out; omega)]
          have : k - l.length = 0 ∨ k - l.length = 1 ∨ k - l.length = 2 := by have := HN.out; omega
          rcases this with h | h | h <;> rw [h] <;> rfl
        rw [e1] at z0
        have i6 : decide ((k : Int) < (n : Int)) = false := decide_eq_false (by omega)
        have i7 : decide ((n : Int) ≤ (k : Int)) = true := decide_eq_true (by omega)
        clear e1
        go_wp2
        go_round
        case rel => exact ⟨k + 1, by omega, by go_num⟩
        case measure => simp [intOf]; omega
    · have hkl : k = n + 3 := by omega
      subst hkl
      have i5 : decide (((n + 3 : Nat) : Int) < ((n + 3 : Nat) : Int)) = false := decide_eq_false (by omega)
      go_wp2
      go_ret
      exact ⟨rfl, rfl⟩
theorem cells7 {w : World} {g : Nat} {v0 v1 v2 v3 v4 v5 v6 : Value} (h : w.heap[g]? = some (.cells #[v0, v1, v2, v3, v4, v5, v6] 70 (0, 0))) :
    w.cell? ⟨g, 0, none⟩ = some v0 ∧ w.cell? ⟨g, 1, none⟩ = some v1 ∧ w.cell? ⟨g, 2, none⟩ = some v2 ∧ w.cell? ⟨g, 3, none⟩ = some v3 ∧ w.cell? ⟨g, 4, none⟩ = some v4 ∧ w.cell? ⟨g, 5, none⟩ = some v5 ∧ w.cell? ⟨g, 6, none⟩ = some v6 :=
  ⟨blk_cell h 0, blk_cell h 1, blk_cell h 2, blk_cell h 3, blk_cell h 4, blk_cell h 5, blk_cell h 6⟩
theorem put60 {W : World} {base g n cap : Nat} {ok : Nat → Prop} {xs : List S60} (h : Kd.R k60 60 W base ok (.slice (some ⟨g, 0, none⟩) n cap) xs) (i : Nat) (hi : i < n) (x' : S60) :
    Kd.R k60 60 (((W.setCell ⟨g, i * 3, none⟩ (.int .i64 x'.f0)).setCell ⟨g, i * 3 + 1, none⟩ (.int .i64 x'.f1)).setCell ⟨g, i * 3 + 2, none⟩ (.int .i64 x'.f2)) base ok (.slice (some ⟨g, 0, none⟩) n cap) (xs.set i x') ∧
      W.grownBy (((W.setCell ⟨g, i * 3, none⟩ (.int .i64 x'.f0)).setCell ⟨g, i * 3 + 1, none⟩ (.int .i64 x'.f1)).setCell ⟨g, i * 3 + 2, none⟩ (.int .i64 x'.f2)) (some g) := by
  obtain ⟨ce, hcl, hM, hcc, hfr⟩ := Kd.R_elem h z60 (i : Int) (by omega) (by omega)
  have h1 := Kd.R_seg h (i : Int) (by omega) (by omega) (seg := [.int .i64 x'.f0, .int .i64 x'.f1, .int .i64 x'.f2]) (j := 0) hcl hcc (show 3 ≤ 3 from by decide) (x' := x') (okp := fun _ => False) (by
    have e : ce.take 0 ++ [Value.int .i64 x'.f0, .int .i64 x'.f1, .int .i64 x'.f2] ++ ce.drop (0 + 3) = [Value.int .i64 x'.f0, .int .i64 x'.f1, .int .i64 x'.f2] := by
      rw [List.drop_of_length_le (by rw [hcl]; exact Nat.le_refl 3)]; rfl
    rw [show (0 + [Value.int .i64 x'.f0, .int .i64 x'.f1, .int .i64 x'.f2].length) = 0 + 3 from rfl, e]
    exact k60_mkM _ _ _ x') (fun _ hk => hk.elim)
  rw [Int.toNat_natCast] at h1
  exact h1
theorem cell60 {W : World} {base g n cap : Nat} {ok : Nat → Prop} {xs : List S60} (h : Kd.R k60 60 W base ok (.slice (some ⟨g, 0, none⟩) n cap) xs) (i : Nat) (hi : i < n) :
    (W.cell? ⟨g, i * 3, none⟩ = some (.int .i64 (xs.getD i z60).f0) ∧ W.cell? ⟨g, i * 3 + 1, none⟩ = some (.int .i64 (xs.getD i z60).f1) ∧ W.cell? ⟨g, i * 3 + 2, none⟩ = some (.int .i64 (xs.getD i z60).f2)) ∧
      W.frozen? ⟨g, i * 3, none⟩ = false ∧ W.frozen? ⟨g, i * 3 + 1, none⟩ = false ∧ W.frozen? ⟨g, i * 3 + 2, none⟩ = false := by
  obtain ⟨ce, hcl, hM, hcc, hfr⟩ := Kd.R_elem h z60 (i : Int) (by omega) (by omega)
  obtain rfl := k60_openM hM
  rw [Int.toNat_natCast] at hcc hfr
  exact ⟨⟨hcc 0 _ rfl, hcc 1 _ rfl, hcc 2 _ rfl⟩, hfr 0, hfr 1, hfr 2⟩
/-- Marked up to k. -/
def mark (L : List S60) (k : Nat) : List S60 := (List.range L.length).map fun i => if i < k then ⟨-1 - (i : Int), 0, 0⟩ else L.getD i z60
theorem mark_len (L : List S60) (k : Nat) : (mark L k).length = L.length := by unfold mark; rw [List.length_map, List.length_range]
theorem mark_0 (L : List S60) : mark L 0 = L := by
  unfold mark
  apply List.ext_getElem?
  intro i
  rw [List.getElem?_map]
  by_cases h : i < L.length
  · rw [List.getElem?_range h, List.getElem?_eq_getElem h]
    simp [h]
  · rw [List.getElem?_eq_none (by rw [List.length_range]; omega), List.getElem?_eq_none (by omega)]
    rfl
theorem mark_get (L : List S60) (k i : Nat) (h : i < L.length) : (mark L k).getD i z60 = if i < k then ⟨-1 - (i : Int), 0, 0⟩ else L.getD i z60 := by
  unfold mark
  rw [List.getD_eq_getElem?_getD, List.getElem?_map, List.getElem?_range h]
  rfl
theorem mark_set (L : List S60) (k : Nat) (h : k < L.length) : (mark L k).set k ⟨-1 - (k : Int), 0, 0⟩ = mark L (k + 1) := by
  apply List.ext_getElem?
  intro i
  rw [List.getElem?_set]
  unfold mark
  by_cases hi : i < L.length
  · rw [List.getElem?_map, List.getElem?_map, List.getElem?_range hi]
    by_cases e : k = i
    · subst e
      simp [hi]
    · by_cases e2 : i < k
      · simp [e, e2, show i < k + 1 by omega]
      · simp [e, e2, show ¬ i < k + 1 by omega]
  · rw [if_neg (by omega), List.getElem?_eq_none (by simp; omega), List.getElem?_eq_none (by simp; omega)]
/-- While the list is marked. -/
structure PlSt (W : World) (B3 B6 g2 : Nat) (box : Array Value) (ns : List Int) (Al : Option Addr) (n c5 : Nat) (v6 : Value) (L L1 : List S60) (wr : World) : Prop where
  row : Kd.R k60 60 wr B3 (fun _ => True) (.slice Al n c5) L1
  want : Kd.R k60 60 wr B6 (fun _ => True) v6 L
  room : wr.heap[g2]? = some (.cells (nums .i64 (room ns 3)).toArray 3 (0, 0))
  box : wr.heap[W.heap.size]? = some (.cells box 70 (0, 0))
  below : Below W.heap.size W wr
theorem PlSt.box_ {W : World} {B3 B6 g2 : Nat} {box : Array Value} {ns : List Int} {Al : Option Addr} {n c5 : Nat} {v6 : Value} {L L1 : List S60} {wr w' : World} (h : PlSt W B3 B6 g2 box ns Al n c5 v6 L L1 wr) (hb : Below wr.heap.size wr w') : PlSt W B3 B6 g2 box ns Al n c5 v6 L L1 w' :=
  ⟨Kd.R_below h.row hb, Kd.R_below h.want hb, blk_below h.room hb, blk_below h.box hb, h.below.trans (hb.mono h.below.size)⟩
theorem PlSt.put {W : World} {B3 B6 g2 gl : Nat} {box : Array Value} {ns : List Int} {n c5 : Nat} {v6 : Value} {L L1 : List S60} {wr : World} (h : PlSt W B3 B6 g2 box ns (some ⟨gl, 0, none⟩) n c5 v6 L L1 wr) (hB : W.heap.size ≤ B3) (hgl : gl < B6) (i : Nat) (hi : i < n) (x' : S60) :
    PlSt W B3 B6 g2 box ns (some ⟨gl, 0, none⟩) n c5 v6 L (L1.set i x') (((wr.setCell ⟨gl, i * 3, none⟩ (.int .i64 x'.f0)).setCell ⟨gl, i * 3 + 1, none⟩ (.int .i64 x'.f1)).setCell ⟨gl, i * 3 + 2, none⟩ (.int .i64 x'.f2)) := by
  obtain ⟨h1, h2⟩ := put60 h.row i hi x'
  have hg := ((Kd.R_bound h.row).1 gl rfl).2.1
  refine ⟨h1, Kd.R_mono (Kd.R_grown (Kd.R_bound h.want) h2 (fun k hk e => by injection e with e; have := hk.2.1; omega)) (fun _ _ => trivial), blk_grown h.room h2 (fun e => ?_), blk_grown h.box h2 (fun e => ?_), ?_⟩
  · injection e with e
    subst e
    exact Kd.R_ne h.row h.room (by decide) rfl
  · injection e with e
    exact Kd.R_ne h.row h.box (by decide) (by rw [e]; rfl)
  · exact below_set (below_set (below_set h.below (by show W.heap.size ≤ gl; omega)) (by show W.heap.size ≤ gl; omega)) (by show W.heap.size ≤ gl; omega)
set_option maxHeartbeats 16000000 in
set_option maxRecDepth 100000 in
theorem places_walk (p s r a head foot : Int) (A3 : Option Addr) (c3 : Nat) (ns : List Int) (W : World) (hC : Kd.C (Kd.int .i64) W A3 ns.length ns) (hc : ns.length ≤ c3) (hb : ns.length * 8 ≤ 140737488351232) :
    Calls Try.prog 14 #[.agg #[.int .i64 p, .int .i64 s, .int .i64 r, .int .i64 a, .int .i64 head, .int .i64 foot, .slice A3 ns.length c3]] W fun e w' => e = .returned (.bool true) ∧ Below W.heap.size W w' := by
  have HC := Aside0.mk hC
  have HBB := Aside0.mk hb
  have HCC := Aside0.mk hc
  obtain ⟨L, m, er, hP⟩ : ∃ L m er, placed p s r a head foot ns = (L, m, er) := ⟨_, _, _, rfl⟩
  have HP := Aside0.mk ((place_eq (2 * ns.length + 2) p s r a head foot ns (by omega) (by omega)).trans (congrArg some hP))
  have HR := Aside0.mk ((rplace_eq (2 * ns.length + 5020) p s r a head foot ns (by omega) (by omega)).trans (congrArg some hP))
  obtain ⟨bx, hbx⟩ : ∃ bx, bx = #[Value.int .i64 p, .int .i64 s, .int .i64 r, .int .i64 a, .int .i64 head, .int .i64 foot, .slice A3 ns.length c3] := ⟨_, rfl⟩
  have HBX := Aside0.mk hbx
  obtain ⟨n0, hn0⟩ : ∃ n0, ns.length = n0 := ⟨_, rfl⟩
  have HN0 := Aside0.mk hn0
  clear hC hc hb hP hbx
  have E7 := Aside0.mk (fun (w : World) (hk : w.heap[W.heap.size]? = some (.cells bx 70 (0, 0))) => cells7 (by rw [HBX.out] at hk; exact hk))
  rw [hn0] at E7
  rw [hn0]
  go_enter Try.func14, Try.ntmps14
  go_upto_region 3 with (go_at_call 16; refine (cellarlaw02_awake.calls 1 true _ (awake_eq 0)).mono ?_; rintro e w1 ⟨rfl, hb1⟩)
  have K1 : Aside0 (w1.heap[W.heap.size]? = some (.cells bx 70 (0, 0))) := ⟨by
    have h := blk_below (blk_new W (.cells #[.int .i64 p, .int .i64 s, .int .i64 r, .int .i64 a, .int .i64 head, .int .i64 foot, .slice A3 n0 c3] 70)) hb1
    rw [HBX.out, HN0.out]; exact h⟩
  have B1 := Aside0.mk (below_then ((Below.refl _ W).alloc (Nat.le_refl _) (.cells #[.int .i64 p, .int .i64 s, .int .i64 r, .int .i64 a, .int .i64 head, .int .i64 foot, .slice A3 n0 c3] 70)) (by simp) hb1)
  obtain ⟨x0, x1, x2, x3, x4, x5, x6⟩ := E7.out w1 K1.out
  have C1 := Aside0.mk (Kd.C_below HC.out B1.out)
  have KC := Aside0.mk (copied_walk A3 c3 ns w1 C1.out HCC.out HBB.out)
  rw [HN0.out] at KC
  clear hb1 hn0
  go_upto_region 4 with (go_at_call 39; refine KC.out.mono ?_; rintro e w2 ⟨rfl, hg2, hb2⟩)
  obtain ⟨g2, hgg⟩ : ∃ g2, w1.heap.size = g2 := ⟨_, rfl⟩
  rw [hgg] at hg2
  rw [hgg]
  have K2 := Aside0.mk (blk_below K1.out hb2)
  have B2 := Aside0.mk (B1.out.trans (hb2.mono B1.out.size))
  have G2 := Aside0.mk hg2
  have HG2 := Aside0.mk hgg
  obtain ⟨x0, x1, x2, x3, x4, x5, x6⟩ := E7.out w2 K2.out
  clear hb2 hg2 hgg KC
  have R2 := Aside0.mk (own_room w2 g2 g2 ns (Nat.le_refl _) (by have := HBB.out; omega) G2.out)
  have KP := Aside0.mk (fun (w : World) (hg : w.heap[g2]? = some (.cells (nums .i64 (room ns 3)).toArray 3 (0, 0))) => geom_Place.calls (2 * ns.length + 2 + 1) p s r a head foot (some ⟨g2, 0, none⟩) (ns.length + 3) ns L m er w (by
    obtain ⟨A, c, e, hl, hC⟩ := Kd.R_reads (own_room w g2 g2 ns (Nat.le_refl _) (by have := HBB.out; omega) hg)
    injection e with e1 e2 e3
    rw [e1]; exact hC) (by omega) HP.out)
  have KR := Aside0.mk (fun (w : World) (hb : Below W.heap.size W w) => cellarref02_Place.calls (2 * ns.length + 5020) p s r a head foot A3 c3 ns L m er w (Kd.C_below HC.out hb) HCC.out HR.out)
  have KK := Aside0.mk (fun (w : World) (hg : w.heap[g2]? = some (.cells (nums .i64 (room ns 3)).toArray 3 (0, 0))) (hb : Below W.heap.size W w) => kept_walk g2 ns A3 c3 w hg (Kd.C_below HC.out hb) HBB.out)
  rw [HN0.out] at KP KR KK
  go_upto_region 5 with (go_at_call 40; refine (KP.out w2 G2.out).mono ?_; rintro e w3 ⟨v4, rfl, hR3, hb3⟩; obtain ⟨A5, c5, rfl, hc5, hC5⟩ := Kd.R_reads hR3)
  have K3 := Aside0.mk (blk_below K2.out hb3)
  have B3 := Aside0.mk (B2.out.trans (hb3.mono B2.out.size))
  have G3 := Aside0.mk (blk_below G2.out hb3)
  have R3 := Aside0.mk hR3
  have HC5 := Aside0.mk hc5
  obtain ⟨x0, x1, x2, x3, x4, x5, x6⟩ := E7.out w3 K3.out
  clear hb3 hR3 hC5 hc5
  go_upto_region 6 with (go_at_call 41; refine (KR.out w3 B3.out).mono ?_; rintro e w4 ⟨v6, rfl, hR4, hb4⟩; obtain ⟨A6, c6, rfl, hc6, hC6⟩ := Kd.R_reads hR4)
  have B4 := Aside0.mk (B3.out.trans (hb4.mono B3.out.size))
  have S4 : Aside0 (PlSt W w2.heap.size w3.heap.size g2 bx ns A5 L.length c5 (.slice A6 L.length c6) L L w4) := ⟨Kd.R_below R3.out hb4, hR4, blk_below G3.out hb4, blk_below K3.out hb4, B4.out⟩
  have HLT : Aside0 (∀ gl, A5 = some ⟨gl, 0, none⟩ → gl < w3.heap.size) := ⟨fun gl h => by subst h; exact ((Kd.R_bound R3.out).1 gl rfl).2.2.1⟩
  have HW2 := Aside0.mk B2.out.size
  have HC6 := Aside0.mk hc6
  obtain ⟨x0, x1, x2, x3, x4, x5, x6⟩ := E7.out w4 S4.out.box
  have HLL : Aside0 (L.length ≤ 9223372036854775807) := ⟨by obtain ⟨_, _, _, _, h⟩ := Kd.R_reads R3.out; exact h.2.1⟩
  clear hb4 hR4 hC6 hc6
  obtain ⟨n, hn⟩ : ∃ n, L.length = n := ⟨_, rfl⟩
  have HN := Aside0.mk hn
  have KA := Aside0.mk (fun (w : World) (A A' : Option Addr) (c c' B B' : Nat) (h : Kd.R k60 60 w B (fun _ => True) (.slice A n c) L) (h' : Kd.R k60 60 w B' (fun _ => True) (.slice A' n c') L) => (show Calls Try.prog 42 #[.slice A n c, .slice A' n c'] w (fun e w' => e = .returned (.bool true) ∧ Drawn0 w w') from by
    have h1 := Kd.R_reads' h
    have h2 := Kd.R_reads' h'
    have h3 := cellarlaw02_alike.calls (L.length + 1) A c L A' c' L true w h1.2.2 (by omega) h2.2.2 (by omega) (alike_eq L HLL.out)
    rw [hn] at h3
    exact h3))
  rw [hn]
  rw [hn] at S4
  go_upto_region 8 with (first
    | (go_at_call 42; refine (KA.out w4 A5 A6 c5 c6 _ _ S4.out.row S4.out.want).mono ?_; rintro e w5 ⟨rfl, ⟨q5, rfl⟩⟩; have S5 := Aside0.mk (S4.out.box_ (pw_below_drewN (Below.refl w4.heap.size w4) q5)); obtain ⟨x0, x1, x2, x3, x4, x5, x6⟩ := E7.out _ S5.out.box)
    | (go_at_call 43; refine (KK.out _ S5.out.room S5.out.below).mono ?_; rintro e w' ⟨rfl, rfl⟩))
  obtain ⟨w5, hw5⟩ : ∃ w5, w4.drewN q5 = w5 := ⟨_, rfl⟩
  rw [hw5] at S5 x0 x1 x2 x3 x4 x5 x6
  rw [hw5]
  have S50 : Aside0 (PlSt W w2.heap.size w3.heap.size g2 bx ns A5 n c5 (.slice A6 n c6) L (mark L 0) w5) := ⟨by rw [mark_0]; exact S5.out⟩
  have hn63 : n ≤ 9223372036854775807 := by have := HLL.out; have := HN.out; omega
  clear hw5 S4 S5 x0 x1 x2 x3 x4 x5 x6
  go_wp2
  go_loopw [66] (fun idx wr => ∃ k : Nat, k ≤ n ∧ idx = .int .i64 (k : Int) ∧ Aside0 (PlSt W w2.heap.size w3.heap.size g2 bx ns A5 n c5 (.slice A6 n c6) L (mark L k) wr)) (fun idx _ => n - (intOf idx).toNat)
  case atStart => exact ⟨0, Nat.zero_le _, rfl, S50⟩
  case round =>
    clear S50
    obtain ⟨k, hk, rfl, SK⟩ := hrel
    by_cases hlt : k < n
    · obtain ⟨gl, hgl⟩ : ∃ gl, A5 = some ⟨gl, 0, none⟩ := by
        obtain ⟨_, inner, ho, hr⟩ := SK.out.row
        rcases ho.2 with ⟨h, _⟩ | ⟨g, cap, cur, h, _⟩
        · injection h with h1 h2 h3; omega
        · injection h with h1 h2 h3; exact ⟨g, h1⟩
      have hgl3 := HLT.out gl hgl
      subst hgl
      obtain ⟨⟨z0, z1, z2⟩, l0, l1, l2⟩ := cell60 SK.out.row k hlt
      have SK1 : Aside0 (PlSt W w2.heap.size w3.heap.size g2 bx ns (some ⟨gl, 0, none⟩) n c5 (.slice A6 n c6) L (mark L (k + 1)) (((wr.setCell ⟨gl, k * 3, none⟩ (.int .i64 (-1 - (k : Int)))).setCell ⟨gl, k * 3 + 1, none⟩ (.int .i64 0)).setCell ⟨gl, k * 3 + 2, none⟩ (.int .i64 0))) := ⟨by
        rw [← mark_set L k (by have := HN.out; omega)]
        exact SK.out.put HW2.out hgl3 k hlt ⟨-1 - (k : Int), 0, 0⟩⟩
      have ix : decide ((k : Int) < (n : Int)) = true := decide_eq_true (by omega)
      have wm : wrap64 (-1 - (k : Int)) = -1 - (k : Int) := w64 (by omega) (by omega)
      have wm2 : IntKind.i64.wrap (-1 - (k : Int)) = -1 - (k : Int) := by rw [IntKind.wrap_i64]; omega
      clear hgl3
      go_wp2
      go_roundw
      case rel => exact ⟨k + 1, by omega, by go_num, SK1⟩
      case measure => simp [intOf]; omega
    · have hkl : k = n := by omega
      subst hkl
      have ix : decide ((k : Int) < (k : Int)) = false := decide_eq_false (by omega)
      obtain ⟨x0, x1, x2, x3, x4, x5, x6⟩ := E7.out wr SK.out.box
      go_upto_region 14 with (go_at_call 40; refine (KP.out wr SK.out.room).mono ?_; rintro e w6 ⟨v7, rfl, hR7, hb7⟩; obtain ⟨A7, c7, rfl, hc7, hC7⟩ := Kd.R_reads hR7)
      have S6 := Aside0.mk (SK.out.box_ hb7)
      try rw [HN.out]
      rw [HN.out] at hR7
      have R7 := Aside0.mk hR7
      clear hb7 hR7 hC7 hc7 x0 x1 x2 x3 x4 x5 x6 SK
      go_upto_region 16 with (go_at_call 42; refine (KA.out w6 A7 A6 c7 c6 _ _ R7.out S6.out.want).mono ?_; rintro e w7 ⟨rfl, ⟨q7, rfl⟩⟩; have S7 := Aside0.mk (S6.out.box_ (pw_below_drewN (Below.refl w6.heap.size w6) q7)))
      obtain ⟨w7, hw7⟩ : ∃ w7, w6.drewN q7 = w7 := ⟨_, rfl⟩
      rw [hw7] at S7
      rw [hw7]
      clear hw7 S6 R7
      go_wp2
      go_loopw [104] (fun idx wr => ∃ j : Nat, j ≤ k ∧ idx = .int .i64 (j : Int) ∧ Aside0 (PlSt W w2.heap.size w3.heap.size g2 bx ns A5 k c5 (.slice A6 k c6) L (mark L k) wr)) (fun idx _ => k - (intOf idx).toNat)
      case atStart => exact ⟨0, Nat.zero_le _, rfl, S7⟩
      case round =>
        clear S7
        obtain ⟨j, hj, rfl, SJ⟩ := hrel
        by_cases hltj : j < k
        · obtain ⟨gl, hgl⟩ : ∃ gl, A5 = some ⟨gl, 0, none⟩ := by
            obtain ⟨_, inner, ho, hr⟩ := SJ.out.row
            rcases ho.2 with ⟨h, _⟩ | ⟨g, cap, cur, h, _⟩
            · injection h with h1 h2 h3; omega
            · injection h with h1 h2 h3; exact ⟨g, h1⟩
          subst hgl
          obtain ⟨⟨z0, z1, z2⟩, _, _, _⟩ := cell60 SJ.out.row j hltj
          have ej := mark_get L k j (by have := HN.out; omega)
          rw [if_pos hltj] at ej
          rw [ej] at z0 z1 z2
          simp only at z0 z1 z2
          have ix : decide ((j : Int) < (k : Int)) = true := decide_eq_true (by omega)
          have wm : wrap64 (-1 - (j : Int)) = -1 - (j : Int) := w64 (by omega) (by omega)
          have wm2 : IntKind.i64.wrap (-1 - (j : Int)) = -1 - (j : Int) := by rw [IntKind.wrap_i64]; omega
          have SB := Aside0.mk (fun (w' : World) (hb : Below wr.heap.size wr w') => SJ.out.box_ hb)
          clear ej
          go_wp2
          go_roundw
          case rel => exact ⟨j + 1, by omega, by go_num, ⟨SB.out _ (by first | exact Below.refl _ _ | exact below_alloc (Below.refl _ _) _)⟩⟩
          case measure => simp [intOf]; omega
        · have hkl : j = k := by omega
          subst hkl
          have ix : decide ((j : Int) < (j : Int)) = false := decide_eq_false (by omega)
          go_wp2
          go_ret
          exact ⟨rfl, SJ.out.below⟩
end Go.Proofs.Ytdmcihajgcdhmaa.QGeomPlaces
namespace Go.Proofs.Ytdmcihajgcdhmaa.Main
open Go.RowKit Go.Proofs.YtdmcihajgcdhmaaW.PrintWords
set_option linter.unusedVariables false
theorem GeomPlaces (W : World) (a0_0 : Int) (a0_1 : Int) (a0_2 : Int) (a0_3 : Int) (a0_4 : Int) (a0_5 : Int) (A0_6 : Option Addr) (c0_6 : Nat) (l0_6 : List Int) (w0_0 : (Lit.int .i64 a0_0).wf = true) (w0_1 : (Lit.int .i64 a0_1).wf = true) (w0_2 : (Lit.int .i64 a0_2).wf = true) (w0_3 : (Lit.int .i64 a0_3).wf = true) (w0_4 : (Lit.int .i64 a0_4).wf = true) (w0_5 : (Lit.int .i64 a0_5).wf = true) (hC0_6 : Kd.C (Kd.int .i64) W A0_6 l0_6.length l0_6) (hc0_6 : l0_6.length ≤ c0_6) (hG0_6 : (fun l => l.length * 8 ≤ 140737488351232 ∧ l.length ≤ 9223372036854775807 ∧ ∀ x ∈ l, (fun x => (Lit.int .i64 x).wf = true) x) l0_6) :
    Calls Try.prog 14 #[.agg #[.int .i64 a0_0, .int .i64 a0_1, .int .i64 a0_2, .int .i64 a0_3, .int .i64 a0_4, .int .i64 a0_5, .slice A0_6 l0_6.length c0_6]] W fun e w' => e = .returned (.bool true) ∧ Below W.heap.size W w' :=
  QGeomPlaces.places_walk a0_0 a0_1 a0_2 a0_3 a0_4 a0_5 A0_6 c0_6 l0_6 W hC0_6 hc0_6 hG0_6.1
end Go.Proofs.Ytdmcihajgcdhmaa.Main
