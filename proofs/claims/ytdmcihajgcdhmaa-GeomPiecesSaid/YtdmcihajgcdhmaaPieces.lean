/- geom.Pieces as the laws call it; the facts on Check and Bytes.
   No condition. -/
import Derived.Test.YtdmcihajgcdhmaaRange
namespace Go.Proofs.Ytdmcihajgcdhmaa.QGeomPieces
open Go.RowKit Go.Proofs.YtdmcihajgcdhmaaW.PrintWords Go.Proofs.YtdmcihajgcdhmaaW.PrintLast Go.Proofs.YtdmcihajgcdhmaaW.PrintMore
set_option linter.unusedVariables false
set_option linter.unusedSimpArgs false
set_option linter.unusedSectionVars false
open Geo
/-- What Check answers. -/
def chk (p s r a : Int) : Int := if Ok p s r a then 0 else 20

theorem power_eq (n lo hi : Int) (h0 : 1 ≤ lo) (h1 : hi ≤ 4096) : geom_power.f n lo hi = some (decide (lo ≤ n ∧ n ≤ hi ∧ P2 n)) := by
  unfold geom_power.f
  by_cases a : n ≥ lo
  · by_cases b : n ≤ hi
    · rw [if_pos a, if_pos b, bits_pow (by omega) (by omega)]
      congr 1
      rw [Bool.eq_iff_iff, decide_eq_true_iff, decide_eq_true_iff]
      exact ⟨fun h => ⟨a, b, h⟩, fun h => h.2.2⟩
    · rw [if_pos a, if_neg b, decide_eq_false (fun h => b h.2.1)]
  · rw [if_neg a, decide_eq_false (fun h => a h.1)]

theorem check_eq (k : Nat) (p s r a : Int) : geom_Check.f (k + 1) p s r a = some (chk p s r a) := by
  unfold geom_Check.f
  rw [power_eq p 16 4096 (by decide) (by decide)]
  simp only [Option.bind_some]
  by_cases hp : 16 ≤ p ∧ p ≤ 4096 ∧ P2 p
  · rw [decide_eq_true hp, if_pos rfl]
    have no : ∀ x, x = true → geom_Check.j0 (k + 1) x p s r a = some 20 := by intro x hx; subst hx; simp only [geom_Check.j0, if_true]
    by_cases hs : 1 ≤ s ∧ s ≤ 64
    · by_cases hr : 2 ≤ r ∧ r ≤ 256
      · rw [if_neg (by omega), if_neg (by omega), if_neg (by omega), decide_eq_false (show ¬ r > 256 by omega)]
        have q := pq_bound (p := p) (s := s) (by omega) hs
        have q3 := prod3_bound q hr
        simp only [geom_Check.j0]
        rw [if_neg (by decide), power_eq a 1 p (by decide) (by omega)]
        simp only [Option.bind_some]
        by_cases ha : 1 ≤ a ∧ a ≤ p ∧ P2 a
        · rw [decide_eq_true ha, if_pos rfl, w64 (n := p * s) (by omega) (by omega), w64 (n := p * s * r) (by omega) (by omega)]
          have hm : wrap64 (wrap64 (mx 32 a + 24) + 24) = mx 32 a + 48 := by
            unfold mx wrap64; split <;> omega
          rw [hm]
          unfold chk mx
          by_cases c : Ok p s r a
          · have c' := c; unfold Ok at c'; rw [if_pos c, if_neg (by omega), if_neg (by omega), if_neg (by split <;> omega)]
          · rw [if_neg c]
            by_cases c1 : p * s < 128
            · rw [if_pos c1]
            · rw [if_neg c1]
              by_cases c2 : p * s * r > 1048576
              · rw [if_pos c2]
              · rw [if_neg c2, if_pos]
                have : ¬ a ≤ p * s - 48 := fun h => c ⟨⟨hp.2.2, hp.1⟩, hs, hr, ⟨ha.2.2, ha.2.1⟩, by omega, h, by omega⟩
                split <;> omega
        · rw [decide_eq_false ha, if_neg (by decide)]
          unfold chk; rw [if_neg]; intro h; exact ha ⟨(p2_range h.2.2.2.1.1).1, h.2.2.2.1.2, h.2.2.2.1.1⟩
      · have e : chk p s r a = 20 := by unfold chk; rw [if_neg]; intro h; exact hr h.2.2.1
        rw [e]
        rw [if_neg (by omega), if_neg (by omega)]
        split
        · exact no _ rfl
        · exact no _ (decide_eq_true (by omega))
    · have e : chk p s r a = 20 := by unfold chk; rw [if_neg]; intro h; exact hs h.2.1
      rw [e]
      split
      · exact no _ rfl
      · rw [if_pos (by omega)]; exact no _ (decide_eq_true (by omega))
  · rw [decide_eq_false hp, if_neg (by decide)]
    have e : chk p s r a = 20 := by unfold chk; rw [if_neg]; intro h; exact hp ⟨h.1.2, (p2_range h.1.1).2, h.1.1⟩
    rw [e]; simp only [geom_Check.j0, Bool.not_false, if_true]

theorem chk_cases (p s r a : Int) : (Ok p s r a ∧ chk p s r a = 0) ∨ (¬ Ok p s r a ∧ chk p s r a = 20) := by
  unfold chk; by_cases h : Ok p s r a
  · exact .inl ⟨h, if_pos h⟩
  · exact .inr ⟨h, if_neg h⟩

theorem Ok.bounds {p s r a : Int} (h : Ok p s r a) : 16 ≤ p ∧ p ≤ 4096 ∧ 1 ≤ s ∧ s ≤ 64 ∧ 2 ≤ r ∧ r ≤ 256 ∧ 1 ≤ a ∧ a ≤ p ∧ 128 ≤ p * s ∧ p * s ≤ 262144 ∧ a ≤ p * s - 48 ∧ p * s * r ≤ 1048576 ∧ p * s * 2 ≤ p * s * r ∧ wrap64 (p * s) = p * s ∧ wrap64 (p * s * r) = p * s * r := by
  obtain ⟨⟨h1, h2⟩, h3, h4, ⟨h5, h6⟩, h7, h8, h9⟩ := h
  have a1 := p2_range h1
  have a2 := p2_range h5
  have q := pq_bound (p := p) (s := s) (by omega) h3
  have q3 := prod3_bound q h4
  have m := Int.mul_le_mul_of_nonneg_left (c := p * s) h4.1 (by omega)
  exact ⟨h2, a1.2, h3.1, h3.2, h4.1, h4.2, a2.1, h6, h7, q.2, h8, h9, m, w64 (by omega) (by omega), w64 (by omega) (by omega)⟩

theorem bytes_no (k : Nat) {p s r a : Int} (h : chk p s r a = 20) : geom_Bytes.f (k + 1) p s r a = some (0, 0, 20) := by
  unfold geom_Bytes.f; rw [check_eq, h]; rfl
theorem bytes_yes (k : Nat) {p s r a : Int} (h : Ok p s r a) : geom_Bytes.f (k + 1) p s r a = some (p * s, p * s * r, 0) := by
  have b := Ok.bounds h
  unfold geom_Bytes.f; rw [check_eq]; unfold chk; rw [if_pos h]
  simp only [Option.bind_some, if_true, b.2.2.2.2.2.2.2.2.2.2.2.2.2.1, b.2.2.2.2.2.2.2.2.2.2.2.2.2.2]

theorem small_ok : Ok 64 4 3 8 := by decide
theorem awake_eq (k : Nat) : cellarlaw02_awake.f (k + 1) = some true := by
  unfold cellarlaw02_awake.f cellarlaw02_small.f
  simp only [Option.bind_some]
  rw [bytes_yes k small_ok]
  unfold geom_Split.f
  rw [bytes_yes k small_ok]
  decide +kernel
theorem rpower_step (k : Nat) (n hi x y : Int) (hw : wrap64 (x * 2) = y) : cellarref02_Power.l0 (k + 1) n hi x = if x ≤ hi then (if n = x then some true else cellarref02_Power.l0 k n hi y) else some false := by
  simp only [cellarref02_Power.l0]; rw [hw]

theorem rpower_page (k : Nat) (n : Int) : cellarref02_Power.f (k + 20) n 16 4096 = some (decide (16 ≤ n ∧ n ≤ 4096 ∧ P2 n)) := by
  unfold cellarref02_Power.f
  rw [rpower_step (k + 19) n 4096 16 32 (by unfold wrap64; omega), rpower_step (k + 18) n 4096 32 64 (by unfold wrap64; omega), rpower_step (k + 17) n 4096 64 128 (by unfold wrap64; omega), rpower_step (k + 16) n 4096 128 256 (by unfold wrap64; omega),
    rpower_step (k + 15) n 4096 256 512 (by unfold wrap64; omega), rpower_step (k + 14) n 4096 512 1024 (by unfold wrap64; omega), rpower_step (k + 13) n 4096 1024 2048 (by unfold wrap64; omega), rpower_step (k + 12) n 4096 2048 4096 (by unfold wrap64; omega),
    rpower_step (k + 11) n 4096 4096 8192 (by unfold wrap64; omega), rpower_step (k + 10) n 4096 8192 16384 (by unfold wrap64; omega)]
  simp only [show (16 : Int) ≤ 4096 by decide, show (32 : Int) ≤ 4096 by decide, show (64 : Int) ≤ 4096 by decide, show (128 : Int) ≤ 4096 by decide, show (256 : Int) ≤ 4096 by decide, show (512 : Int) ≤ 4096 by decide, show (1024 : Int) ≤ 4096 by decide, show (2048 : Int) ≤ 4096 by decide, show (4096 : Int) ≤ 4096 by decide, show ¬ (8192 : Int) ≤ 4096 by decide, if_true, if_false]
  by_cases h : 16 ≤ n ∧ n ≤ 4096 ∧ P2 n
  · rw [decide_eq_true h]; unfold P2 at h
    repeat' (refine iteI (fun _ => ?_) (fun _ => ?_))
    all_goals first | rfl | (exfalso; omega)
  · rw [decide_eq_false h]; unfold P2 at h
    repeat' (refine iteI (fun _ => ?_) (fun _ => ?_))
    all_goals first | rfl | (exfalso; omega)

theorem rpower_align (k : Nat) (n p : Int) (hp : P2 p) : cellarref02_Power.f (k + 20) n 1 p = some (decide (P2 n ∧ n ≤ p)) := by
  unfold cellarref02_Power.f
  rw [rpower_step (k + 19) n p 1 2 (by unfold wrap64; omega), rpower_step (k + 18) n p 2 4 (by unfold wrap64; omega), rpower_step (k + 17) n p 4 8 (by unfold wrap64; omega), rpower_step (k + 16) n p 8 16 (by unfold wrap64; omega),
    rpower_step (k + 15) n p 16 32 (by unfold wrap64; omega), rpower_step (k + 14) n p 32 64 (by unfold wrap64; omega), rpower_step (k + 13) n p 64 128 (by unfold wrap64; omega), rpower_step (k + 12) n p 128 256 (by unfold wrap64; omega),
    rpower_step (k + 11) n p 256 512 (by unfold wrap64; omega), rpower_step (k + 10) n p 512 1024 (by unfold wrap64; omega), rpower_step (k + 9) n p 1024 2048 (by unfold wrap64; omega), rpower_step (k + 8) n p 2048 4096 (by unfold wrap64; omega),
    rpower_step (k + 7) n p 4096 8192 (by unfold wrap64; omega), rpower_step (k + 6) n p 8192 16384 (by unfold wrap64; omega)]
  have hr := p2_range hp
  by_cases h : P2 n ∧ n ≤ p
  · rw [decide_eq_true h]; unfold P2 at h
    repeat' (refine iteI (fun _ => ?_) (fun _ => ?_))
    all_goals first | rfl | (exfalso; omega)
  · rw [decide_eq_false h]; unfold P2 at h
    repeat' (refine iteI (fun _ => ?_) (fun _ => ?_))
    all_goals first | rfl | (exfalso; omega)

theorem rcheck_eq (k : Nat) (p s r a : Int) : cellarref02_Check.f (k + 20) p s r a = some (chk p s r a) := by
  unfold cellarref02_Check.f
  rw [rpower_page]
  simp only [Option.bind_some]
  have no : cellarref02_Check.j0 (k + 20) true p s r a = some 20 := by rw [show k + 20 = (k + 19) + 1 from rfl]; simp only [cellarref02_Check.j0, if_true]
  by_cases hp : 16 ≤ p ∧ p ≤ 4096 ∧ P2 p
  · rw [decide_eq_true hp, if_pos rfl]
    by_cases hs : 1 ≤ s ∧ s ≤ 64
    · by_cases hr : 2 ≤ r ∧ r ≤ 256
      · rw [if_neg (by omega), if_neg (by omega), if_neg (by omega), if_neg (by omega), rpower_align k a p hp.2.2]
        simp only [Option.bind_some]
        have q := pq_bound (p := p) (s := s) (by omega) hs
        have q3 := prod3_bound q hr
        by_cases ha : P2 a ∧ a ≤ p
        · rw [decide_eq_true ha, show k + 20 = (k + 19) + 1 from rfl]
          simp only [cellarref02_Check.j0, Bool.not_true]
          rw [if_neg (by decide), w64 (n := p * s) (by omega) (by omega), w64 (n := p * s * r) (by omega) (by omega), w64 (n := p * s - 48) (by omega) (by omega)]
          unfold chk
          by_cases c : Ok p s r a
          · have c' := c; unfold Ok at c'; rw [if_pos c, if_neg (by omega), if_neg (by omega), if_neg (by omega)]
          · rw [if_neg c]
            by_cases c1 : p * s < 128
            · rw [if_pos c1]
            · rw [if_neg c1]
              by_cases c2 : p * s - 48 < a
              · rw [if_pos c2]
              · rw [if_neg c2, if_pos]
                have : ¬ p * s * r ≤ 1048576 := fun h => c ⟨⟨hp.2.2, hp.1⟩, hs, hr, ha, by omega, by omega, h⟩
                omega
        · rw [decide_eq_false ha, show (!false) = true from rfl, no]
          unfold chk; rw [if_neg]; intro h; exact ha h.2.2.2.1
      · have e : chk p s r a = 20 := by unfold chk; rw [if_neg]; intro h; exact hr h.2.2.1
        rw [e, if_neg (by omega), if_neg (by omega)]
        split
        · exact no
        · rw [if_pos (by omega)]; exact no
    · have e : chk p s r a = 20 := by unfold chk; rw [if_neg]; intro h; exact hs h.2.1
      rw [e]
      split
      · exact no
      · rw [if_pos (by omega)]; exact no
  · rw [decide_eq_false hp, if_neg (by decide), no]
    have e : chk p s r a = 20 := by unfold chk; rw [if_neg]; intro h; exact hp ⟨h.1.2, (p2_range h.1.1).2, h.1.1⟩
    rw [e]

end Go.Proofs.Ytdmcihajgcdhmaa.QGeomPieces
namespace Go.Proofs.Ytdmcihajgcdhmaa.Range
open Go.RowKit Go.Shelf Go.Proofs.YtdmcihajgcdhmaaW.PrintWords Go.Proofs.Ytdmcihajgcdhmaa.QGeomPieces Geo
set_option linter.unusedVariables false
set_option linter.unusedSimpArgs false
set_option linter.unusedSectionVars false
attribute [local go_sem] Oper.semAt_some
/-- What geom.Pieces has laid: its own variables, and the closure that reads them. -/
structure Laid (w w' : World) (p s r a o nn rg er : Int) (v : Value) (b1 b2 : Nat) : Prop where
  val : v = .func (.func 49) #[] #[.pointer (some ⟨b2, 0, none⟩), .pointer (some ⟨w.heap.size + 1, 0, none⟩), .pointer (some ⟨w.heap.size + 2, 0, none⟩), .pointer (some ⟨b1, 0, none⟩), .pointer (some ⟨w.heap.size, 0, none⟩)]
  lo1 : w.heap.size ≤ b1
  hi1 : b1 < w'.heap.size
  lo2 : w.heap.size ≤ b2
  hi2 : b2 < w'.heap.size
  hi : w.heap.size + 2 < w'.heap.size
  cE : w'.cell? ⟨b2, 0, none⟩ = some (.int .i64 er)
  cO : w'.cell? ⟨w.heap.size + 1, 0, none⟩ = some (.int .i64 o)
  cN : w'.cell? ⟨w.heap.size + 2, 0, none⟩ = some (.int .i64 nn)
  cR : w'.cell? ⟨b1, 0, none⟩ = some (.int .i64 rg)
  cG : w'.cell? ⟨w.heap.size, 0, none⟩ = some (.int .i64 p)
  below : Below w.heap.size w w'
set_option maxHeartbeats 2000000 in
set_option maxRecDepth 100000 in
theorem pieces_walk (k : Nat) (p s r a o nn r1 r2 r3 : Int) (hB : geom_Bytes.f k p s r a = some (r1, r2, r3)) (w : World) :
    Calls Try.prog 29 #[.agg #[.int .i64 p, .int .i64 s, .int .i64 r, .int .i64 a], .int .i64 o, .int .i64 nn] w fun e w' => ∃ v b1 b2, e = .returned v ∧ Laid w w' p s r a o nn r1 r3 v b1 b2 := by
  have hB' := Aside0.mk hB
  clear hB
  go_enter Try.func29, Try.ntmps29
  go_wp2_with (go_at_call 18; refine (geom_Bytes.calls k p s r a r1 r2 r3 _ hB'.out).mono ?_; rintro e w1 ⟨rfl, hb⟩)
  have hz := hb.size
  simp only [World.size_alloc] at hz
  go_ret
  have hc : ∀ b o', b < w.heap.size + 3 → w1.cell? ⟨b, o', none⟩ = (((w.alloc (.cells #[.int .i64 p, .int .i64 s, .int .i64 r, .int .i64 a] 24)).alloc (.cells #[.int .i64 o] 3)).alloc (.cells #[.int .i64 nn] 3)).cell? ⟨b, o', none⟩ := fun b o' h => hb.cell (p := ⟨b, o', none⟩) (by simp; omega)
  have hb2 := ((Below.refl w1.heap.size w1).alloc (Nat.le_refl _) (.cells #[.int .i64 r1] 3)).alloc (by simp) (.cells #[.int .i64 r3] 25)
  have hb0 : Below w.heap.size w w1 := ((((Below.refl w.heap.size w).alloc (Nat.le_refl _) _).alloc (by simp) _).alloc (by simp; omega) _).trans (hb.mono (by simp; omega))
  have o1 := cell_new1 (w.alloc (.cells #[.int .i64 p, .int .i64 s, .int .i64 r, .int .i64 a] 24)) (.int .i64 o) 3
  have o2 := cell_new1 ((w.alloc (.cells #[.int .i64 p, .int .i64 s, .int .i64 r, .int .i64 a] 24)).alloc (.cells #[.int .i64 o] 3)) (.int .i64 nn) 3
  simp only [World.size_alloc] at o1 o2
  have o3 : (w.alloc (.cells #[.int .i64 p, .int .i64 s, .int .i64 r, .int .i64 a] 24)).cell? ⟨w.heap.size, 0, none⟩ = some (.int .i64 p) := by rw [blk_cell (blk_new w _)]; rfl
  refine ⟨_, w1.heap.size, w1.heap.size + 1, rfl, rfl, by omega, by simp; omega, by omega, by simp, by simp; omega, by simp, ?_, ?_, by simp, ?_, hb0.trans (hb2.mono (by omega))⟩
  · exact (hb2.cell (p := ⟨w.heap.size + 1, 0, none⟩) (by simp; omega)).trans ((hc _ _ (by omega)).trans (cell_old o1 _))
  · exact (hb2.cell (p := ⟨w.heap.size + 2, 0, none⟩) (by simp; omega)).trans ((hc _ _ (by omega)).trans o2)
  · exact (hb2.cell (p := ⟨w.heap.size, 0, none⟩) (by simp; omega)).trans ((hc _ _ (by omega)).trans (cell_old (cell_old o3 _) _))
/-- Of a range within a region the pieces come; .. -/
theorem stops_yes (n : Nat) (hn : 1 ≤ n) {w w' : World} {p s r a o nn rg : Int} {v : Value} {b1 b2 : Nat} (hL : Laid w w' p s r a o nn rg 0 v b1 b2) (hin : InRange p o nn rg) {W0 : World} (hW : Below w'.heap.size w' W0) :
    SeqStopsK Fence.wide n Try.prog 49 #[.pointer (some ⟨b2, 0, none⟩), .pointer (some ⟨w.heap.size + 1, 0, none⟩), .pointer (some ⟨w.heap.size + 2, 0, none⟩), .pointer (some ⟨b1, 0, none⟩), .pointer (some ⟨w.heap.size, 0, none⟩)] encP
      (KeepI w.heap.size w'.heap.size) (fun ys => ys = Pcs.upto (Pcs.pc p o nn) (Pcs.cnt p o nn)) (fun pre => ∃ k, k ≤ Pcs.cnt p o nn ∧ pre = Pcs.upto (Pcs.pc p o nn) k) (Pcs.cnt p o nn) W0 := fun l J Jx W hB hJ _ hY h0 => by
  have hbb : Below w'.heap.size w' W := hW.trans (hB.mono hW.size)
  have cc : ∀ {b : Nat} {x : Value}, b < w'.heap.size → w'.cell? ⟨b, 0, none⟩ = some x → W.cell? ⟨b, 0, none⟩ = some x := fun {b x} h1 h2 => (hbb.cell (p := ⟨b, 0, none⟩) h1).trans h2
  have h3 := hL.hi
  exact iter_yes n hn l w.heap.size w'.heap.size b2 (w.heap.size + 1) (w.heap.size + 2) b1 w.heap.size p s r a o nn rg hin ⟨hL.lo2, hL.hi2⟩ ⟨by omega, by omega⟩ ⟨by omega, by omega⟩ ⟨hL.lo1, hL.hi1⟩ ⟨by omega, by omega⟩ J Jx hY W hJ
    (cc hL.hi2 hL.cE) (cc (by omega) hL.cO) (cc (by omega) hL.cN) (cc hL.hi1 hL.cR) (cc (by omega) hL.cG) h0
/-- .. of whatever else none. -/
theorem stops_no (n : Nat) {w w' : World} {p s r a o nn rg er : Int} {v : Value} {b1 b2 : Nat} (hL : Laid w w' p s r a o nn rg er v b1 b2) (hno : er ≠ 0 ∨ (er = 0 ∧ 0 ≤ rg ∧ rg ≤ 1048576 ∧ (o < 0 ∨ nn < 0 ∨ (0 ≤ nn ∧ rg < nn) ∨ (0 ≤ nn ∧ nn ≤ rg ∧ rg - nn < o))))
    {W0 : World} (hW : Below w'.heap.size w' W0) :
    SeqStopsK Fence.wide n Try.prog 49 #[.pointer (some ⟨b2, 0, none⟩), .pointer (some ⟨w.heap.size + 1, 0, none⟩), .pointer (some ⟨w.heap.size + 2, 0, none⟩), .pointer (some ⟨b1, 0, none⟩), .pointer (some ⟨w.heap.size, 0, none⟩)] encP
      (KeepI w.heap.size w'.heap.size) (fun ys => ys = []) (fun pre => pre = []) 0 W0 := fun l J Jx W hB hJ _ hY h0 => by
  have hbb : Below w'.heap.size w' W := hW.trans (hB.mono hW.size)
  have cc : ∀ {b : Nat} {x : Value}, b < w'.heap.size → w'.cell? ⟨b, 0, none⟩ = some x → W.cell? ⟨b, 0, none⟩ = some x := fun {b x} h1 h2 => (hbb.cell (p := ⟨b, 0, none⟩) h1).trans h2
  have h3 := hL.hi
  exact (iter_no n l b2 (w.heap.size + 1) (w.heap.size + 2) b1 w.heap.size er o nn rg hno J W (cc hL.hi2 hL.cE) (cc (by omega) hL.cO) (cc (by omega) hL.cN) (cc hL.hi1 hL.cR) h0).mono fun e W' ⟨he, hj⟩ => ⟨he, .inl ⟨[], rfl, hj⟩⟩
theorem own_blk {β : Type} (b : Nat) (f : β → Obj) (ho : ∀ s, (f s).isCells = true) : Own (fun s W => W.heap[b]? = some (f s)) := fun s X Y row hs hg hrow =>
  (hg.block b (Array.getElem?_eq_some_iff.1 hs).1 (fun e => by obtain ⟨o, h1, h2⟩ := hrow b e.symm; rw [hs] at h1; cases h1; rw [ho] at h2; cases h2)).trans hs
theorem below_two {W w1 : World} {x y : Obj} (hb : Below ((W.alloc x).alloc y).heap.size ((W.alloc x).alloc y) w1) : Below W.heap.size W w1 := (((Below.refl _ W).alloc (Nat.le_refl _) x).alloc (by simp) y).trans (hb.mono (by simp; omega))
theorem below_drawn {w w' : World} (h : Drawn0 w w') : Below w.heap.size w w' := by
  obtain ⟨m, rfl⟩ := h
  exact pw_below_drewN (Below.refl _ _) m
theorem within_eq {o nn rg : Int} (h0 : 0 ≤ rg) (h1 : rg ≤ 1048576) (b : Bool) (h : b = decide (o ≥ 0 ∧ nn ≥ 0 ∧ o ≤ rg ∧ nn ≤ rg - o)) : cellarref02_Within.f o nn rg = some b := by
  unfold cellarref02_Within.f
  by_cases c1 : o ≥ 0
  · rw [if_pos c1]
    by_cases c2 : nn ≥ 0
    · rw [if_pos c2]
      by_cases c3 : o ≤ rg
      · rw [if_pos c3, w64 (by omega) (by omega), h]; simp [c1, c2, c3]
      · rw [if_neg c3, h]; simp [c3]
    · rw [if_neg c2, h]; simp [c2]
  · rw [if_neg c1, h]; simp [c1]
end Go.Proofs.Ytdmcihajgcdhmaa.Range
