/- The law FlashMakes, walked by hand; and the call.
   No condition. -/
import Derived.Test.YtnkbebdgkidbjaaFlG
import Derived.ArgAppend
import Derived.BigRegion
import Derived.Deep.QuietTactic
import Derived.BigQuiet
import Derived.Deep.RegionHeld3
import Derived.ChangeAlike
import Derived.RegionTactic
import Derived.Deep.DeepCutAuto
import Derived.Deep.CutBlock
import Derived.Deep.RegionLaw
import Derived.StillTailTactics
import Derived.WalkSpells
import Derived.Lib.SliceRun
import Derived.Laws.CopyRow
import Derived.Lib.SlBuf
import Derived.Lib.MakeNoZero
import Derived.Laws.BitsLemmas
import Derived.Lib.Bytes
import Derived.Lib.SlBytesConst
namespace Go.Proofs.Ytnkbebdgkidbjaa.Flash
open Go.Proofs.Ytnkbebdgkidbjaa.QFlashPlays
open Go.RowKit Go.Proofs.YtnkbebdgkidbjaaW.PrintWords Go.Proofs.YtnkbebdgkidbjaaW.PrintLast Go.Proofs.YtnkbebdgkidbjaaW.PrintMore
attribute [local go_sem] max2_int min2_int max_two min_two   -- for this text's walks alone
set_option linter.unusedVariables false
set_option linter.unusedSimpArgs false
theorem wf_u8' {x : Int} (h : (Lit.int .u8 x).wf = true) : 0 ≤ x ∧ x < 256 := by
  simp [Lit.wf, IntKind.min, IntKind.max, IntKind.bits, IntKind.signed] at h; omega
/-! ### FlashMakes -/
theorem nil26' (w : World) : (binOp .eql 26 (.pointer none) (.pointer none)).run Try.prog w = .ok (.bool true) w := by kernel_rfl
theorem nil30 (w : World) : (binOp .eql 30 (.pointer none) (.pointer none)).run Try.prog w = .ok (.bool true) w := by kernel_rfl
theorem nenil30 (w : World) : (binOp .neq 30 (.pointer none) (.pointer none)).run Try.prog w = .ok (.bool false) w := by kernel_rfl
theorem some30 (b : Nat) (w : World) : (binOp .eql 30 (.pointer (some ⟨b, 0, none⟩)) (.pointer none)).run Try.prog w = .ok (.bool false) w := by kernel_rfl
theorem nesome30 (b : Nat) (w : World) : (binOp .neq 30 (.pointer (some ⟨b, 0, none⟩)) (.pointer none)).run Try.prog w = .ok (.bool true) w := by kernel_rfl
theorem some26 (b : Nat) (w : World) : (binOp .eql 26 (.pointer (some ⟨b, 0, none⟩)) (.pointer none)).run Try.prog w = .ok (.bool false) w := by kernel_rfl
theorem same_arg {W w5 w' : World} {B n c5 c : Nat} {ok : Nat → Prop} {A A5 : Option Addr} {l : List Int} (h5 : (Kd.int .u8).R 5 w5 B ok (.slice A5 n c5) l) (hb : Below w5.heap.size w5 w') (hC : (Kd.int .u8).C W A n l) (hc : n ≤ c) (hbl : Below W.heap.size W w') (hn : l.length = n) (hl : n ≤ 140737488355328) :
    Calls Try.prog 14 #[.slice A5 n c5, .slice A n c] w' (Told w' (.bool true)) := by
  subst hn
  obtain ⟨k1, _, k2⟩ := R_C h5
  have h := sameBytes_walk (c := c5) (c' := c) (Kd.C_below k1 hb) k2 (Kd.C_below hC hbl) hc (Nat.lt_of_le_of_lt hl (by decide))
  rw [decide_eq_true rfl] at h
  exact h
set_option maxHeartbeats 4000000 in
set_option maxRecDepth 100000 in
theorem makes_no (W : World) (p s r a : Int) (hk : chk p s r a = 20) {A : Option Addr} {c : Nat} {l : List Int} (hC : (Kd.int .u8).C W A l.length l) (hc : l.length ≤ c) (hl : l.length ≤ 140737488355328) :
    Calls Try.prog 3 #[.agg #[.int .i64 p, .int .i64 s, .int .i64 r, .int .i64 a], .slice A l.length c] W (Near W (.bool true)) := by
  have q1 := nil30
  have q2 := nenil30
  have q3 := nil26'
  have KN := Aside0.mk (fun (w : World) => new_no (w := w) hk)
  have KD := Aside0.mk (fun (w : World) => docnew_no (w := w) hk)
  have KL := Aside0.mk (fun (w : World) (A : Option Addr) (n c : Nat) => load_no (w := w) hk (A := A) (n := n) (c := c))
  have KE := Aside0.mk (fun (w : World) (A : Option Addr) (n c : Nat) => docload_no (w := w) hk (A := A) (n := n) (c := c))
  have BX : Aside0 (Below W.heap.size W (W.alloc (.cells #[.int .i64 p, .int .i64 s, .int .i64 r, .int .i64 a] 23))) := ⟨below_alloc (Below.refl _ _) _⟩
  have bb := blk_new W (.cells #[.int .i64 p, .int .i64 s, .int .i64 r, .int .i64 a] 23)
  have HC := Aside0.mk (And.intro hC hc)
  obtain ⟨n, hn⟩ : ∃ n, l.length = n := ⟨_, rfl⟩
  have HN := Aside0.mk hn
  rw [hn] at HC hl
  rw [hn]
  clear hC hc hn hk
  go_enter Try.func3, Try.ntmps3
  go_upto_region 1 with (fail)
  generalize hw1 : W.alloc (.cells #[.int .i64 p, .int .i64 s, .int .i64 r, .int .i64 a] 23) = w1 at bb BX ⊢
  clear hw1
  obtain ⟨bx, hbx⟩ : ∃ bx, W.heap.size = bx := ⟨_, rfl⟩
  have HBX := Aside0.mk hbx
  rw [hbx] at bb
  rw [hbx]
  have GC := Aside0.mk (fun (w' : World) (hb : Below w1.heap.size w1 w') => (show w'.cell? ⟨bx, 0, none⟩ = some (.int .i64 p) ∧ w'.cell? ⟨bx, 1, none⟩ = some (.int .i64 s) ∧ w'.cell? ⟨bx, 2, none⟩ = some (.int .i64 r) ∧ w'.cell? ⟨bx, 3, none⟩ = some (.int .i64 a) from ⟨blk_cell (blk_below bb hb) 0, blk_cell (blk_below bb hb) 1, blk_cell (blk_below bb hb) 2, blk_cell (blk_below bb hb) 3⟩))
  clear bb hbx
  go_upto_region 7 with (first
    | (go_at_call 11; refine (lives_walk _).mono ?_; rintro e w2 ⟨rfl, hb2⟩; have B2 := Aside0.mk hb2; obtain ⟨c0, c1, c2, c3⟩ := GC.out _ hb2; clear hb2)
    | (go_at_call 12; refine (KN.out _).mono ?_; rintro e w3 ⟨rfl, hb3⟩; have B3 := Aside0.mk (B2.out.trans (hb3.mono B2.out.size)); obtain ⟨d0, d1, d2, d3⟩ := GC.out _ B3.out; clear hb3 c0 c1 c2 c3)
    | (go_at_call 13; refine (KD.out _).mono ?_; rintro e w4 ⟨rfl, hb4⟩; have B4 := Aside0.mk (B3.out.trans (hb4.mono B3.out.size)); clear hb4 d0 d1 d2 d3))
  refine start_ (n := 18) (S := fun w' => True) (ds := []) #[F,F,F,F,F,F,F,F,F,F,F,F,F,F,F,F,F,F] (by kernel_rfl) rfl rfl (trivial) (fun hHeld => ?_)
  generalize hwd : w4.drew = wd at hHeld ⊢
  have BD : Aside0 (Below w4.heap.size w4 wd) := ⟨by rw [← hwd]; exact below_drew (Below.refl _ _)⟩
  clear hwd
  refine pure_ (i := 0) (N := some 33) (v := ?_) (a' := ?_) #[T,F,F,F,F,F,F,F,F,F,F,F,F,F,F,F,F,F] rfl rfl (by kernel_rfl) (fun _ _ _ h => h) (Or.inl ⟨by rfl, ?_⟩) ?_ ?_
  rotate_left
  · intro w'
    go_simp
    with_reducible rfl
  rotate_left
  · simp only [Act.put, sA, s0_, sS, i64_w, i32_w]
    rfl
  refine pure_ (i := 1) (N := some 34) (v := ?_) (a' := ?_) #[T,T,F,F,F,F,F,F,F,F,F,F,F,F,F,F,F,F] rfl rfl (by kernel_rfl) (fun _ _ _ h => h) (Or.inl ⟨by rfl, ?_⟩) ?_ ?_
  rotate_left
  · intro w'
    go_simp
    with_reducible rfl
  rotate_left
  · simp only [Act.put, sA, s0_, sS, i64_w, i32_w]
    rfl
  refine pure_ (i := 2) (N := some 35) (v := ?_) (a' := ?_) #[T,T,T,F,F,F,F,F,F,F,F,F,F,F,F,F,F,F] rfl rfl (by kernel_rfl) (fun _ _ _ h => h) (Or.inl ⟨by rfl, ?_⟩) ?_ ?_
  rotate_left
  · intro w'
    go_simp
    with_reducible rfl
  rotate_left
  · simp only [Act.put, sA, s0_, sS, i64_w, i32_w]
    rfl
  refine pure_ (i := 3) (N := some 36) (v := undef) (a' := ?_) #[T,T,T,T,F,F,F,F,F,F,F,F,F,F,F,F,F,F] rfl rfl (by kernel_rfl) (fun _ _ _ h => h) (Or.inr ⟨by rfl, rfl⟩) ?_ ?_
  rotate_left
  · simp only [Act.put, sA, s0_, sS, i64_w, i32_w]
    rfl
  refine pure_ (i := 4) (N := some 37) (v := undef) (a' := ?_) #[T,T,T,T,T,F,F,F,F,F,F,F,F,F,F,F,F,F] rfl rfl (by kernel_rfl) (fun _ _ _ h => h) (Or.inr ⟨by rfl, rfl⟩) ?_ ?_
  rotate_left
  · simp only [Act.put, sA, s0_, sS, i64_w, i32_w]
    rfl
  refine pure_ (i := 5) (N := some 38) (v := undef) (a' := ?_) #[T,T,T,T,T,T,F,F,F,F,F,F,F,F,F,F,F,F] rfl rfl (by kernel_rfl) (fun _ _ _ h => h) (Or.inr ⟨by rfl, rfl⟩) ?_ ?_
  rotate_left
  · simp only [Act.put, sA, s0_, sS, i64_w, i32_w]
    rfl
  refine pure_ (i := 6) (N := some 39) (v := undef) (a' := ?_) #[T,T,T,T,T,T,T,F,F,F,F,F,F,F,F,F,F,F] rfl rfl (by kernel_rfl) (fun _ _ _ h => h) (Or.inr ⟨by rfl, rfl⟩) ?_ ?_
  rotate_left
  · simp only [Act.put, sA, s0_, sS, i64_w, i32_w]
    rfl
  refine pure_ (i := 7) (N := some 40) (v := undef) (a' := ?_) #[T,T,T,T,T,T,T,T,F,F,F,F,F,F,F,F,F,F] rfl rfl (by kernel_rfl) (fun _ _ _ h => h) (Or.inr ⟨by rfl, rfl⟩) ?_ ?_
  rotate_left
  · simp only [Act.put, sA, s0_, sS, i64_w, i32_w]
    rfl
  refine pure_ (i := 8) (N := some 41) (v := undef) (a' := ?_) #[T,T,T,T,T,T,T,T,T,F,F,F,F,F,F,F,F,F] rfl rfl (by kernel_rfl) (fun _ _ _ h => h) (Or.inr ⟨by rfl, rfl⟩) ?_ ?_
  rotate_left
  · simp only [Act.put, sA, s0_, sS, i64_w, i32_w]
    rfl
  refine pure_ (i := 9) (N := some 42) (v := undef) (a' := ?_) #[T,T,T,T,T,T,T,T,T,T,F,F,F,F,F,F,F,F] rfl rfl (by kernel_rfl) (fun _ _ _ h => h) (Or.inr ⟨by rfl, rfl⟩) ?_ ?_
  rotate_left
  · simp only [Act.put, sA, s0_, sS, i64_w, i32_w]
    rfl
  refine pure_ (i := 10) (N := some 43) (v := undef) (a' := ?_) #[T,T,T,T,T,T,T,T,T,T,T,F,F,F,F,F,F,F] rfl rfl (by kernel_rfl) (fun _ _ _ h => h) (Or.inr ⟨by rfl, rfl⟩) ?_ ?_
  rotate_left
  · simp only [Act.put, sA, s0_, sS, i64_w, i32_w]
    rfl
  refine pure_ (i := 11) (N := some 44) (v := undef) (a' := ?_) #[T,T,T,T,T,T,T,T,T,T,T,T,F,F,F,F,F,F] rfl rfl (by kernel_rfl) (fun _ _ _ h => h) (Or.inr ⟨by rfl, rfl⟩) ?_ ?_
  rotate_left
  · simp only [Act.put, sA, s0_, sS, i64_w, i32_w]
    rfl
  refine pure_ (i := 12) (N := some 45) (v := undef) (a' := ?_) #[T,T,T,T,T,T,T,T,T,T,T,T,T,F,F,F,F,F] rfl rfl (by kernel_rfl) (fun _ _ _ h => h) (Or.inr ⟨by rfl, rfl⟩) ?_ ?_
  rotate_left
  · simp only [Act.put, sA, s0_, sS, i64_w, i32_w]
    rfl
  refine pure_ (i := 13) (N := some 46) (v := undef) (a' := ?_) #[T,T,T,T,T,T,T,T,T,T,T,T,T,T,F,F,F,F] rfl rfl (by kernel_rfl) (fun _ _ _ h => h) (Or.inr ⟨by rfl, rfl⟩) ?_ ?_
  rotate_left
  · simp only [Act.put, sA, s0_, sS, i64_w, i32_w]
    rfl
  refine pure_ (i := 14) (N := some 47) (v := undef) (a' := ?_) #[T,T,T,T,T,T,T,T,T,T,T,T,T,T,T,F,F,F] rfl rfl (by kernel_rfl) (fun _ _ _ h => h) (Or.inr ⟨by rfl, rfl⟩) ?_ ?_
  rotate_left
  · simp only [Act.put, sA, s0_, sS, i64_w, i32_w]
    rfl
  refine pure_ (i := 15) (N := some 48) (v := undef) (a' := ?_) #[T,T,T,T,T,T,T,T,T,T,T,T,T,T,T,T,F,F] rfl rfl (by kernel_rfl) (fun _ _ _ h => h) (Or.inr ⟨by rfl, rfl⟩) ?_ ?_
  rotate_left
  · simp only [Act.put, sA, s0_, sS, i64_w, i32_w]
    rfl
  refine pure_ (i := 16) (N := some 49) (v := undef) (a' := ?_) #[T,T,T,T,T,T,T,T,T,T,T,T,T,T,T,T,T,F] rfl rfl (by kernel_rfl) (fun _ _ _ h => h) (Or.inr ⟨by rfl, rfl⟩) ?_ ?_
  rotate_left
  · simp only [Act.put, sA, s0_, sS, i64_w, i32_w]
    rfl
  refine pure_ (i := 17) (N := some 50) (v := ?_) (a' := ?_) #[T,T,T,T,T,T,T,T,T,T,T,T,T,T,T,T,T,T] rfl rfl (by kernel_rfl) (fun _ _ _ h => h) (Or.inl ⟨by rfl, ?_⟩) ?_ ?_
  rotate_left
  · intro w'
    go_simp
    with_reducible rfl
  rotate_left
  · simp only [Act.put, sA, s0_, sS, i64_w, i32_w]
    rfl
  refine done_ (by kernel_rfl) ?_
  go_upto_region 9 with (fail)
  have B4' := Aside0.mk (B4.out.trans (BD.out.mono B4.out.size))
  clear B4 BD
  go_upto_region 10 with (at_builtin; refine Kd.R_append_rows (Kd.int .u8) (w0 := wd) wd.heap.size rfl (.tmp 51) (.tmp 52) 24 5 (.int .u8 0) 1 rfl Try.underlying24 info5 rfl (by decide) (by decide) (.slice (some ⟨wd.heap.size, 0, none⟩) 0 0) [] l A n c (fun k => wd.heap.size ≤ k) (fun _ => False) rfl rfl (made0 _ _ wd) (Kd.C_below HC.out.1 ((BX.out.trans (B4'.out.mono BX.out.size)).alloc (BX.out.trans (B4'.out.mono BX.out.size)).size _)) (fun x cs h => h) (fun k h => h.elim) (fun k h => by simp at h; omega) (below_alloc (Below.refl _ _) _) (by simp) (by simpa using hl) ?_; intro v5 w5 hR5 hb5 hg5 hat5; obtain ⟨A5, c5, e5⟩ := Kd.R_slice hR5; rw [List.nil_append, HN.out] at e5; rw [List.nil_append] at hR5; subst e5; have R5 := Aside0.mk hR5; have B5 := Aside0.mk (B4'.out.trans (hb5.mono B4'.out.size)); obtain ⟨c0, c1, c2, c3⟩ := GC.out _ B5.out; clear hR5 hb5 hg5 hat5)
  have KS := Aside0.mk (fun (w' : World) (hb : Below w5.heap.size w5 w') => same_arg R5.out hb HC.out.1 HC.out.2 (BX.out.trans ((B5.out.trans (hb.mono B5.out.size)).mono BX.out.size)) HN.out hl)
  go_upto_region 11 with (go_at_call 17; refine (KL.out _ _ _ _).mono ?_; rintro e w6 ⟨rfl, hb6⟩; have B6 := Aside0.mk hb6; clear c0 c1 c2 c3; obtain ⟨c0, c1, c2, c3⟩ := GC.out _ (B5.out.trans (hb6.mono B5.out.size)); clear hb6)
  go_wp2_with (first
    | (go_at_call 18; refine (KE.out _ _ _ _).mono ?_; rintro e w7 ⟨rfl, hb7⟩; have B7 := Aside0.mk (B6.out.trans (hb7.mono B6.out.size)); clear hb7)
    | (go_at_call 14; refine (KS.out _ B7.out).mono ?_; rintro e w8 ⟨rfl, hd⟩; have B8 := Aside0.mk (B7.out.trans (hd.below.mono B7.out.size)); clear hd))
  go_ret
  have hall := B5.out.trans (B8.out.mono B5.out.size)
  refine ⟨rfl, ?_⟩
  exact BX.out.trans (hall.mono BX.out.size)
/-- Both devices. -/
def Pair (B : Nat) (f : Owner) (w : World) (db xb : Nat) (d x : Dv) : Prop := DevX B f w db d ∧ DocX B f w xb x ∧ db ≠ xb
theorem DocX.lt {B : Nat} {f : Owner} {w : World} {xb : Nat} {x : Dv} (h : DocX B f w xb x) : B ≤ w.heap.size ∧ xb < w.heap.size ∧ f xb = xb := h.size
theorem Pair.mv {B B' : Nat} {f f1 : Owner} {w w1 : World} {db xb : Nat} {d x : Dv} {o : Nat → Prop} (h : Pair B f w db xb d x) (m : Mv B' o f w f1 w1) (h1 : ¬ o db) (h2 : ¬ o xb) : Pair B f1 w1 db xb d x := ⟨h.1.mv m h1, h.2.1.mv m h2, h.2.2⟩
theorem Pair.below {B : Nat} {f : Owner} {w w1 : World} {db xb : Nat} {d x : Dv} (h : Pair B f w db xb d x) (hb : Below w.heap.size w w1) : Pair B f w1 db xb d x := ⟨h.1.below hb, h.2.1.below hb, h.2.2⟩
theorem pair_new {w w1 w2 : World} {d : Dv} {db xb im imc : Nat} {vu vf vw : Value} (B : Nat) (f : Owner) (hB : B ≤ w.heap.size) (h1 : Below w.heap.size w w1) (hdb : w.heap.size ≤ db) (ha : ∀ (B : Nat) (f : Owner), B ≤ w.heap.size → ∃ im imc vu vf vw, DevG B (owns f w.heap.size db) w1 db d im imc vu vf vw) (h2 : AllD w1 xb d im imc vu vf vw w2) :
    Pair B (owns (owns f w.heap.size db) w1.heap.size xb) w2 db xb d d := by
  have hx : DevX B (owns f w.heap.size db) w1 db d := ha B f hB
  refine ⟨hx.mv (Mv.of_below (B := B) (o := fun _ => False) h2.1 (Nat.le_trans hB h1.size) (fun k hk => owns_old _ _ _ k hk)) id, ⟨im, imc, vu, vf, vw, h2.2.2 B _ (Nat.le_trans hB h1.size)⟩, ?_⟩
  have := hx.size.2.1
  have := h2.2.1
  omega
theorem Only.mv {B g : Nat} {f : Owner} {w w1 : World} (h : Only B (some g) w w1) (hg : f g = g) : Mv B (· = g) f w f w1 :=
  ⟨h.below, fun k hk hn => h.keep k hk (fun e => hn (by injection e with e; rw [e]; exact hg)), fun _ _ => rfl⟩
theorem R_someg {w : World} {B n c : Nat} {ok : Nat → Prop} {A : Option Addr} {l : List Int} (h : (Kd.int .u8).R 5 w B ok (.slice A n c) l) (hn : 1 ≤ n) : ∃ g, A = some ⟨g, 0, none⟩ := by
  obtain ⟨_, hl, _⟩ := R_C h
  obtain ⟨_, hn | ⟨g, cap', cur, e, _⟩⟩ := Kd.own_of_R h
  · rw [hl] at hn; exact absurd hn.2 (by omega)
  · injection e with e1; exact ⟨g, e1⟩
set_option maxHeartbeats 8000000 in
set_option maxRecDepth 100000 in
theorem makes_yes (W : World) (p s r : Nat) (a : Int) (hk : Geo.Ok p s r a) {A : Option Addr} {c : Nat} {l : List Int} (hC : (Kd.int .u8).C W A l.length l) (hc : l.length ≤ c) (hl : l.length ≤ 140737488355328) (hy : ∀ y ∈ l, 0 ≤ y ∧ y < 256) :
    Calls Try.prog 3 #[.agg #[.int .i64 p, .int .i64 s, .int .i64 r, .int .i64 a], .slice A l.length c] W (Near W (.bool true)) := by
  have HY := Aside0.mk hy
  clear hy
  have q1 := some30
  have q2 := nesome30
  have q3 := some26
  have OK := Aside0.mk (fresh_ok hk)
  have KN := Aside0.mk (fun (w : World) => new_yes (w := w) hk)
  have KD := Aside0.mk (fun (w : World) => docnew_yes (w := w) hk)
  have KL := Aside0.mk (fun (w : World) (A : Option Addr) (c : Nat) (h : (Kd.int .u8).C w A l.length l) => load_walk (w := w) hk (c := c) h)
  have KE := Aside0.mk (fun (w : World) (A : Option Addr) (c : Nat) (h : (Kd.int .u8).C w A l.length l) => docload_yes (w := w) hk (c := c) h)
  have BX : Aside0 (Below W.heap.size W (W.alloc (.cells #[.int .i64 p, .int .i64 s, .int .i64 r, .int .i64 a] 23))) := ⟨below_alloc (Below.refl _ _) _⟩
  have bb := blk_new W (.cells #[.int .i64 p, .int .i64 s, .int .i64 r, .int .i64 a] 23)
  have HC := Aside0.mk (And.intro hC hc)
  obtain ⟨n, hn⟩ : ∃ n, l.length = n := ⟨_, rfl⟩
  have HN := Aside0.mk hn
  rw [hn] at HC hl KL KE
  rw [hn]
  have hm1 : 1 ≤ p * s * r := by
    have bd := Ok.bounds hk
    exact Nat.mul_pos (Nat.mul_pos (by omega) (by omega)) (by omega)
  obtain ⟨m, hm⟩ : ∃ m, p * s * r = m := ⟨_, rfl⟩
  have HM := Aside0.mk hm
  have HM1 := Aside0.mk hm1
  rw [hm] at KL KE
  have HLB : Aside0 ((Dv.fresh p s r a).b.length = m ∧ m ≤ 1048576 ∧ (Dv.fresh p s r a).un = []) := ⟨by rw [← hm]; exact List.length_replicate .., by have h := OK.out.sz; rw [← hm]; exact h, rfl⟩
  have HLO : Aside0 (n = m → (∀ y ∈ l, 0 ≤ y ∧ y < 256) → ({ Dv.fresh p s r a with b := l } : Dv).Ok) := ⟨fun e hy => by
    have o := OK.out
    exact ⟨o.p1, o.p2, o.s1, o.s2, o.r1, o.r2, o.sz, by show l.length = p * s * r; omega, hy, o.wl, o.unr, o.flk, o.fll⟩⟩
  obtain ⟨d0, hd0⟩ : ∃ d0, Dv.fresh p s r a = d0 := ⟨_, rfl⟩
  rw [hd0] at OK KN KD HLB
  clear hC hc hn hk hm hm1
  go_enter Try.func3, Try.ntmps3
  go_upto_region 1 with (fail)
  generalize hw1 : W.alloc (.cells #[.int .i64 p, .int .i64 s, .int .i64 r, .int .i64 a] 23) = w1 at bb BX ⊢
  clear hw1
  obtain ⟨bx, hbx⟩ : ∃ bx, W.heap.size = bx := ⟨_, rfl⟩
  have HBX := Aside0.mk hbx
  rw [hbx] at bb
  rw [hbx]
  have GC := Aside0.mk (fun (w' : World) (hb : Below w1.heap.size w1 w') => (show w'.cell? ⟨bx, 0, none⟩ = some (.int .i64 p) ∧ w'.cell? ⟨bx, 1, none⟩ = some (.int .i64 s) ∧ w'.cell? ⟨bx, 2, none⟩ = some (.int .i64 r) ∧ w'.cell? ⟨bx, 3, none⟩ = some (.int .i64 a) from ⟨blk_cell (blk_below bb hb) 0, blk_cell (blk_below bb hb) 1, blk_cell (blk_below bb hb) 2, blk_cell (blk_below bb hb) 3⟩))
  clear bb hbx
  go_upto_region 7 with (first
    | (go_at_call 11; refine (lives_walk _).mono ?_; rintro e w2 ⟨rfl, hb2⟩; have B2 := Aside0.mk hb2; obtain ⟨c0, c1, c2, c3⟩ := GC.out _ hb2; clear hb2)
    | (go_at_call 12; refine (KN.out _).mono ?_; rintro e w3 ⟨hb3, db, rfl, hdb, hall⟩; have B3 := Aside0.mk hb3; have HD3 := Aside0.mk hall; have LD3 := Aside0.mk hdb; clear hb3 hall hdb c0 c1 c2 c3; obtain ⟨c0, c1, c2, c3⟩ := GC.out _ (B2.out.trans (B3.out.mono B2.out.size)))
    | (go_at_call 13; refine (KD.out _).mono ?_; rintro e w4 ⟨xb, xi, xc, xu, xf, xw, rfl, hall⟩; have HD4 := Aside0.mk hall; clear hall c0 c1 c2 c3))
  have B4 := Aside0.mk ((B2.out.trans (B3.out.mono B2.out.size)).trans (HD4.out.1.mono (Nat.le_trans B2.out.size B3.out.size)))
  have PR : Aside0 (Pair W.heap.size (owns (owns (fun k => k) w2.heap.size db) w3.heap.size xb) w4 db xb d0 d0) := ⟨pair_new _ _ (Nat.le_trans BX.out.size B2.out.size) B3.out LD3.out HD3.out HD4.out⟩
  have x4 : w4.cell? ⟨xb, 4, none⟩ = some (.slice (some ⟨xi, 0, none⟩) m xc) := by
    have h := (HD4.out.2.2 0 (fun k => k) (Nat.zero_le _)).at_ 4
    rw [HLB.out.1] at h
    exact h
  have KI := Aside0.mk (fun (w' : World) (hb : Below w4.heap.size w4 w') => image_walk (PR.out.1.below hb) OK.out)
  have KU := Aside0.mk (fun (w' : World) (hb : Below w4.heap.size w4 w') => unsynced_walk (PR.out.1.below hb) OK.out (by rw [HLB.out.2.2]; decide))
  have KX := Aside0.mk (fun (w' : World) (hb : Below w4.heap.size w4 w') => (show (Kd.int .u8).C w' (some ⟨xi, 0, none⟩) m d0.b ∧ m ≤ xc from by
    have hi := (HD4.out.2.2 0 (fun k => k) (Nat.zero_le _)).img.below hb
    have h := hi.cut 0 m (by rw [HLB.out.1]; omega) (by rw [HLB.out.1]; exact Nat.le_trans HLB.out.2.1 (by decide))
    have e : cutOf d0.b 0 m = d0.b := by unfold cutOf; rw [List.drop_zero, ← HLB.out.1, List.take_length]
    rw [e] at h
    obtain ⟨cs, _, hcap, _, _⟩ := hi
    exact ⟨h, by rw [← HLB.out.1]; exact hcap⟩))
  clear B2 B3 HD3 LD3 HD4
  refine start_ (n := 18) (S := fun w' => w'.cell? ⟨xb, 4, none⟩ = some (.slice (some ⟨xi, 0, none⟩) m xc)) (ds := []) #[F,F,F,F,F,F,F,F,F,F,F,F,F,F,F,F,F,F] (by kernel_rfl) rfl rfl (x4) (fun hHeld => ?_)
  generalize hwd : w4.drew = wd at hHeld ⊢
  have BD : Aside0 (Below w4.heap.size w4 wd) := ⟨by rw [← hwd]; exact below_drew (Below.refl _ _)⟩
  clear hwd
  refine pure_ (i := 0) (N := some 33) (v := ?_) (a' := ?_) #[T,F,F,F,F,F,F,F,F,F,F,F,F,F,F,F,F,F] rfl rfl (by kernel_rfl) (fun _ _ _ h => h) (Or.inl ⟨by rfl, ?_⟩) ?_ ?_
  rotate_left
  · intro w'
    go_simp
    with_reducible rfl
  rotate_left
  · simp only [Act.put, sA, s0_, sS, i64_w, i32_w]
    rfl
  refine pure_ (i := 1) (N := some 34) (v := ?_) (a' := ?_) #[T,T,F,F,F,F,F,F,F,F,F,F,F,F,F,F,F,F] rfl rfl (by kernel_rfl) (fun _ _ _ h => h) (Or.inl ⟨by rfl, ?_⟩) ?_ ?_
  rotate_left
  · intro w'
    go_simp
    with_reducible rfl
  rotate_left
  · simp only [Act.put, sA, s0_, sS, i64_w, i32_w]
    rfl
  refine pure_ (i := 2) (N := some 35) (v := ?_) (a' := ?_) #[T,T,T,F,F,F,F,F,F,F,F,F,F,F,F,F,F,F] rfl rfl (by kernel_rfl) (fun _ _ _ h => h) (Or.inl ⟨by rfl, ?_⟩) ?_ ?_
  rotate_left
  · intro w'
    go_simp
    with_reducible rfl
  rotate_left
  · simp only [Act.put, sA, s0_, sS, i64_w, i32_w]
    rfl
  refine pure_ (i := 3) (N := some 36) (v := ?_) (a' := ?_) #[T,T,T,T,F,F,F,F,F,F,F,F,F,F,F,F,F,F] rfl rfl (by kernel_rfl) (fun _ _ _ h => h) (Or.inl ⟨by rfl, ?_⟩) ?_ ?_
  rotate_left
  · intro w'
    go_simp
    with_reducible rfl
  rotate_left
  · simp only [Act.put, sA, s0_, sS, i64_w, i32_w]
    rfl
  refine pure_ (i := 5) (N := some 38) (v := ?_) (a' := ?_) #[T,T,T,T,F,T,F,F,F,F,F,F,F,F,F,F,F,F] rfl rfl (by kernel_rfl) (fun _ _ _ h => h) (Or.inl ⟨by rfl, ?_⟩) ?_ ?_
  rotate_left
  · intro w'
    go_simp
    with_reducible rfl
  rotate_left
  · simp only [Act.put, sA, s0_, sS, i64_w, i32_w]
    rfl
  refine pure_ (i := 6) (N := some 39) (v := ?_) (a' := ?_) #[T,T,T,T,F,T,T,F,F,F,F,F,F,F,F,F,F,F] rfl rfl (by kernel_rfl) (fun _ _ _ h => h) (Or.inl ⟨by rfl, ?_⟩) ?_ ?_
  rotate_left
  · intro w'
    go_simp
    with_reducible rfl
  rotate_left
  · simp only [Act.put, sA, s0_, sS, i64_w, i32_w]
    rfl
  refine pure_ (i := 7) (N := some 40) (v := ?_) (a' := ?_) #[T,T,T,T,F,T,T,T,F,F,F,F,F,F,F,F,F,F] rfl rfl (by kernel_rfl) (fun _ _ _ h => h) (Or.inl ⟨by rfl, ?_⟩) ?_ ?_
  rotate_left
  · intro w'
    go_simp
    with_reducible rfl
  rotate_left
  · simp only [Act.put, sA, s0_, sS, i64_w, i32_w]
    rfl
  refine take_ (i := 8) (N := some 41) (v := ?_) (a' := ?_) #[T,T,T,T,F,T,T,T,T,F,F,F,F,F,F,F,F,F] rfl rfl (by kernel_rfl) (fun _ _ _ h => h) (Or.inl ⟨by rfl, ?_⟩) hHeld ?_ ?_
  rotate_left
  · intro w' s0
    go_simp
    with_reducible rfl
  rotate_left
  · simp only [Act.put, sA, s0_, sS, i64_w, i32_w]
    rfl
  refine one_ (i := 4) (N := some 37) #[T,T,T,T,T,T,T,T,T,F,F,F,F,F,F,F,F,F] rfl rfl (by kernel_rfl) (by decide) (fun K hK => ?_)
  refine goes_ Try.func15 (by kernel_rfl) rfl #[.pointer (some ⟨db, 0, none⟩)] (by rfl) rfl rfl (by (try simp only [List.map_toArray, List.map_cons, List.map_nil]); first | done | rfl) ?_
  with_reducible refine (KI.out wd BD.out).mono ?_
  rintro e w5 ⟨v5, rfl, hR5, hb5⟩
  refine ⟨_, rfl, ?_⟩
  obtain ⟨A5, c5, e5⟩ := Kd.R_slice hR5
  rw [HLB.out.1] at e5
  subst e5
  have R5 := Aside0.mk hR5
  have B5 := Aside0.mk (BD.out.trans (hb5.mono BD.out.size))
  clear hR5 hb5
  refine hK.out _ _ (by exact pw_cell_below B5.out x4) (fun hHeld => ?_)
  clear hK K
  refine norm_ (a' := ?_) ?_ ?_
  rotate_left
  · show Act.put _ (some 37) _ = _
    simp only [Act.put, sA, s0_, sS, i64_w, i32_w]
    rfl
  refine one_ (i := 9) (N := some 42) #[T,T,T,T,T,T,T,T,T,T,F,F,F,F,F,F,F,F] rfl rfl (by kernel_rfl) (by decide) (fun K hK => ?_)
  refine goes_ Try.func14 (by kernel_rfl) rfl #[.slice A5 m c5, .slice (some ⟨xi, 0, none⟩) m xc] (by rfl) rfl rfl (by (try simp only [List.map_toArray, List.map_cons, List.map_nil]); first | done | rfl) ?_
  with_reducible refine (same_arg R5.out (Below.refl _ _) (KX.out w5 B5.out).1 (KX.out w5 B5.out).2 (Below.refl _ _) HLB.out.1 (Nat.le_trans HLB.out.2.1 (by decide))).mono ?_
  rintro e w6 ⟨rfl, hd6⟩
  refine ⟨_, rfl, ?_⟩
  have B6 := Aside0.mk (B5.out.trans (hd6.below.mono B5.out.size))
  clear hd6
  refine hK.out _ _ (by exact pw_cell_below B6.out x4) (fun hHeld => ?_)
  clear hK K
  refine norm_ (a' := ?_) ?_ ?_
  rotate_left
  · show Act.put _ (some 42) _ = _
    simp only [Act.put, sA, s0_, sS, i64_w, i32_w]
    rfl
  refine pure_ (i := 10) (N := some 43) (v := ?_) (a' := ?_) #[T,T,T,T,T,T,T,T,T,T,T,F,F,F,F,F,F,F] rfl rfl (by kernel_rfl) (fun _ _ _ h => h) (Or.inl ⟨by rfl, ?_⟩) ?_ ?_
  rotate_left
  · intro w'
    go_simp
    with_reducible rfl
  rotate_left
  · simp only [Act.put, sA, s0_, sS, i64_w, i32_w]
    rfl
  refine pure_ (i := 11) (N := some 44) (v := ?_) (a' := ?_) #[T,T,T,T,T,T,T,T,T,T,T,T,F,F,F,F,F,F] rfl rfl (by kernel_rfl) (fun _ _ _ h => h) (Or.inl ⟨by rfl, ?_⟩) ?_ ?_
  rotate_left
  · intro w'
    go_simp
    with_reducible rfl
  rotate_left
  · simp only [Act.put, sA, s0_, sS, i64_w, i32_w]
    rfl
  refine pure_ (i := 12) (N := some 45) (v := ?_) (a' := ?_) #[T,T,T,T,T,T,T,T,T,T,T,T,T,F,F,F,F,F] rfl rfl (by kernel_rfl) (fun _ _ _ h => h) (Or.inl ⟨by rfl, ?_⟩) ?_ ?_
  rotate_left
  · intro w'
    go_simp
    with_reducible rfl
  rotate_left
  · simp only [Act.put, sA, s0_, sS, i64_w, i32_w]
    rfl
  refine one_ (i := 13) (N := some 46) #[T,T,T,T,T,T,T,T,T,T,T,T,T,T,F,F,F,F] rfl rfl (by kernel_rfl) (by decide) (fun K hK => ?_)
  refine goes_ Try.func16 (by kernel_rfl) rfl #[.pointer (some ⟨db, 0, none⟩)] (by rfl) rfl rfl (by (try simp only [List.map_toArray, List.map_cons, List.map_nil]); first | done | rfl) ?_
  with_reducible refine (KU.out w6 B6.out).mono ?_
  rintro e w7 ⟨v7, rfl, hR7, hb7⟩
  refine ⟨_, rfl, ?_⟩
  obtain ⟨A7, c7, e7⟩ := Kd.R_slice hR7
  rw [HLB.out.2.2] at e7
  subst e7
  have B7 := Aside0.mk (B6.out.trans (hb7.mono B6.out.size))
  clear hR7 hb7
  refine hK.out _ _ (by exact pw_cell_below B7.out x4) (fun hHeld => ?_)
  clear hK K
  refine norm_ (a' := ?_) ?_ ?_
  rotate_left
  · show Act.put _ (some 46) _ = _
    simp only [Act.put, sA, s0_, sS, i64_w, i32_w]
    rfl
  refine pure_ (i := 14) (N := some 47) (v := ?_) (a' := ?_) #[T,T,T,T,T,T,T,T,T,T,T,T,T,T,T,F,F,F] rfl rfl (by kernel_rfl) (fun _ _ _ h => h) (Or.inl ⟨by rfl, ?_⟩) ?_ ?_
  rotate_left
  · intro w'
    go_simp
    with_reducible rfl
  rotate_left
  · simp only [Act.put, sA, s0_, sS, i64_w, i32_w]
    rfl
  refine pure_ (i := 15) (N := some 48) (v := ?_) (a' := ?_) #[T,T,T,T,T,T,T,T,T,T,T,T,T,T,T,T,F,F] rfl rfl (by kernel_rfl) (fun _ _ _ h => h) (Or.inl ⟨by rfl, ?_⟩) ?_ ?_
  rotate_left
  · intro w'
    go_simp
    with_reducible rfl
  rotate_left
  · simp only [Act.put, sA, s0_, sS, i64_w, i32_w]
    rfl
  refine pure_ (i := 16) (N := some 49) (v := ?_) (a' := ?_) #[T,T,T,T,T,T,T,T,T,T,T,T,T,T,T,T,T,F] rfl rfl (by kernel_rfl) (fun _ _ _ h => h) (Or.inl ⟨by rfl, ?_⟩) ?_ ?_
  rotate_left
  · intro w'
    go_simp
    with_reducible rfl
  rotate_left
  · simp only [Act.put, sA, s0_, sS, i64_w, i32_w]
    rfl
  refine pure_ (i := 17) (N := some 50) (v := ?_) (a' := ?_) #[T,T,T,T,T,T,T,T,T,T,T,T,T,T,T,T,T,T] rfl rfl (by kernel_rfl) (fun _ _ _ h => h) (Or.inl ⟨by rfl, ?_⟩) ?_ ?_
  rotate_left
  · intro w'
    go_simp
    with_reducible rfl
  rotate_left
  · simp only [Act.put, sA, s0_, sS, i64_w, i32_w]
    rfl
  refine done_ (by kernel_rfl) ?_
  have e0 : (([] : List Int).length : Int) = 0 := rfl
  go_upto_region 9 with (fail)
  clear KI KU KX R5 B5 B6 BD PR OK KN KD q2
  have B7' := Aside0.mk (B4.out.trans (B7.out.mono B4.out.size))
  clear B4 B7 hHeld x4
  go_upto_region 10 with (at_builtin; refine Kd.R_append_rows (Kd.int .u8) (w0 := w7) w7.heap.size rfl (.tmp 51) (.tmp 52) 24 5 (.int .u8 0) 1 rfl Try.underlying24 info5 rfl (by decide) (by decide) (.slice (some ⟨w7.heap.size, 0, none⟩) 0 0) [] l A n c (fun k => w7.heap.size ≤ k) (fun _ => False) rfl rfl (made0 _ _ w7) (Kd.C_below HC.out.1 ((BX.out.trans (B7'.out.mono BX.out.size)).alloc (BX.out.trans (B7'.out.mono BX.out.size)).size _)) (fun x cs h => h) (fun k h => h.elim) (fun k h => by simp at h; omega) (below_alloc (Below.refl _ _) _) (by simp) (by simpa using hl) ?_; intro v8 w8 hR8 hb8 hg8 hat8; obtain ⟨A8, c8, e8⟩ := Kd.R_slice hR8; rw [List.nil_append, HN.out] at e8; rw [List.nil_append] at hR8; subst e8; have R8 := Aside0.mk hR8; have B8 := Aside0.mk (B7'.out.trans (hb8.mono B7'.out.size)); obtain ⟨c0, c1, c2, c3⟩ := GC.out _ B8.out; clear hR8 hb8 hg8 hat8)
  have KS := Aside0.mk (fun (w' : World) (hb : Below w8.heap.size w8 w') => same_arg R8.out hb HC.out.1 HC.out.2 (BX.out.trans ((B8.out.trans (hb.mono B8.out.size)).mono BX.out.size)) HN.out hl)
  have KL8 := Aside0.mk (KL.out w8 A8 c8 (R_C R8.out).1)
  have KE8 := Aside0.mk (fun (w' : World) (hb : Below w8.heap.size w8 w') => KE.out w' A c (Kd.C_below HC.out.1 (BX.out.trans ((B8.out.trans (hb.mono B8.out.size)).mono BX.out.size))))
  clear KL KE
  by_cases hnm : n = m
  · have KL9 : Aside0 (Calls Try.prog 17 #[.agg #[.int .i64 p, .int .i64 s, .int .i64 r, .int .i64 a], .slice A8 n c8] w8 (NewSt w8 { Dv.fresh p s r a with b := l })) := ⟨KL8.out.mono (fun e w' h => by rw [if_pos hnm] at h; exact h)⟩
    have KE9 : Aside0 (∀ w', Below w8.heap.size w8 w' → Calls Try.prog 18 #[.agg #[.int .i64 p, .int .i64 s, .int .i64 r, .int .i64 a], .slice A n c] w' (NewD w' { Dv.fresh p s r a with b := l })) := ⟨fun w' hb => (KE8.out w' hb).mono (fun e w'' h => by rw [if_pos hnm] at h; exact h)⟩
    have OKL := Aside0.mk (HLO.out hnm HY.out)
    have HDU : Aside0 (({ Dv.fresh p s r a with b := l } : Dv).b = l ∧ ({ Dv.fresh p s r a with b := l } : Dv).un = []) := ⟨rfl, rfl⟩
    obtain ⟨dl, hdl⟩ : ∃ dl : Dv, { Dv.fresh p s r a with b := l } = dl := ⟨_, rfl⟩
    rw [hdl] at KL9 KE9 OKL HDU
    have hn1 : 1 ≤ n := by have := HM1.out; rw [HM.out] at this; omega
    obtain ⟨go, hgo⟩ := R_someg R8.out hn1
    subst hgo
    have hgo8 := (Kd.R_bound R8.out).1 go rfl
    have G8 : Aside0 (w7.heap.size ≤ go ∧ go < w8.heap.size) := ⟨⟨hgo8.1, hgo8.2.2.1⟩⟩
    clear KL8 KE8 hgo8 hdl HLO hnm
    go_upto_region 12 with (first
      | (go_at_call 17; refine KL9.out.mono ?_; rintro e w9 ⟨hb9, d2, rfl, hd2, hall9⟩; have B9 := Aside0.mk hb9; have HD9 := Aside0.mk hall9; have LD9 := Aside0.mk hd2; clear c0 c1 c2 c3 hall9 hd2; obtain ⟨c0, c1, c2, c3⟩ := GC.out _ (B8.out.trans (hb9.mono B8.out.size)); clear hb9)
      | (go_at_call 18; refine (KE9.out _ B9.out).mono ?_; rintro e w10 ⟨x2, xi, xc, xu, xf, xw, rfl, hall⟩; have HD10 := Aside0.mk hall; clear hall))
    have P10 : Aside0 (Pair w7.heap.size (owns (owns (fun k => k) w8.heap.size d2) w9.heap.size x2) w10 d2 x2 dl dl ∧ Below w8.heap.size w8 w10) := ⟨pair_new _ _ (Nat.le_of_lt (Nat.lt_of_le_of_lt G8.out.1 G8.out.2)) B9.out LD9.out HD9.out HD10.out, B9.out.trans (HD10.out.1.mono B9.out.size)⟩
    have G10 : Aside0 (owns (owns (fun k => k) w8.heap.size d2) w9.heap.size x2 go = go ∧ d2 ≠ go ∧ x2 ≠ go) := ⟨⟨by rw [owns_old _ _ _ go (Nat.lt_of_lt_of_le G8.out.2 B9.out.size), owns_old _ _ _ go G8.out.2], by have := G8.out.2; have := LD9.out; omega, by have := G8.out.2; have := B9.out.size; have := HD10.out.2.1; omega⟩⟩
    obtain ⟨f10, hf10⟩ : ∃ f10, owns (owns (fun k => k) w8.heap.size d2) w9.heap.size x2 = f10 := ⟨_, rfl⟩
    rw [hf10] at P10 G10
    clear c0 c1 c2 c3 KL9 KE9 LD9 HD9 HD10 B9 hf10 GC
    go_wp2_with (go_at_call 14; refine (KS.out _ P10.out.2).mono ?_; rintro e w11 ⟨rfl, hd⟩; have P11 := Aside0.mk (And.intro (P10.out.1.below hd.below) (P10.out.2.trans (hd.below.mono P10.out.2.size))); have R11 : Aside0 ((Kd.int .u8).R 5 w11 w7.heap.size (fun k => w7.heap.size ≤ k) (.slice (some ⟨go, 0, none⟩) n c8) l) := ⟨Kd.R_below (Kd.R_below R8.out P10.out.2) hd.below⟩; clear hd)
    clear KS
    go_loopw [10] (fun v wr => ∃ i : Nat, i ≤ n ∧ v = .int .i64 (i : Int) ∧ Aside0 (∃ ys, (Kd.int .u8).R 5 wr w7.heap.size (fun k => w7.heap.size ≤ k) (.slice (some ⟨go, 0, none⟩) n c8) ys ∧ Only w7.heap.size (some go) w11 wr)) (fun v _ => n - (intOf v).toNat)
    case atStart => exact ⟨0, Nat.zero_le _, rfl, ⟨l, R11.out, Only.refl _ _ _⟩⟩
    case round =>
      obtain ⟨i, hi, rfl, S⟩ := hrel
      obtain ⟨ys, hR, hO⟩ := S.out
      by_cases hlt : i < n
      · have m0 : (0 : Int) ≤ (i : Int) := by omega
        have m1 : (i : Int) < (n : Int) := by omega
        have g2 : decide ((i : Int) < (n : Int)) = true := decide_eq_true m1
        obtain ⟨k0, k1⟩ := Kd.R_celln (0 : Int) hR (i : Int) m0 m1
        rw [Int.toNat_natCast] at k0 k1
        obtain ⟨y, hy⟩ : ∃ y, rdOf (0 : Int) ys (i : Int) = y := ⟨_, rfl⟩
        rw [hy] at k0
        have LT := Aside0.mk hlt
        have SR := Aside0.mk hR
        have SO := Aside0.mk hO
        clear hR hO hy S
        go_wp2
        go_roundw
        case rel => exact ⟨i + 1, LT.out, by congr 1 <;> simp, ⟨_, by
          have h := Kd.R_putn SR.out (i : Int) (IntKind.u8.wrap (y + 1))
          rw [Int.toNat_natCast] at h
          exact h, SO.out.trans (Only.set _ G8.out.1 i _)⟩⟩
        case measure =>
          have := LT.out
          simp [intOf]
          omega
      · have g2 : decide ((i : Int) < (n : Int)) = false := decide_eq_false (by omega)
        have hmv := hO.mv (f := f10) G10.out.1
        have PW := Aside0.mk (P11.out.1.mv hmv G10.out.2.1 G10.out.2.2)
        have BW := Aside0.mk (B8.out.trans ((P11.out.2.mono B8.out.size).trans (hO.below.mono (Nat.le_trans B7'.out.size (Nat.le_refl _)))))
        clear hR hO hmv S P10 P11 R11 G10
        have KI := Aside0.mk (fun (w' : World) (hb : Below wr.heap.size wr w') => image_walk (PW.out.1.below hb) OKL.out)
        have KU := Aside0.mk (fun (w' : World) (hb : Below wr.heap.size wr w') => unsynced_walk (PW.out.1.below hb) OKL.out (by rw [HDU.out.2]; decide))
        have KC := Aside0.mk (fun (w' : World) (hb : Below wr.heap.size wr w') => counts_walk (PW.out.1.below hb) OKL.out)
        have KD := Aside0.mk (fun (w' : World) (hb : Below wr.heap.size wr w') => doccounts_walk (PW.out.2.1.below hb) OKL.out)
        have KS := Aside0.mk (fun (w5 w' : World) (B' c5 : Nat) (A5 : Option Addr) (h5 : (Kd.int .u8).R 5 w5 B' (fun k => B' ≤ k) (.slice A5 n c5) l) (hb : Below w5.heap.size w5 w') (hbl : Below wr.heap.size wr w') => same_arg h5 hb HC.out.1 HC.out.2 (BX.out.trans ((BW.out.trans (hbl.mono BW.out.size)).mono BX.out.size)) HN.out hl)
        have HW : Aside0 (dl.wear.length < 4611686018427387904) := ⟨by have := OKL.out.wl; have := OKL.out.r2; omega⟩
        go_wp2_with (first
          | (go_at_call 15; refine (KI.out _ (Below.refl _ _)).mono ?_; rintro e w12 ⟨v12, rfl, hR12, hb12⟩; obtain ⟨A12, c12, e12⟩ := Kd.R_slice hR12; rw [HDU.out.1] at e12 hR12; rw [HN.out] at e12; subst e12; have R12 := Aside0.mk hR12; have B12 := Aside0.mk hb12; clear hR12 hb12)
          | (go_at_call 14; refine (KS.out _ _ _ _ _ R12.out (Below.refl _ _) B12.out).mono ?_; rintro e w13 ⟨rfl, hd⟩; have B13 := Aside0.mk (B12.out.trans (hd.below.mono B12.out.size)); clear hd)
          | (go_at_call 16; refine (KU.out _ B13.out).mono ?_; rintro e w14 ⟨v14, rfl, hR14, hb14⟩; obtain ⟨A14, c14, e14⟩ := Kd.R_slice hR14; rw [HDU.out.2] at e14; subst e14; have B14 := Aside0.mk (B13.out.trans (hb14.mono B13.out.size)); clear hR14 hb14)
          | (go_at_call 20; refine (KC.out _ B14.out).mono ?_; rintro e w15 ⟨v15, rfl, hb15, hR15⟩; obtain ⟨A15, c15, e15⟩ := Kd.R_slice hR15; subst e15; have R15 := Aside0.mk hR15; have B15 := Aside0.mk (B14.out.trans (hb15.mono B14.out.size)); clear hR15 hb15)
          | (go_at_call 21; refine (KD.out _ B15.out).mono ?_; rintro e w16 ⟨v16, rfl, hb16, hR16⟩; obtain ⟨A16, c16, e16⟩ := Kd.R_slice hR16; subst e16; have R16 := Aside0.mk hR16; have R15' := Aside0.mk (Kd.R_below R15.out hb16); have B16 := Aside0.mk (B15.out.trans (hb16.mono B15.out.size)); clear hR16 hb16)
          | (go_at_call 19; refine (sameCounts_walk (R_C R15'.out).1 (R_C R15'.out).2.2 (R_C R16.out).1 (R_C R16.out).2.2 HW.out).mono ?_; rintro e w17 ⟨rfl, hb17⟩; have B17 := Aside0.mk (B16.out.trans (hb17.mono B16.out.size)); clear hb17))
        go_ret
        have hall := BW.out.trans (B17.out.mono BW.out.size)
        exact ⟨rfl, BX.out.trans (hall.mono BX.out.size)⟩
  · have q4 := nil30
    have q5 := nil26'
    have KL9 : Aside0 (Calls Try.prog 17 #[.agg #[.int .i64 p, .int .i64 s, .int .i64 r, .int .i64 a], .slice A8 n c8] w8 (fun e w' => e = .returned (.tuple #[.pointer none, .int .i64 1]) ∧ Below w8.heap.size w8 w')) := ⟨KL8.out.mono (fun e w' h => by rw [if_neg hnm] at h; exact h)⟩
    have KE9 : Aside0 (∀ w', Below w8.heap.size w8 w' → Calls Try.prog 18 #[.agg #[.int .i64 p, .int .i64 s, .int .i64 r, .int .i64 a], .slice A n c] w' (fun e w'' => e = .returned (.tuple #[.pointer none, .int .i64 1]) ∧ Below w'.heap.size w' w'')) := ⟨fun w' hb => (KE8.out w' hb).mono (fun e w'' h => by rw [if_neg hnm] at h; exact h)⟩
    clear KL8 KE8 hnm q1 q3
    go_upto_region 11 with (go_at_call 17; refine KL9.out.mono ?_; rintro e w9 ⟨rfl, hb9⟩; have B9 := Aside0.mk hb9; clear c0 c1 c2 c3; obtain ⟨c0, c1, c2, c3⟩ := GC.out _ (B8.out.trans (hb9.mono B8.out.size)); clear hb9)
    go_wp2_with (first
      | (go_at_call 18; refine (KE9.out _ B9.out).mono ?_; rintro e w10 ⟨rfl, hb10⟩; have B10 := Aside0.mk (B9.out.trans (hb10.mono B9.out.size)); clear hb10)
      | (go_at_call 14; refine (KS.out _ B10.out).mono ?_; rintro e w11 ⟨rfl, hd⟩; have B11 := Aside0.mk (B10.out.trans (hd.below.mono B10.out.size)); clear hd))
    go_ret
    have hall := B8.out.trans (B11.out.mono B8.out.size)
    exact ⟨rfl, BX.out.trans (hall.mono BX.out.size)⟩
end Go.Proofs.Ytnkbebdgkidbjaa.Flash
namespace Go.Proofs.Ytnkbebdgkidbjaa.Main
open Go.Proofs.Ytnkbebdgkidbjaa.Flash Go.Proofs.Ytnkbebdgkidbjaa.QFlashPlays
open Go.RowKit Go.Proofs.YtnkbebdgkidbjaaW.PrintWords Go.Proofs.YtnkbebdgkidbjaaW.PrintLast Go.Proofs.YtnkbebdgkidbjaaW.PrintMore
set_option linter.unusedVariables false
set_option linter.unusedSimpArgs false
theorem FlashMakes (W : World) (a0_0 : Int) (a0_1 : Int) (a0_2 : Int) (a0_3 : Int) (A1 : Option Addr) (c1 : Nat) (l1 : List Int) (w0_0 : (Lit.int .i64 a0_0).wf = true) (w0_1 : (Lit.int .i64 a0_1).wf = true) (w0_2 : (Lit.int .i64 a0_2).wf = true) (w0_3 : (Lit.int .i64 a0_3).wf = true) (hC1 : Kd.C (Kd.int .u8) W A1 l1.length l1) (hc1 : l1.length ≤ c1) (hG1 : (fun l => l.length * 1 ≤ 140737488351232 ∧ l.length ≤ 9223372036854775807 ∧ ∀ x ∈ l, (fun x => (Lit.int .u8 x).wf = true) x) l1) :
    Calls Try.prog 3 #[.agg #[.int .i64 a0_0, .int .i64 a0_1, .int .i64 a0_2, .int .i64 a0_3], .slice A1 l1.length c1] W fun e w' => e = .returned (.bool true) ∧ Below W.heap.size W w' := by
  have hl : l1.length ≤ 140737488355328 := by have := hG1.1; omega
  have hy : ∀ y ∈ l1, 0 ≤ y ∧ y < 256 := fun y hy => wf_u8' (hG1.2.2 y hy)
  rcases chk_cases a0_0 a0_1 a0_2 a0_3 with ⟨ok, _⟩ | ⟨_, hk⟩
  · have bd := Ok.bounds ok
    obtain ⟨p, rfl⟩ : ∃ p : Nat, a0_0 = (p : Int) := ⟨a0_0.toNat, by omega⟩
    obtain ⟨s, rfl⟩ : ∃ s : Nat, a0_1 = (s : Int) := ⟨a0_1.toNat, by omega⟩
    obtain ⟨r, rfl⟩ : ∃ r : Nat, a0_2 = (r : Int) := ⟨a0_2.toNat, by omega⟩
    exact makes_yes W p s r a0_3 ok hC1 hc1 hl hy
  · exact makes_no W a0_0 a0_1 a0_2 a0_3 hk hC1 hc1 hl
end Go.Proofs.Ytnkbebdgkidbjaa.Main
