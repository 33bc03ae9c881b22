/- The law FlashOnce, walked by hand; and the call.
   No condition. -/
import Derived.Test.YtnkbebdgkidbjaaFlJ
import Derived.ArgAppend
import Derived.BigRegion
import Derived.Deep.QuietTactic
import Derived.BigQuiet
import Derived.Deep.RegionHeld3
import Derived.ChangeAlike
import Derived.RegionTactic
import Derived.Deep.DeepCutAuto
import Derived.Deep.CutBlock
import Derived.Deep.RegionLaw
import Derived.StillTailTactics
import Derived.WalkSpells
import Derived.Lib.SliceRun
import Derived.Laws.CopyRow
import Derived.Lib.SlBuf
import Derived.Lib.MakeNoZero
import Derived.Laws.BitsLemmas
import Derived.Lib.Bytes
import Derived.Lib.SlBytesConst
namespace Go.Proofs.Ytnkbebdgkidbjaa.Flash
open Go.Proofs.Ytnkbebdgkidbjaa.QFlashPlays
open Go.RowKit Go.Proofs.YtnkbebdgkidbjaaW.PrintWords Go.Proofs.YtnkbebdgkidbjaaW.PrintLast Go.Proofs.YtnkbebdgkidbjaaW.PrintMore
attribute [local go_sem] max2_int min2_int max_two min_two   -- for this text's walks alone
set_option linter.unusedVariables false
set_option linter.unusedSimpArgs false
/-! ### A page changes once between two erases -/
theorem op_b (d : Dv) (k : Nat) (act : Dv → Dv) : ((d.op k act).1.b = d.b ∨ (d.op k act).1.b = (act (d.count k)).b) := by
  unfold Dv.op
  split
  · exact .inr rfl
  · split
    · exact .inl rfl
    · exact .inr rfl
def Dv.geo (d d' : Dv) : Prop := d'.p = d.p ∧ d'.s = d.s ∧ d'.r = d.r ∧ d'.a = d.a
theorem Dv.geo_refl (d : Dv) : d.geo d := ⟨rfl, rfl, rfl, rfl⟩
theorem op_geo (d : Dv) (k : Nat) (act : Dv → Dv) (h : d.geo (act (d.count k))) : d.geo (d.op k act).1 := by
  unfold Dv.op
  split
  · exact h
  · split
    · exact d.geo_refl
    · exact h
theorem does_geo (d : Dv) (o : Op) : d.geo (d.does o).1 := by
  unfold Dv.does
  split
  · unfold Dv.program
    split
    · exact d.geo_refl
    · split
      · exact d.geo_refl
      · exact op_geo _ _ _ ⟨rfl, rfl, rfl, rfl⟩
  · split
    · unfold Dv.erase
      split
      · exact d.geo_refl
      · exact op_geo _ _ _ ⟨rfl, rfl, rfl, rfl⟩
    · split
      · exact op_geo _ _ _ ⟨rfl, rfl, rfl, rfl⟩
      · split
        · unfold Dv.fail
          split <;> exact ⟨rfl, rfl, rfl, rfl⟩
        · exact d.geo_refl
theorem page_of {d d' : Dv} (hg : d.geo d') (hb : d'.b = d.b) (j : Nat) : d'.page j = d.page j := by
  unfold Dv.page
  rw [hb, hg.1]
theorem clean_of {d d' : Dv} {j : Nat} (h : d'.page j = d.page j) : d'.clean j = d.clean j := by
  unfold Dv.clean
  rw [h]
theorem pages_of {d d' : Dv} (hg : d.geo d') : d'.pages = d.pages := by
  unfold Dv.pages
  rw [hg.2.1, hg.2.2.1]
theorem page_far {d : Dv} (ok : d.Ok) {i m : Nat} {x : List Int} (hx : i + x.length ≤ d.b.length) {j : Nat} (hj : j < d.pages) (hf : j * d.p + d.p ≤ i ∨ i + x.length ≤ j * d.p) (d' : Dv) (hg : d.geo d') (hb : d'.b = putAt d.b i x) : d'.page j = d.page j := by
  have q := page_nums ok j hj
  unfold Dv.page
  rw [hb, hg.1]
  exact cut_put_far d.b x i (j * d.p) d.p hx (by rw [q.1]; exact q.2.1) hf
theorem mul_far {j n p : Nat} (h : j ≠ n) : j * p + p ≤ n * p ∨ n * p + p ≤ j * p := by
  rcases Nat.lt_or_ge j n with h1 | h1
  · left
    rw [← Nat.succ_mul]
    exact Nat.mul_le_mul_right _ h1
  · right
    rw [← Nat.succ_mul]
    exact Nat.mul_le_mul_right _ (by omega)
/-- A page that may be programmed is clean. -/
theorem next_clean {d : Dv} (ok : d.Ok) {n : Nat} (hn : n < d.pages) (h : ¬ (d.next ((n / d.s : Nat) : Int) < 0 ∨ (n : Int) < d.next ((n / d.s : Nat) : Int))) : d.clean n = true := by
  have hs : 0 < d.s := ok.s1
  have hg : n / d.s < d.r := Nat.div_lt_of_lt_mul hn
  have h2 := Nat.div_add_mod n d.s
  rw [Nat.mul_comm] at h2
  have h3 := Nat.mod_lt n hs
  obtain ⟨g, hgg⟩ : ∃ g, n / d.s = g := ⟨_, rfl⟩
  obtain ⟨m, hm⟩ : ∃ m, n % d.s = m := ⟨_, rfl⟩
  rw [hgg] at h h2 hg
  rw [hm] at h2 h3
  clear hgg hm
  have e : d.next (g : Int) = if d.nxt g = d.s then -1 else ((g * d.s + d.nxt g : Nat) : Int) := by
    unfold Dv.next
    rw [if_neg (by omega), Int.toNat_natCast]
  rw [e] at h
  by_cases h1 : d.nxt g = d.s
  · rw [if_pos h1] at h
    exact absurd (.inl (by decide)) h
  · rw [if_neg h1] at h
    obtain ⟨gs, hgs⟩ : ∃ gs, g * d.s = gs := ⟨_, rfl⟩
    rw [hgs] at h h2
    have h4 : d.nxt g ≤ m := by omega
    have h5 := lastD_clean (fun i => d.clean (g * d.s + i)) d.s m h4 h3
    have e2 : g * d.s + m = n := by rw [hgs]; exact h2
    rw [← e2]
    exact h5
def OnceInv (d : Dv) (T : List Int) : Prop := T.length = d.pages ∧ ∀ j : Nat, j < d.pages → rd T (j : Int) = 0 ∨ (rd T (j : Int) = 1 ∧ d.clean j = false)
theorem once_same {d d' : Dv} {T : List Int} (h : OnceInv d T) (hg : d.geo d') (hb : d'.b = d.b) (j : Nat) (hj : j < d.pages) : (if d.page j = d'.page j then rd T (j : Int) else rd T (j : Int) + 1) = 0 ∨ ((if d.page j = d'.page j then rd T (j : Int) else rd T (j : Int) + 1) = 1 ∧ d'.clean j = false) := by
  have hp := page_of hg hb j
  rw [if_pos hp.symm, clean_of hp]
  exact h.2 j hj
/-- A call that erases nothing. -/
theorem once_step {d : Dv} (ok : d.Ok) {T : List Int} (h : OnceInv d T) {o : Op} (ho : o.Fit) (he : ¬ (o.k = 3 ∧ 0 ≤ o.n ∧ o.n < (d.r : Int))) (j : Nat) (hj : j < d.pages) :
    (if d.page j = (d.does o).1.page j then rd T (j : Int) else rd T (j : Int) + 1) = 0 ∨ ((if d.page j = (d.does o).1.page j then rd T (j : Int) else rd T (j : Int) + 1) = 1 ∧ (d.does o).1.clean j = false) := by
  have hg := does_geo d o
  by_cases h1 : o.k = 1
  · have e : d.does o = d.program o.n o.x := by unfold Dv.does; exact if_pos h1
    rw [e] at hg ⊢
    by_cases h2 : o.n < 0 ∨ (d.pages : Int) ≤ o.n ∨ o.x.length ≠ d.p
    · have e2 : d.program o.n o.x = (d, 30) := by unfold Dv.program; exact if_pos h2
      rw [e2] at hg ⊢
      exact once_same h hg rfl j hj
    · by_cases h3 : d.next (o.n.toNat / d.s : Nat) < 0 ∨ o.n < d.next (o.n.toNat / d.s : Nat)
      · have e2 : d.program o.n o.x = (d, 31) := by unfold Dv.program; rw [if_neg h2, if_pos h3]
        rw [e2] at hg ⊢
        exact once_same h hg rfl j hj
      · have e2 : d.program o.n o.x = d.op 2 (Dv.lay o.x o.n.toNat) := by unfold Dv.program; rw [if_neg h2, if_neg h3]
        rw [e2] at hg ⊢
        rcases op_b d 2 (Dv.lay o.x o.n.toNat) with hb | hb
        · exact once_same h hg hb j hj
        · obtain ⟨n, hn⟩ : ∃ n : Nat, o.n = (n : Int) := ⟨o.n.toNat, by omega⟩
          have hnp : n < d.pages := by omega
          have hxl : o.x.length = d.p := by
            have := h2
            omega
          rw [hn, Int.toNat_natCast] at h3 hb hg ⊢
          have hcl := next_clean ok hnp h3
          have q := page_nums ok n hnp
          have hfit : n * d.p + o.x.length ≤ d.b.length := by rw [hxl, q.1]; exact q.2.1
          have hb' : (d.op 2 (Dv.lay o.x n)).1.b = putAt d.b (n * d.p) o.x := hb
          by_cases hjn : j = n
          · subst hjn
            have ht : rd T (j : Int) = 0 := by
              rcases h.2 j hj with h0 | h0
              · exact h0
              · rw [hcl] at h0; exact absurd h0.2 (by decide)
            have hpx : (d.op 2 (Dv.lay o.x j)).1.page j = o.x := by
              unfold Dv.page
              rw [hb', hg.1]
              have := cut_put_same d.b o.x (j * d.p) hfit
              rw [hxl] at this
              exact this
            rw [ht]
            by_cases hs : d.page j = (d.op 2 (Dv.lay o.x j)).1.page j
            · rw [if_pos hs]; exact .inl rfl
            · rw [if_neg hs]
              refine .inr ⟨rfl, ?_⟩
              unfold Dv.clean
              rw [hpx]
              rw [hpx] at hs
              cases hf : isFF o.x with
              | false => rfl
              | true =>
                have h5 := (isFF_iff _).1 hf
                have h6 := (isFF_iff _).1 hcl
                have hpl : (d.page j).length = d.p := cutOf_length d.b (j * d.p) d.p (by rw [q.1]; exact q.2.1)
                rw [hpl] at h6
                rw [hxl] at h5
                exact absurd (h6.trans h5.symm) hs
          · have hp := page_far ok (m := 0) hfit hj (by rw [hxl]; exact mul_far hjn) _ hg hb'
            rw [if_pos hp.symm, clean_of hp]
            exact h.2 j hj
  · have same : (d.does o).1.b = d.b := by
      unfold Dv.does
      rw [if_neg h1]
      split
      · next h3 =>
        unfold Dv.erase
        rw [if_pos (by have := he; omega)]
      · split
        · rcases op_b d 4 (fun d => { d with un := [] }) with hb | hb
          · exact hb
          · exact hb
        · split
          · unfold Dv.fail
            split <;> rfl
          · rfl
    exact once_same h hg same j hj
theorem rd_of {l : List Int} {j : Nat} {x : Int} (h : l[j]? = some x) : rd l (j : Int) = x := by
  unfold rd
  rw [Int.toNat_natCast, List.getD_eq_getElem?_getD, h]
  rfl
theorem rd_set (l : List Int) (i j : Nat) (x : Int) (hi : i < l.length) : rd (l.set i x) (j : Int) = if j = i then x else rd l (j : Int) := by
  unfold rd
  rw [Int.toNat_natCast, List.getD_eq_getElem?_getD, List.getD_eq_getElem?_getD, List.getElem?_set]
  by_cases h : i = j
  · subst h
    rw [if_pos rfl, if_pos hi, if_pos rfl]
    rfl
  · rw [if_neg h, if_neg (fun e => h e.symm)]
/-- A region is erased. -/
theorem once_erase {d : Dv} (ok : d.Ok) {T T' : List Int} (h : OnceInv d T) {g : Nat} (hg : g < d.r) (hl : T'.length = d.pages) (hT : ∀ j : Nat, j < d.pages → rd T' (j : Int) = if g * d.s ≤ j ∧ j < g * d.s + d.s then 0 else rd T (j : Int)) {o : Op} (hk : o.k = 3) (hn : o.n = (g : Int)) : OnceInv (d.does o).1 T' := by
  have hgeo := does_geo d o
  have e : d.does o = d.op 3 (Dv.wipe g) := by
    unfold Dv.does
    rw [if_neg (by omega), if_pos hk]
    unfold Dv.erase
    rw [if_neg (by omega), hn, Int.toNat_natCast]
  rw [e] at hgeo ⊢
  refine ⟨hl.trans (pages_of hgeo).symm, fun j hj => ?_⟩
  rw [pages_of hgeo] at hj
  rw [hT j hj]
  by_cases hin : g * d.s ≤ j ∧ j < g * d.s + d.s
  · rw [if_pos hin]; exact .inl rfl
  · rw [if_neg hin]
    have hp : (d.op 3 (Dv.wipe g)).1.page j = d.page j := by
      rcases op_b d 3 (Dv.wipe g) with hb | hb
      · exact page_of hgeo hb j
      · have hf := region_fits ok hg
        refine page_far ok (m := 0) (x := List.replicate (d.s * d.p) 255) (by rw [List.length_replicate]; exact hf) hj ?_ _ hgeo hb
        rw [List.length_replicate]
        rcases Nat.lt_or_ge j (g * d.s) with h1 | h1
        · left
          rw [← Nat.succ_mul]
          exact Nat.mul_le_mul_right _ h1
        · right
          show g * d.s * d.p + d.s * d.p ≤ j * d.p
          rw [← Nat.add_mul]
          exact Nat.mul_le_mul_right _ (by omega)
    rw [clean_of hp]
    exact h.2 j hj
/-! ### FlashOnce -/
set_option maxHeartbeats 4000000 in
set_option maxRecDepth 100000 in
theorem once_no (W : World) (p s r a : Int) (hk : chk p s r a = 20) {A : Option Addr} {n c : Nat} : Calls Try.prog 4 #[.agg #[.int .i64 p, .int .i64 s, .int .i64 r, .int .i64 a], .slice A n c] W (Near W (.bool true)) := by
  have q3 := nil26'
  have KN := Aside0.mk (fun (w : World) => new_no (w := w) hk)
  have BX : Aside0 (Below W.heap.size W (W.alloc (.cells #[.int .i64 p, .int .i64 s, .int .i64 r, .int .i64 a] 23))) := ⟨below_alloc (Below.refl _ _) _⟩
  have bb := blk_new W (.cells #[.int .i64 p, .int .i64 s, .int .i64 r, .int .i64 a] 23)
  clear hk
  go_enter Try.func4, Try.ntmps4
  go_upto_region 1 with (fail)
  generalize hw1 : W.alloc (.cells #[.int .i64 p, .int .i64 s, .int .i64 r, .int .i64 a] 23) = w1 at bb BX ⊢
  clear hw1
  obtain ⟨bx, hbx⟩ : ∃ bx, W.heap.size = bx := ⟨_, rfl⟩
  have HBX := Aside0.mk hbx
  rw [hbx] at bb
  rw [hbx]
  have GC := Aside0.mk (fun (w' : World) (hb : Below w1.heap.size w1 w') => (show w'.cell? ⟨bx, 0, none⟩ = some (.int .i64 p) ∧ w'.cell? ⟨bx, 1, none⟩ = some (.int .i64 s) ∧ w'.cell? ⟨bx, 2, none⟩ = some (.int .i64 r) ∧ w'.cell? ⟨bx, 3, none⟩ = some (.int .i64 a) from ⟨blk_cell (blk_below bb hb) 0, blk_cell (blk_below bb hb) 1, blk_cell (blk_below bb hb) 2, blk_cell (blk_below bb hb) 3⟩))
  clear bb hbx
  go_wp2_with (first
    | (go_at_call 11; refine (lives_walk _).mono ?_; rintro e w2 ⟨rfl, hb2⟩; have B2 := Aside0.mk hb2; obtain ⟨c0, c1, c2, c3⟩ := GC.out _ hb2; clear hb2)
    | (go_at_call 12; refine (KN.out _).mono ?_; rintro e w3 ⟨rfl, hb3⟩; have B3 := Aside0.mk (B2.out.trans (hb3.mono B2.out.size)); clear hb3))
  go_ret
  exact ⟨rfl, BX.out.trans (B3.out.mono BX.out.size)⟩
theorem Only.mv' {B g : Nat} {f : Owner} {w w1 : World} (h : Only B (some g) w w1) : Mv B (· = f g) f w f w1 :=
  ⟨h.below, fun k hk hn => h.keep k hk (fun e => hn (by injection e with e; rw [e])), fun _ _ => rfl⟩
theorem Only.blk {B g k t : Nat} {w w1 : World} {cs : Array Value} (h : Only B (some g) w w1) (hb : w.heap[k]? = some (.cells cs t (0, 0))) (hn : k ≠ g) : w1.heap[k]? = some (.cells cs t (0, 0)) := (h.keep k (blk_lt hb) (fun e => hn (by injection e))).trans hb
theorem open_row {w : World} {B L : Nat} {ok : Nat → Prop} {v : Value} {l : List Int} (h : (Kd.int .u8).R 5 w B ok v l) (hl : l.length = L) (h1 : 1 ≤ L) : ∃ g c, v = .slice (some ⟨g, 0, none⟩) L c := by
  obtain ⟨_, hn | ⟨g, cap', cur, e, _⟩⟩ := Kd.own_of_R h
  · rw [hl] at hn; exact absurd hn.2 (by omega)
  · rw [hl] at e; exact ⟨g, _, e⟩
/-- A page cut out of two images. -/
theorem cut_nums {pg p L q : Nat} (hL : pg * p = L) (hLb : L ≤ 1048576) (hp : 1 ≤ p) (hq : q < pg) : ∃ lo hi q1 : Nat, q * p = lo ∧ lo + p = hi ∧ hi ≤ L ∧ lo < L ∧ wrap64 ((q : Int) * (p : Int)) = (lo : Int) ∧ wrap64 ((q : Int) + 1) = (q1 : Int) ∧ wrap64 ((q1 : Int) * (p : Int)) = (hi : Int) := by
  have h1 : (q + 1) * p ≤ L := by rw [← hL]; exact Nat.mul_le_mul_right _ hq
  have h2 : q * p + p = (q + 1) * p := (Nat.succ_mul q p).symm
  have h3 : q + 1 ≤ L := Nat.le_trans (Nat.le_mul_of_pos_right _ hp) h1
  refine ⟨q * p, (q + 1) * p, q + 1, rfl, h2, h1, by omega, ?_, ?_, ?_⟩
  · rw [← Int.natCast_mul]; exact wN (Nat.le_trans (Nat.le_trans (by omega) h1) (Nat.le_trans hLb (by decide)))
  · exact wN (n := q + 1) (Nat.le_trans h3 (Nat.le_trans hLb (by decide)))
  · rw [← Int.natCast_mul]; exact wN (Nat.le_trans h1 (Nat.le_trans hLb (by decide)))
theorem cut_same {w : World} {ga gb ca cb lo p : Nat} {b b' : List Int} (ha : Im w ga ca b) (hb : Im w gb cb b') (h1 : lo + p ≤ b.length) (h2 : lo + p ≤ b'.length) (h3 : b.length ≤ 1048576) (h4 : b'.length ≤ 1048576) :
    Calls Try.prog 14 #[.slice (some ⟨ga, lo, none⟩) p (ca - lo), .slice (some ⟨gb, lo, none⟩) p (cb - lo)] w (Told w (.bool (decide (cutOf b lo p = cutOf b' lo p)))) := by
  have k1 : b.length ≤ ca := by obtain ⟨_, _, h, _, _⟩ := ha; exact h
  have k2 : b'.length ≤ cb := by obtain ⟨_, _, h, _, _⟩ := hb; exact h
  have l1 := cutOf_length b lo p h1
  have l2 := cutOf_length b' lo p h2
  have h := sameBytes_walk (l := cutOf b lo p) (r := cutOf b' lo p) (c := ca - lo) (c' := cb - lo) (by rw [l1]; exact ha.cut lo p h1 (by omega)) (by rw [l1]; omega) (by rw [l2]; exact hb.cut lo p h2 (by omega)) (by rw [l2]; omega) (by rw [l1]; omega)
  rw [l1, l2] at h
  exact h
/-- What holds between two calls. -/
structure OnceSt (W : World) (p s r i : Nat) (bx db tid gt ct : Nat) (a : Int) (wr : World) (f : Owner) (d : Dv) (TT : List Int) : Prop where
  dev : DevX W.heap.size f wr db d
  ok : d.Ok
  un : d.un.length ≤ i
  row : (Kd.int .i64).R 3 wr W.heap.size (fun k => f k = tid) (.slice (some ⟨gt, 0, none⟩) (s * r) ct) TT
  inv : OnceInv d TT
  geo : d.p = p ∧ d.s = s ∧ d.r = r
  box : wr.heap[bx]? = some (.cells #[.int .i64 p, .int .i64 s, .int .i64 r, .int .i64 a] 23 (0, 0))
  bow : f bx ≠ db
  ne : tid ≠ db
  bel : Below W.heap.size W wr
  bxb : W.heap.size ≤ bx
set_option maxHeartbeats 16000000 in
set_option maxRecDepth 100000 in
theorem once_yes (W : World) (p s r : Nat) (a : Int) (hk : Geo.Ok p s r a) {A : Option Addr} {c : Nat} {l : List OpT} (hC : kOp.C W A l.length l) (hfit : ∀ o ∈ l, (opOf o).Fit) (hl : l.length * 104 ≤ 140737488351232) :
    Calls Try.prog 4 #[.agg #[.int .i64 p, .int .i64 s, .int .i64 r, .int .i64 a], .slice A l.length c] W (Near W (.bool true)) := by
  have OKD := Aside0.mk (fresh_ok hk)
  have KN := Aside0.mk (fun (w : World) => new_yes (w := w) hk)
  have BX : Aside0 (Below W.heap.size W (W.alloc (.cells #[.int .i64 p, .int .i64 s, .int .i64 r, .int .i64 a] 23))) := ⟨below_alloc (Below.refl _ _) _⟩
  have bb := blk_new W (.cells #[.int .i64 p, .int .i64 s, .int .i64 r, .int .i64 a] 23)
  have HC := Aside0.mk hC
  have HF := Aside0.mk (And.intro hfit hl)
  obtain ⟨n, hn⟩ : ∃ n, l.length = n := ⟨_, rfl⟩
  have HN := Aside0.mk hn
  rw [hn] at HC
  rw [hn]
  obtain ⟨pg, hpg⟩ : ∃ pg, s * r = pg := ⟨_, rfl⟩
  have HPG := Aside0.mk hpg
  have hpl : pg ≤ 65536 := by have := pages_le OKD.out; rw [← hpg]; exact this
  have eqp : wrap64 ((s : Int) * (r : Int)) = (pg : Int) := by
    have e : (s : Int) * (r : Int) = (pg : Int) := by rw [← hpg]; simp
    rw [e]; exact wN (by omega)
  have HD0 : Aside0 ((Dv.fresh p s r a).un = [] ∧ (Dv.fresh p s r a).p = p ∧ (Dv.fresh p s r a).s = s ∧ (Dv.fresh p s r a).r = r) := ⟨rfl, rfl, rfl, rfl⟩
  obtain ⟨d0, hd0⟩ : ∃ d0, Dv.fresh p s r a = d0 := ⟨_, rfl⟩
  rw [hd0] at OKD KN HD0
  have hpg1 : 1 ≤ pg := by
    have bd := Ok.bounds hk
    rw [← hpg]
    exact Nat.mul_pos (by omega) (by omega)
  have HP1 := Aside0.mk hpg1
  have hs64 : s ≤ 64 := by have h := OKD.out.s2; rw [HD0.out.2.2.1] at h; exact h
  have hn44 : n ≤ 17592186044416 := by rw [← HN.out]; have := HF.out.2; omega
  clear hC hfit hl hn hpg hd0 hk hpg1
  go_enter Try.func4, Try.ntmps4
  go_upto_region 1 with (fail)
  generalize hw1 : W.alloc (.cells #[.int .i64 p, .int .i64 s, .int .i64 r, .int .i64 a] 23) = w1 at bb BX ⊢
  clear hw1
  obtain ⟨bx, hbx⟩ : ∃ bx, W.heap.size = bx := ⟨_, rfl⟩
  have HBX := Aside0.mk hbx
  rw [hbx] at bb
  rw [hbx]
  have BB := Aside0.mk bb
  have GC := Aside0.mk (fun (w' : World) (hb : Below w1.heap.size w1 w') => (show w'.cell? ⟨bx, 0, none⟩ = some (.int .i64 p) ∧ w'.cell? ⟨bx, 1, none⟩ = some (.int .i64 s) ∧ w'.cell? ⟨bx, 2, none⟩ = some (.int .i64 r) ∧ w'.cell? ⟨bx, 3, none⟩ = some (.int .i64 a) from ⟨blk_cell (blk_below bb hb) 0, blk_cell (blk_below bb hb) 1, blk_cell (blk_below bb hb) 2, blk_cell (blk_below bb hb) 3⟩))
  clear bb hbx
  go_upto_region 7 with (first
    | (go_at_call 11; refine (lives_walk _).mono ?_; rintro e w2 ⟨rfl, hb2⟩; have B2 := Aside0.mk hb2; obtain ⟨c0, c1, c2, c3⟩ := GC.out _ hb2; clear hb2)
    | (go_at_call 12; refine (KN.out _).mono ?_; rintro e w3 ⟨hb3, db, rfl, hdb, hall⟩; have B3 := Aside0.mk hb3; have HD3 := Aside0.mk hall; have LD3 := Aside0.mk hdb; clear hb3 hall hdb c0 c1 c2 c3; obtain ⟨c0, c1, c2, c3⟩ := GC.out _ (B2.out.trans (B3.out.mono B2.out.size)))
    | (refine Kd.R_make (Kd.int .i64) (w0 := w3) w3.heap.size 3 rfl (N := 30) rfl 35 (.tmp 29) (.tmp 29) rfl _ rfl rfl Try.underlying35 (.int .i64 0) 8 info3 rfl (by decide) (by decide) 0 (ok := fun k => w3.heap.size ≤ k) (okp := fun _ => False) rfl (fun _ h => h.elim) (Nat.le_refl _) (by first | omega | (rw [eqp]; omega)) (by first | (rw [eqp, Int.toNat_natCast]; omega) | (simp; omega)) (Below.refl _ _) (Nat.le_refl _) ?_; intro v4 w4 hR hb hg hat; (first | rw [eqp, Int.toNat_natCast] at hR | rw [Int.toNat_natCast] at hR); have R4 := Aside0.mk hR; have B4 := Aside0.mk hb; clear hR hb hg hat))
  obtain ⟨gt, ct, e4⟩ : ∃ gt ct, v4 = .slice (some ⟨gt, 0, none⟩) pg ct := by
    obtain ⟨_, hn | ⟨gt, cap', cur, e, _⟩⟩ := Kd.own_of_R R4.out
    · rw [List.length_replicate] at hn; exact absurd hn.2 (by have := HP1.out; omega)
    · rw [List.length_replicate] at e; exact ⟨gt, _, e⟩
  subst e4
  have S0 : Aside0 (∃ f d TT, OnceSt W p s r 0 bx db w3.heap.size gt ct a w4 f d TT) := ⟨by
    have h12 := Nat.le_trans BX.out.size B2.out.size
    have hx3 : DevX W.heap.size (owns (fun k => k) w2.heap.size db) w3 db d0 := HD3.out _ _ h12
    have hbx2 : bx < w2.heap.size := Nat.lt_of_lt_of_le (blk_lt BB.out) B2.out.size
    have ldb := LD3.out
    refine ⟨owns (owns (fun k => k) w2.heap.size db) w3.heap.size w3.heap.size, d0, List.replicate pg 0, ?_⟩
    exact
      { dev := hx3.mv (Mv.of_below (B := W.heap.size) (o := fun _ => False) B4.out (Nat.le_trans h12 B3.out.size) (fun k hk => owns_old _ _ _ k hk)) id
        ok := OKD.out
        un := by rw [HD0.out.1]; exact Nat.le_refl _
        row := by
          rw [HPG.out]
          exact Kd.R_mono (Kd.R_lower R4.out (Nat.le_trans h12 B3.out.size)) (fun k hk => owns_new _ _ _ _ hk)
        inv := ⟨by rw [List.length_replicate]; unfold Dv.pages; rw [HD0.out.2.2.1, HD0.out.2.2.2]; exact HPG.out.symm, fun j hj => .inl (by
          unfold Dv.pages at hj
          rw [HD0.out.2.2.1, HD0.out.2.2.2, HPG.out] at hj
          refine rd_of ?_
          rw [List.getElem?_replicate, if_pos hj])⟩
        geo := HD0.out.2
        box := blk_below (blk_below (blk_below BB.out B2.out) B3.out) B4.out
        bow := by
          have h3 := B3.out.size
          rw [owns_old _ _ _ bx (by omega), owns_old _ _ _ bx hbx2]
          omega
        ne := by have := hx3.size.2.1; omega
        bel := ((BX.out.trans (B2.out.mono BX.out.size)).trans (B3.out.mono h12)).trans (B4.out.mono (Nat.le_trans h12 B3.out.size))
        bxb := by rw [HBX.out]; exact Nat.le_refl _ }⟩
  obtain ⟨tid, htid⟩ : ∃ tid, w3.heap.size = tid := ⟨_, rfl⟩
  rw [htid] at S0
  clear R4 B4 HD3 LD3 B3 B2 c0 c1 c2 c3 GC BB KN OKD HD0 htid eqp
  go_wp2
  go_loopw [8] (fun v wr => ∃ i : Nat, i ≤ n ∧ v = .int .i64 (i : Int) ∧ Aside0 (∃ f d TT, OnceSt W p s r i bx db tid gt ct a wr f d TT)) (fun v _ => n - (intOf v).toNat)
  case atStart => exact ⟨0, Nat.zero_le _, rfl, S0⟩
  case round =>
    obtain ⟨i, hi, rfl, S⟩ := hrel
    by_cases hlt : i < n
    · have m0 : (0 : Int) ≤ (i : Int) := by omega
      have m1 : (i : Int) < (n : Int) := by omega
      have g2 : decide ((i : Int) < (n : Int)) = true := decide_eq_true m1
      obtain ⟨f, d, TT, h⟩ := S.out
      obtain ⟨ad, o, cs, eA, ho, hV, hcell⟩ := at_op HC.out i hlt
      subst eA
      have HV := Aside0.mk hV
      obtain ⟨Ax, cx, Af, cf, Ac, cc, ecs, _⟩ := hV.is
      have hcw := fun (j : Nat) (u : Value) (hj : cs[j]? = some u) => (pw_cell_below h.bel (hcell j u hj))
      subst ecs
      have x0 : wr.cell? (ad.add (i * 7)) = some (.int .i64 (opOf o).k) := hcw 0 _ rfl
      have x1 : wr.cell? ⟨(ad.add (i * 7)).block, (ad.add (i * 7)).off + 1, none⟩ = some (.int .i64 (opOf o).n) := by rw [← add_field _ _ 1 (by omega)]; exact hcw 1 _ rfl
      have x2 : wr.cell? ⟨(ad.add (i * 7)).block, (ad.add (i * 7)).off + 2, none⟩ = some (.slice Ax (opOf o).x.length cx) := by rw [← add_field _ _ 2 (by omega)]; exact hcw 2 _ rfl
      have x3 : wr.cell? ⟨(ad.add (i * 7)).block, (ad.add (i * 7)).off + 3, none⟩ = some (.slice Af (opOf o).fl.length cf) := by rw [← add_field _ _ 3 (by omega)]; exact hcw 3 _ rfl
      have x4 : wr.cell? ⟨(ad.add (i * 7)).block, (ad.add (i * 7)).off + 4, none⟩ = some (.int .i64 (opOf o).st) := by rw [← add_field _ _ 4 (by omega)]; exact hcw 4 _ rfl
      have x5 : wr.cell? ⟨(ad.add (i * 7)).block, (ad.add (i * 7)).off + 5, none⟩ = some (.int .i64 (opOf o).re) := by rw [← add_field _ _ 5 (by omega)]; exact hcw 5 _ rfl
      have x6 : wr.cell? ⟨(ad.add (i * 7)).block, (ad.add (i * 7)).off + 6, none⟩ = some (.slice Ac (opOf o).ft.length cc) := by rw [← add_field _ _ 6 (by omega)]; exact hcw 6 _ rfl
      have HH := Aside0.mk h
      have HO := Aside0.mk (HF.out.1 o (List.mem_of_getElem? ho))
      obtain ⟨q, hq⟩ : ∃ q, opOf o = q := ⟨_, rfl⟩
      rw [hq] at HV HO x0 x1 x2 x3 x4 x5 x6
      have HL := Aside0.mk hlt
      clear h hV hcell hcw ho hq hlt S
      obtain ⟨k, no, xo, flo, sto, reo, fto⟩ := q
      obtain ⟨lx, hlx⟩ : ∃ lx, xo.length = lx := ⟨_, rfl⟩
      obtain ⟨lf, hlf⟩ : ∃ lf, flo.length = lf := ⟨_, rfl⟩
      obtain ⟨lc, hlc⟩ : ∃ lc, fto.length = lc := ⟨_, rfl⟩
      simp only [hlx, hlf, hlc] at HV x2 x3 x6
      obtain ⟨w5, hw5⟩ : ∃ w5, wr.alloc (.cells #[.int .i64 k, .int .i64 no, .slice Ax lx cx, .slice Af lf cf, .int .i64 sto, .int .i64 reo, .slice Ac lc cc] 53) = w5 := ⟨_, rfl⟩
      have b5 : Below wr.heap.size wr w5 := by rw [← hw5]; exact below_alloc (Below.refl _ _) _
      have K5 : w5.heap[wr.heap.size]? = some (.cells #[.int .i64 k, .int .i64 no, .slice Ax lx cx, .slice Af lf cf, .int .i64 sto, .int .i64 reo, .slice Ac lc cc] 53 (0, 0)) := by rw [← hw5]; exact blk_new wr _
      obtain ⟨hx5, n5, m5⟩ := HH.out.dev.boxed b5
      have KI := Aside0.mk (image_walk hx5 HH.out.ok)
      have B5 := Aside0.mk b5
      have X5 := Aside0.mk (And.intro hx5 (And.intro n5 m5))
      have KK5 := Aside0.mk K5
      clear b5 K5 hx5 n5 m5
      go_upto_region 11 with (fail)
      try rw [hw5]
      clear hw5 x0 x1 x2 x3 x4 x5 x6
      obtain ⟨b9, hb9⟩ : ∃ b9, wr.heap.size = b9 := ⟨_, rfl⟩
      have HB9 := Aside0.mk hb9
      rw [hb9] at KK5
      rw [hb9]
      clear hb9
      go_upto_region 12 with (go_at_call 15; refine KI.out.mono ?_; rintro e w6 ⟨v6, rfl, hR6, hb6⟩; have R6 := Aside0.mk hR6; have B6 := Aside0.mk hb6; clear hR6 hb6)
      obtain ⟨f5, hf5⟩ : ∃ f5, owns f wr.heap.size wr.heap.size = f5 := ⟨_, rfl⟩
      have HF5 := Aside0.mk hf5
      rw [hf5] at X5
      clear hf5 KI
      -- does
      have hnb : W.heap.size ≤ b9 := by have := HH.out.bel.size; have := HB9.out; omega
      have W5 := Aside0.mk (HH.out.bel.trans (B5.out.mono HH.out.bel.size))
      have X6 : Aside0 (DevX W.heap.size f5 w6 db d) := ⟨X5.out.1.below B6.out⟩
      have W6 := Aside0.mk (W5.out.trans (B6.out.mono W5.out.size))
      have K6 := Aside0.mk (blk_below KK5.out B6.out)
      have O5 : Aside0 ((∀ k, k < wr.heap.size → f5 k = f k) ∧ (∀ k, wr.heap.size ≤ k → f5 k ≠ db)) := ⟨⟨fun k hk => by rw [← HF5.out]; exact owns_old _ _ _ k hk, X5.out.2.1⟩⟩
      have RT6 : Aside0 ((Kd.int .i64).R 3 w6 W.heap.size (fun k => f5 k = tid) (.slice (some ⟨gt, 0, none⟩) pg ct) TT) := ⟨by
        have h := HH.out.row
        rw [HPG.out] at h
        exact Kd.R_below (Kd.R_below (Kd.R_mono (Kd.R_bound h) (fun k hk => (O5.out.1 k hk.2.2.1).trans hk.1)) B5.out) B6.out⟩
      have BX6 : Aside0 (w6.heap[bx]? = some (.cells #[.int .i64 p, .int .i64 s, .int .i64 r, .int .i64 a] 23 (0, 0)) ∧ f5 bx ≠ db) := ⟨⟨blk_below (blk_below HH.out.box B5.out) B6.out, by rw [O5.out.1 bx (blk_lt HH.out.box)]; exact HH.out.bow⟩⟩
      have N9 : Aside0 (f5 b9 ≠ db) := ⟨O5.out.2 b9 (by have := HB9.out; omega)⟩
      have RI6 : Aside0 ((Kd.int .u8).R 5 w6 W.heap.size (fun k => f5 k ≠ db) v6 d.b) := ⟨Kd.R_mono (Kd.R_lower R6.out W5.out.size) (fun k hk => O5.out.2 k (Nat.le_trans B5.out.size hk))⟩
      have hun : (d.un.length + 1) * 8 ≤ 140737488355328 := by
        have h1 := HH.out.un
        have h2 := HL.out
        have h3 := HF.out.2
        have h4 := HN.out
        omega
      have KD := Aside0.mk (does_walk X6.out W6.out HH.out.ok hun HV.out HO.out)
      have y0 := blk_cell K6.out 0
      have y1 := blk_cell K6.out 1
      have y2 := blk_cell K6.out 2
      have y3 := blk_cell K6.out 3
      have y4 := blk_cell K6.out 4
      have y5 := blk_cell K6.out 5
      have y6 := blk_cell K6.out 6
      clear hun R6 X5 HF5
      go_upto_region 13 with (go_at_call 22; refine KD.out.mono ?_; rintro e w7 ⟨rfl, h7⟩; have S7 := Aside0.mk h7; clear h7)
      clear y0 y1 y2 y3 y4 y5 y6 KD
      have HOK := Aside0.mk (does_ok HH.out.ok HO.out)
      have HGEO := Aside0.mk (does_geo d ⟨k, no, xo, flo, sto, reo, fto⟩)
      have HUN : Aside0 ((d.does ⟨k, no, xo, flo, sto, reo, fto⟩).1.un.length ≤ i + 1) := ⟨Nat.le_trans (does_un d _) (Nat.succ_le_succ HH.out.un)⟩
      have HST := Aside0.mk (fun (he : ¬ (k = 3 ∧ 0 ≤ no ∧ no < (d.r : Int))) (j : Nat) (hj : j < d.pages) => once_step HH.out.ok HH.out.inv HO.out he j hj)
      have HER := Aside0.mk (fun (g : Nat) (TT' : List Int) (hg : g < d.r) (hl : TT'.length = d.pages) (hT : ∀ j : Nat, j < d.pages → rd TT' (j : Int) = if g * d.s ≤ j ∧ j < g * d.s + d.s then 0 else rd TT (j : Int)) (hk : k = 3) (hn : no = (g : Int)) => once_erase HH.out.ok HH.out.inv (o := ⟨k, no, xo, flo, sto, reo, fto⟩) hg hl hT hk hn)
      obtain ⟨d7, hd7⟩ : ∃ d7, (d.does ⟨k, no, xo, flo, sto, reo, fto⟩).1 = d7 := ⟨_, rfl⟩
      rw [hd7] at S7 HOK HGEO HUN HST HER
      clear hd7
      obtain ⟨f7, hx7, m7⟩ := S7.out
      have X7 := Aside0.mk hx7
      have K7 := Aside0.mk (m7.blk K6.out N9.out)
      have BX7 : Aside0 (w7.heap[bx]? = some (.cells #[.int .i64 p, .int .i64 s, .int .i64 r, .int .i64 a] 23 (0, 0)) ∧ f7 bx ≠ db) := ⟨⟨m7.blk BX6.out.1 BX6.out.2, by rw [m7.own_at BX6.out.1]; exact BX6.out.2⟩⟩
      have RT7 : Aside0 ((Kd.int .i64).R 3 w7 W.heap.size (fun k => f7 k = tid) (.slice (some ⟨gt, 0, none⟩) pg ct) TT) := ⟨m7.row RT6.out (fun k hk _ e => HH.out.ne (by rw [← hk]; exact e)) (fun k hk hl => (m7.old k hl).trans hk)⟩
      have RI7 : Aside0 ((Kd.int .u8).R 5 w7 W.heap.size (fun k => f7 k ≠ db) v6 d.b) := ⟨m7.row RI6.out (fun k hk _ e => hk e) (fun k hk hl => by rw [m7.old k hl]; exact hk)⟩
      have W7 := Aside0.mk (W6.out.trans m7.below)
      have y0 := blk_cell K7.out 0
      have y1 := blk_cell K7.out 1
      have c0 := blk_cell BX7.out.1 0
      have c1 := blk_cell BX7.out.1 1
      have c2 := blk_cell BX7.out.1 2
      have TG := Aside0.mk ((Kd.R_bound RT7.out).1 gt rfl)
      have NG : Aside0 (bx ≠ gt ∧ b9 ≠ gt ∧ f7 gt = tid) := ⟨⟨fun e => Kd.R_ne RT7.out BX7.out.1 (by decide) (by rw [e]; rfl), fun e => Kd.R_ne RT7.out K7.out (by decide) (by rw [e]; rfl), TG.out.1⟩⟩
      have PGD : Aside0 (d.pages = pg ∧ d.s = s ∧ d.r = r ∧ d.p = p) := ⟨⟨by unfold Dv.pages; rw [HH.out.geo.2.1, HH.out.geo.2.2]; exact HPG.out, HH.out.geo.2.1, HH.out.geo.2.2, HH.out.geo.1⟩⟩
      have T0 : Aside0 (TT.length = pg) := ⟨by rw [HH.out.inv.1]; exact PGD.out.1⟩
      have NE := Aside0.mk (And.intro HH.out.ne HH.out.bxb)
      have INV : Aside0 (∀ j : Nat, j < pg → rd TT (j : Int) = 0 ∨ rd TT (j : Int) = 1) := ⟨fun j hj => (HH.out.inv.2 j (by rw [PGD.out.1]; exact hj)).elim .inl (fun h => .inr h.1)⟩
      clear hx7 m7 S7 RT6 RI6 BX6 K6 N9 O5 W6 X6 W5 KK5 B6 B5 HB9 hnb
      by_cases he : k = 3 ∧ 0 ≤ no ∧ no < (r : Int)
      · obtain ⟨h1, h2, h3⟩ := he
        obtain ⟨g, hg⟩ : ∃ g : Nat, no = (g : Int) := ⟨no.toNat, by omega⟩
        subst hg
        have hgr : g < r := by omega
        have g1 : (k == 3) = true := beq_iff_eq.2 h1
        have g4 : decide (0 ≤ (g : Int)) = true := decide_eq_true h2
        have g5 : decide ((g : Int) < (r : Int)) = true := decide_eq_true h3
        have K3 := Aside0.mk h1
        have GR := Aside0.mk hgr
        obtain ⟨gs, hgs⟩ : ∃ gs, g * s = gs := ⟨_, rfl⟩
        have HGS := Aside0.mk hgs
        have hgp : gs + s ≤ pg := by
          rw [← hgs, ← HPG.out, Nat.mul_comm s r, ← Nat.succ_mul]
          exact Nat.mul_le_mul_right _ hgr
        have e1 : wrap64 ((g : Int) * (s : Int)) = (gs : Int) := by
          have e : (g : Int) * (s : Int) = (gs : Int) := by rw [← hgs]; simp
          rw [e]; exact wN (Nat.le_trans (Nat.le_trans (Nat.le_add_right gs s) hgp) (Nat.le_trans hpl (by decide)))
        have E1 := Aside0.mk e1
        have HGP := Aside0.mk (And.intro hgp hpl)
        clear h1 h2 h3 hgs HST e1 hgp
        go_wp2
        go_loopw [11] (fun v w9 => ∃ q : Nat, q ≤ s ∧ v = .int .i64 (q : Int) ∧ Aside0 (∃ Tq, (Kd.int .i64).R 3 w9 W.heap.size (fun k => f7 k = tid) (.slice (some ⟨gt, 0, none⟩) pg ct) Tq ∧ (∀ j : Nat, j < pg → rd Tq (j : Int) = if gs ≤ j ∧ j < gs + q then 0 else rd TT (j : Int)) ∧ Only W.heap.size (some gt) w7 w9)) (fun v _ => s - (intOf v).toNat)
        case atStart => exact ⟨0, Nat.zero_le _, rfl, ⟨TT, RT7.out, fun j hj => (if_neg (fun h => absurd h.2 (by rw [Nat.add_zero]; exact Nat.not_lt.2 h.1))).symm, Only.refl _ _ _⟩⟩
        case round =>
          obtain ⟨q, hq, rfl, S9⟩ := hrel
          obtain ⟨Tq, hR, hT, hO⟩ := S9.out
          have y0' := blk_cell (hO.blk K7.out NG.out.2.1) 0
          have y1' := blk_cell (hO.blk K7.out NG.out.2.1) 1
          have c0' := blk_cell (hO.blk BX7.out.1 NG.out.1) 0
          have c1' := blk_cell (hO.blk BX7.out.1 NG.out.1) 1
          by_cases hqs : q < s
          · have g6 : decide ((q : Int) < (s : Int)) = true := decide_eq_true (by omega)
            obtain ⟨ix, hix⟩ : ∃ ix, gs + q = ix := ⟨_, rfl⟩
            have e2 : wrap64 ((gs : Int) + (q : Int)) = (ix : Int) := by rw [← hix]; exact wAdd gs q s (Nat.le_trans HGP.out.1 HGP.out.2) hqs
            have m2 : (0 : Int) ≤ (ix : Int) := Int.natCast_nonneg ix
            have hixp : ix < pg := by rw [← hix]; exact Nat.lt_of_lt_of_le (Nat.add_lt_add_left hqs gs) HGP.out.1
            have m3 : (ix : Int) < (pg : Int) := Int.ofNat_lt.2 hixp
            have IXP := Aside0.mk hixp
            have e1 := E1.out
            obtain ⟨k0, k1⟩ := Kd.R_celln (0 : Int) hR (ix : Int) m2 m3
            rw [Int.toNat_natCast] at k0 k1
            obtain ⟨y, hy⟩ : ∃ y, rdOf (0 : Int) Tq (ix : Int) = y := ⟨_, rfl⟩
            rw [hy] at k0
            have SR := Aside0.mk hR
            have ST := Aside0.mk hT
            have SO := Aside0.mk hO
            have LQ := Aside0.mk (And.intro hqs hix)
            clear hR hT hO hy hix S9 hixp
            go_wp2
            go_roundw
            case rel => clear e1 e2; exact ⟨q + 1, LQ.out.1, by congr 1 <;> simp, ⟨Tq.set ix 0, by
              have h := Kd.R_putn SR.out (ix : Int) 0
              rw [Int.toNat_natCast] at h
              exact h, fun j hj => by
              have hlt : ix < Tq.length := by rw [(R_C SR.out).2.1]; exact IXP.out
              rw [rd_set Tq ix j 0 hlt, ST.out j hj]
              have := LQ.out.2
              by_cases e : j = ix
              · rw [if_pos e, if_pos (by omega)]
              · rw [if_neg e]
                by_cases e3 : gs ≤ j ∧ j < gs + q
                · rw [if_pos e3, if_pos (by omega)]
                · rw [if_neg e3, if_neg (by omega)], SO.out.trans (Only.set _ TG.out.2.1 ix _)⟩⟩
            case measure =>
              clear e1 e2
              have := LQ.out.1
              simp [intOf]
              omega
          · have g6 : decide ((q : Int) < (s : Int)) = false := decide_eq_false (by omega)
            have hqe : q = s := by omega
            have QE := Aside0.mk hqe
            have hm := hO.mv' (f := f7)
            have gf := NG.out.2.2
            have NEW : Aside0 (OnceSt W p s r (i + 1) bx db tid gt ct a wr f7 d7 Tq) := ⟨by
              have hTl : Tq.length = pg := (R_C hR).2.1
              exact
                { dev := X7.out.mv hm (by rw [gf]; exact fun e => NE.out.1 e.symm)
                  ok := HOK.out
                  un := HUN.out
                  row := by rw [HPG.out]; exact hR
                  inv := HER.out g Tq (by rw [PGD.out.2.2.1]; exact GR.out) (by rw [PGD.out.1]; exact hTl) (fun j hj => by rw [PGD.out.2.1, HGS.out, ← QE.out, hT j (by rw [← PGD.out.1]; exact hj), QE.out]) K3.out rfl
                  geo := ⟨HGEO.out.1.trans PGD.out.2.2.2, HGEO.out.2.1.trans PGD.out.2.1, HGEO.out.2.2.1.trans PGD.out.2.2.1⟩
                  box := hO.blk BX7.out.1 NG.out.1
                  bow := BX7.out.2
                  ne := NE.out.1
                  bel := W7.out.trans hO.below
                  bxb := NE.out.2 }⟩
            clear hR hT hO hm gf S9 hqe
            go_wp2
            go_roundw
            case rel => exact ⟨i + 1, HL.out, by congr 1 <;> simp, ⟨_, _, _, NEW.out⟩⟩
            case measure =>
              have := HL.out
              simp [intOf]
              omega
      · have HE := Aside0.mk he
        obtain ⟨L, hL⟩ : ∃ L, pg * p = L := ⟨_, rfl⟩
        have hpp : 1 ≤ p := by have h := HH.out.ok.p1; rw [PGD.out.2.2.2] at h; omega
        have HL7 : Aside0 (d.b.length = L ∧ d7.b.length = L ∧ 1 ≤ L ∧ L ≤ 1048576) := ⟨by
          have e1 : d.b.length = L := by rw [HH.out.ok.len, PGD.out.2.2.2, PGD.out.2.1, PGD.out.2.2.1, Nat.mul_assoc, HPG.out, Nat.mul_comm]; exact hL
          have e2 : d7.b.length = d.b.length := by rw [HOK.out.len, HH.out.ok.len, HGEO.out.1, HGEO.out.2.1, HGEO.out.2.2.1]
          exact ⟨e1, e2.trans e1, by rw [← hL]; exact Nat.mul_pos HP1.out hpp, by rw [← e1, HH.out.ok.len]; exact HH.out.ok.sz⟩⟩
        have eL : wrap64 ((pg : Int) * (p : Int)) = (L : Int) := by rw [← Int.natCast_mul, hL]; exact wN (Nat.le_trans HL7.out.2.2.2 (by decide))
        have CN := Aside0.mk (fun (q : Nat) (hq : q < pg) => cut_nums hL HL7.out.2.2.2 hpp hq)
        have EL := Aside0.mk eL
        obtain ⟨ga, ca, e6⟩ := open_row RI7.out HL7.out.1 HL7.out.2.2.1
        subst e6
        have IA7 := Aside0.mk (im_of_R RI7.out).1
        have KI7 := Aside0.mk (image_walk X7.out HOK.out)
        obtain ⟨tf, htf⟩ : ∃ tf : Nat → Int, (fun j => if d.page j = d7.page j then rd TT (j : Int) else rd TT (j : Int) + 1) = tf := ⟨_, rfl⟩
        have HTF : Aside0 ((∀ j : Nat, j < pg → tf j = 0 ∨ (tf j = 1 ∧ d7.clean j = false)) ∧ ∀ j : Nat, tf j = if d.page j = d7.page j then rd TT (j : Int) else rd TT (j : Int) + 1) := ⟨⟨fun j hj => by
          rw [← htf]
          exact HST.out (by rw [PGD.out.2.2.1]; exact HE.out) j (by rw [PGD.out.1]; exact hj), fun j => by rw [← htf]⟩⟩
        have PGE : Aside0 (∀ j : Nat, d.page j = cutOf d.b (j * p) p ∧ d7.page j = cutOf d7.b (j * p) p) := ⟨fun j => by
          unfold Dv.page
          rw [HGEO.out.1, PGD.out.2.2.2]
          exact ⟨rfl, rfl⟩⟩
        clear HST HER htf eL hL hpp RI7
        have hc : (k == 3) = false ∨ (k == 3) = true ∧ decide (0 ≤ no) = false ∨ (k == 3) = true ∧ decide (0 ≤ no) = true ∧ decide (no < (r : Int)) = false := by
          by_cases a1 : k = 3
          · by_cases a2 : 0 ≤ no
            · exact .inr (.inr ⟨beq_iff_eq.2 a1, decide_eq_true a2, decide_eq_false (fun a3 => he ⟨a1, a2, a3⟩)⟩)
            · exact .inr (.inl ⟨beq_iff_eq.2 a1, decide_eq_false a2⟩)
          · exact .inl (beq_eq_false_iff_ne.2 a1)
        clear he
        have eL := EL.out
        rcases hc with g1 | ⟨g1, g4⟩ | ⟨g1, g4, g5⟩
        all_goals (go_upto_region 19 with (go_at_call 15; refine KI7.out.mono ?_; rintro e w8 ⟨v8, rfl, hR8, hb8⟩; obtain ⟨gb, cb, e8⟩ := open_row hR8 HL7.out.2.1 HL7.out.2.2.1; subst e8; have R8 := Aside0.mk hR8; have B8 := Aside0.mk hb8; clear hR8 hb8))
        all_goals
          have IB8 := Aside0.mk (im_of_R R8.out).1
          have IA8 := Aside0.mk (IA7.out.below B8.out)
          have RT8 := Aside0.mk (Kd.R_below RT7.out B8.out)
          have BX8 := Aside0.mk (blk_below BX7.out.1 B8.out)
          have X8 := Aside0.mk (X7.out.below B8.out)
          have W8 := Aside0.mk (W7.out.trans (B8.out.mono W7.out.size))
          have NI : Aside0 (ga ≠ gt ∧ gb ≠ gt) := ⟨by
            obtain ⟨_, ha, _⟩ := IA8.out
            obtain ⟨_, hb, _⟩ := IB8.out
            exact ⟨fun e => Kd.R_ne RT8.out ha (by decide) (by rw [e]; rfl), fun e => Kd.R_ne RT8.out hb (by decide) (by rw [e]; rfl)⟩⟩
          have c0 := blk_cell BX8.out 0
          clear y0 y1 c1 c2 R8 IA7 RT7 X7 W7 B8 KI7
          go_wp2
          clear c0 eL
          go_loopw [13] (fun v wr => ∃ q : Nat, q ≤ pg ∧ v = .int .i64 (q : Int) ∧ Aside0 (∃ Tq, (Kd.int .i64).R 3 wr W.heap.size (fun k => f7 k = tid) (.slice (some ⟨gt, 0, none⟩) pg ct) Tq ∧ (∀ j : Nat, j < pg → rd Tq (j : Int) = if j < q then tf j else rd TT (j : Int)) ∧ Only W.heap.size (some gt) w8 wr)) (fun v _ => pg - (intOf v).toNat)
          case atStart => exact ⟨0, Nat.zero_le _, rfl, ⟨TT, RT8.out, fun j hj => (if_neg (Nat.not_lt_zero j)).symm, Only.refl _ _ _⟩⟩
          case round =>
            obtain ⟨q, hq, rfl, S9⟩ := hrel
            obtain ⟨Tq, hR, hT, hO⟩ := S9.out
            have c0 := blk_cell (hO.blk BX8.out NG.out.1) 0
            by_cases hqs : q < pg
            · have g6 : decide ((q : Int) < (pg : Int)) = true := decide_eq_true (Int.ofNat_lt.2 hqs)
              obtain ⟨lo, hi', q1, n1, n2, n3, n4, n5, n6, n7⟩ := CN.out q hqs
              have IA : Aside0 (Im wr ga ca d.b ∧ Im wr gb cb d7.b) := ⟨⟨IA8.out.keep (hO.keep ga IA8.out.lt (fun e => NI.out.1 (by injection e))), IB8.out.keep (hO.keep gb IB8.out.lt (fun e => NI.out.2 (by injection e)))⟩⟩
              have lca : L ≤ ca := by obtain ⟨_, _, h, _, _⟩ := IA8.out; rw [HL7.out.1] at h; exact h
              have lcb : L ≤ cb := by obtain ⟨_, _, h, _, _⟩ := IB8.out; rw [HL7.out.2.1] at h; exact h
              have e4 : ∀ W, (Instr.slice 24 (.slice (some ⟨ga, 0, none⟩) L ca) (some (.int .i64 (lo : Int))) (some (.int .i64 (hi' : Int))) none).run Try.prog W = .ok (.slice (some ⟨ga, lo, none⟩) p (ca - lo)) W := fun W => run_cut n2 (Nat.le_trans n3 lca) (Nat.lt_of_lt_of_le n4 lca)
              have e5 : ∀ W, (Instr.slice 24 (.slice (some ⟨gb, 0, none⟩) L cb) (some (.int .i64 (lo : Int))) (some (.int .i64 (hi' : Int))) none).run Try.prog W = .ok (.slice (some ⟨gb, lo, none⟩) p (cb - lo)) W := fun W => run_cut n2 (Nat.le_trans n3 lcb) (Nat.lt_of_lt_of_le n4 lcb)
              have KS : Aside0 (∀ w', Below wr.heap.size wr w' → Calls Try.prog 14 #[.slice (some ⟨ga, lo, none⟩) p (ca - lo), .slice (some ⟨gb, lo, none⟩) p (cb - lo)] w' (Told w' (.bool (decide (d.page q = d7.page q))))) := ⟨fun w' hb => by
                rw [(PGE.out q).1, (PGE.out q).2, n1]
                exact cut_same (IA.out.1.below hb) (IA.out.2.below hb) (by rw [n2, HL7.out.1]; exact n3) (by rw [n2, HL7.out.2.1]; exact n3) (by rw [HL7.out.1]; exact HL7.out.2.2.2) (by rw [HL7.out.2.1]; exact HL7.out.2.2.2)⟩
              have LQ := Aside0.mk hqs
              have SR := Aside0.mk hR
              have ST := Aside0.mk hT
              have SO := Aside0.mk hO
              clear hR hT hO S9 n1 n2 n3 n4 lca lcb
              obtain ⟨sm, hsm⟩ : ∃ sm, decide (d.page q = d7.page q) = sm := ⟨_, rfl⟩
              have HSM := Aside0.mk hsm
              rw [hsm] at KS
              clear hsm
              go_upto_region 24 with (fail)
              refine start_ (n := 24) (S := fun w' => w'.cell? ⟨bx, 0, none⟩ = some (.int .i64 (p : Int))) (ds := []) #[F,F,F,F,F,F,F,F,F,F,F,F,F,F,F,F,F,F,F,F,F,F,F,F] (by kernel_rfl) rfl rfl (c0) (fun hHeld => ?_)
              generalize hwd : wr.drew = wd at hHeld ⊢
              have BD : Aside0 (Below wr.heap.size wr wd) := ⟨by rw [← hwd]; exact below_drew (Below.refl _ _)⟩
              clear hwd
              refine pure_ (i := 0) (N := some 99) (v := ?_) (a' := ?_) #[T,F,F,F,F,F,F,F,F,F,F,F,F,F,F,F,F,F,F,F,F,F,F,F] rfl rfl (by kernel_rfl) (fun _ _ _ h => h) (Or.inl ⟨by rfl, ?_⟩) ?_ ?_
              rotate_left
              · intro w'
                go_simp
                with_reducible rfl
              rotate_left
              · simp only [Act.put, sA, s0_, sS, i64_w, i32_w]
                rfl
              refine pure_ (i := 1) (N := some 100) (v := ?_) (a' := ?_) #[T,T,F,F,F,F,F,F,F,F,F,F,F,F,F,F,F,F,F,F,F,F,F,F] rfl rfl (by kernel_rfl) (fun _ _ _ h => h) (Or.inl ⟨by rfl, ?_⟩) ?_ ?_
              rotate_left
              · intro w'
                go_simp
                with_reducible rfl
              rotate_left
              · simp only [Act.put, sA, s0_, sS, i64_w, i32_w]
                rfl
              refine pure_ (i := 2) (N := some 101) (v := ?_) (a' := ?_) #[T,T,T,F,F,F,F,F,F,F,F,F,F,F,F,F,F,F,F,F,F,F,F,F] rfl rfl (by kernel_rfl) (fun _ _ _ h => h) (Or.inl ⟨by rfl, ?_⟩) ?_ ?_
              rotate_left
              · intro w'
                go_simp
                with_reducible rfl
              rotate_left
              · simp only [Act.put, sA, s0_, sS, i64_w, i32_w]
                rfl
              refine take_ (i := 3) (N := some 102) (v := ?_) (a' := ?_) #[T,T,T,T,F,F,F,F,F,F,F,F,F,F,F,F,F,F,F,F,F,F,F,F] rfl rfl (by kernel_rfl) (fun _ _ _ h => h) (Or.inl ⟨by rfl, ?_⟩) hHeld ?_ ?_
              rotate_left
              · intro w' s0
                go_simp
                with_reducible rfl
              rotate_left
              · simp only [Act.put, sA, s0_, sS, i64_w, i32_w]
                rfl
              refine pure_ (i := 4) (N := some 103) (v := ?_) (a' := ?_) #[T,T,T,T,T,F,F,F,F,F,F,F,F,F,F,F,F,F,F,F,F,F,F,F] rfl rfl (by kernel_rfl) (fun _ _ _ h => h) (Or.inl ⟨by rfl, ?_⟩) ?_ ?_
              rotate_left
              · intro w'
                go_simp
                with_reducible rfl
              rotate_left
              · simp only [Act.put, sA, s0_, sS, i64_w, i32_w]
                rfl
              refine pure_ (i := 5) (N := some 104) (v := ?_) (a' := ?_) #[T,T,T,T,T,T,F,F,F,F,F,F,F,F,F,F,F,F,F,F,F,F,F,F] rfl rfl (by kernel_rfl) (fun _ _ _ h => h) (Or.inl ⟨by rfl, ?_⟩) ?_ ?_
              rotate_left
              · intro w'
                go_simp
                with_reducible rfl
              rotate_left
              · simp only [Act.put, sA, s0_, sS, i64_w, i32_w]
                rfl
              refine pure_ (i := 6) (N := some 105) (v := ?_) (a' := ?_) #[T,T,T,T,T,T,T,F,F,F,F,F,F,F,F,F,F,F,F,F,F,F,F,F] rfl rfl (by kernel_rfl) (fun _ _ _ h => h) (Or.inl ⟨by rfl, ?_⟩) ?_ ?_
              rotate_left
              · intro w'
                go_simp
                with_reducible rfl
              rotate_left
              · simp only [Act.put, sA, s0_, sS, i64_w, i32_w]
                rfl
              refine pure_ (i := 7) (N := some 106) (v := ?_) (a' := ?_) #[T,T,T,T,T,T,T,T,F,F,F,F,F,F,F,F,F,F,F,F,F,F,F,F] rfl rfl (by kernel_rfl) (fun _ _ _ h => h) (Or.inl ⟨by rfl, ?_⟩) ?_ ?_
              rotate_left
              · intro w'
                go_simp
                with_reducible rfl
              rotate_left
              · simp only [Act.put, sA, s0_, sS, i64_w, i32_w]
                rfl
              refine take_ (i := 8) (N := some 107) (v := ?_) (a' := ?_) #[T,T,T,T,T,T,T,T,T,F,F,F,F,F,F,F,F,F,F,F,F,F,F,F] rfl rfl (by kernel_rfl) (fun _ _ _ h => h) (Or.inl ⟨by rfl, ?_⟩) hHeld ?_ ?_
              rotate_left
              · intro w' s0
                go_simp
                with_reducible rfl
              rotate_left
              · simp only [Act.put, sA, s0_, sS, i64_w, i32_w]
                rfl
              refine pure_ (i := 9) (N := some 108) (v := ?_) (a' := ?_) #[T,T,T,T,T,T,T,T,T,T,F,F,F,F,F,F,F,F,F,F,F,F,F,F] rfl rfl (by kernel_rfl) (fun _ _ _ h => h) (Or.inl ⟨by rfl, ?_⟩) ?_ ?_
              rotate_left
              · intro w'
                go_simp
                with_reducible rfl
              rotate_left
              · simp only [Act.put, sA, s0_, sS, i64_w, i32_w]
                rfl
              refine pure_ (i := 10) (N := some 109) (v := ?_) (a' := ?_) #[T,T,T,T,T,T,T,T,T,T,T,F,F,F,F,F,F,F,F,F,F,F,F,F] rfl rfl (by kernel_rfl) (fun _ _ _ h => h) (Or.inl ⟨by rfl, ?_⟩) ?_ ?_
              rotate_left
              · intro w'
                go_simp
                with_reducible rfl
              rotate_left
              · simp only [Act.put, sA, s0_, sS, i64_w, i32_w]
                rfl
              refine pure_ (i := 11) (N := some 110) (v := ?_) (a' := ?_) #[T,T,T,T,T,T,T,T,T,T,T,T,F,F,F,F,F,F,F,F,F,F,F,F] rfl rfl (by kernel_rfl) (fun _ _ _ h => h) (Or.inl ⟨by rfl, ?_⟩) ?_ ?_
              rotate_left
              · intro w'
                go_simp
                with_reducible rfl
              rotate_left
              · simp only [Act.put, sA, s0_, sS, i64_w, i32_w]
                rfl
              refine pure_ (i := 12) (N := some 111) (v := ?_) (a' := ?_) #[T,T,T,T,T,T,T,T,T,T,T,T,T,F,F,F,F,F,F,F,F,F,F,F] rfl rfl (by kernel_rfl) (fun _ _ _ h => h) (Or.inl ⟨by rfl, ?_⟩) ?_ ?_
              rotate_left
              · intro w'
                go_simp
                with_reducible rfl
              rotate_left
              · simp only [Act.put, sA, s0_, sS, i64_w, i32_w]
                rfl
              refine pure_ (i := 13) (N := some 112) (v := ?_) (a' := ?_) #[T,T,T,T,T,T,T,T,T,T,T,T,T,T,F,F,F,F,F,F,F,F,F,F] rfl rfl (by kernel_rfl) (fun _ _ _ h => h) (Or.inl ⟨by rfl, ?_⟩) ?_ ?_
              rotate_left
              · intro w'
                go_simp
                with_reducible rfl
              rotate_left
              · simp only [Act.put, sA, s0_, sS, i64_w, i32_w]
                rfl
              refine take_ (i := 14) (N := some 113) (v := ?_) (a' := ?_) #[T,T,T,T,T,T,T,T,T,T,T,T,T,T,T,F,F,F,F,F,F,F,F,F] rfl rfl (by kernel_rfl) (fun _ _ _ h => h) (Or.inl ⟨by rfl, ?_⟩) hHeld ?_ ?_
              rotate_left
              · intro w' s0
                go_simp
                with_reducible rfl
              rotate_left
              · simp only [Act.put, sA, s0_, sS, i64_w, i32_w]
                rfl
              refine pure_ (i := 15) (N := some 114) (v := ?_) (a' := ?_) #[T,T,T,T,T,T,T,T,T,T,T,T,T,T,T,T,F,F,F,F,F,F,F,F] rfl rfl (by kernel_rfl) (fun _ _ _ h => h) (Or.inl ⟨by rfl, ?_⟩) ?_ ?_
              rotate_left
              · intro w'
                go_simp
                with_reducible rfl
              rotate_left
              · simp only [Act.put, sA, s0_, sS, i64_w, i32_w]
                rfl
              refine pure_ (i := 16) (N := some 115) (v := ?_) (a' := ?_) #[T,T,T,T,T,T,T,T,T,T,T,T,T,T,T,T,T,F,F,F,F,F,F,F] rfl rfl (by kernel_rfl) (fun _ _ _ h => h) (Or.inl ⟨by rfl, ?_⟩) ?_ ?_
              rotate_left
              · intro w'
                go_simp
                with_reducible rfl
              rotate_left
              · simp only [Act.put, sA, s0_, sS, i64_w, i32_w]
                rfl
              refine pure_ (i := 17) (N := some 116) (v := ?_) (a' := ?_) #[T,T,T,T,T,T,T,T,T,T,T,T,T,T,T,T,T,T,F,F,F,F,F,F] rfl rfl (by kernel_rfl) (fun _ _ _ h => h) (Or.inl ⟨by rfl, ?_⟩) ?_ ?_
              rotate_left
              · intro w'
                go_simp
                with_reducible rfl
              rotate_left
              · simp only [Act.put, sA, s0_, sS, i64_w, i32_w]
                rfl
              refine pure_ (i := 18) (N := some 117) (v := ?_) (a' := ?_) #[T,T,T,T,T,T,T,T,T,T,T,T,T,T,T,T,T,T,T,F,F,F,F,F] rfl rfl (by kernel_rfl) (fun _ _ _ h => h) (Or.inl ⟨by rfl, ?_⟩) ?_ ?_
              rotate_left
              · intro w'
                go_simp
                with_reducible rfl
              rotate_left
              · simp only [Act.put, sA, s0_, sS, i64_w, i32_w]
                rfl
              refine take_ (i := 19) (N := some 118) (v := ?_) (a' := ?_) #[T,T,T,T,T,T,T,T,T,T,T,T,T,T,T,T,T,T,T,T,F,F,F,F] rfl rfl (by kernel_rfl) (fun _ _ _ h => h) (Or.inl ⟨by rfl, ?_⟩) hHeld ?_ ?_
              rotate_left
              · intro w' s0
                go_simp
                with_reducible rfl
              rotate_left
              · simp only [Act.put, sA, s0_, sS, i64_w, i32_w]
                rfl
              refine pure_ (i := 20) (N := some 119) (v := ?_) (a' := ?_) #[T,T,T,T,T,T,T,T,T,T,T,T,T,T,T,T,T,T,T,T,T,F,F,F] rfl rfl (by kernel_rfl) (fun _ _ _ h => h) (Or.inl ⟨by rfl, ?_⟩) ?_ ?_
              rotate_left
              · intro w'
                go_simp
                with_reducible rfl
              rotate_left
              · simp only [Act.put, sA, s0_, sS, i64_w, i32_w]
                rfl
              refine pure_ (i := 21) (N := some 120) (v := ?_) (a' := ?_) #[T,T,T,T,T,T,T,T,T,T,T,T,T,T,T,T,T,T,T,T,T,T,F,F] rfl rfl (by kernel_rfl) (fun _ _ _ h => h) (Or.inl ⟨by rfl, ?_⟩) ?_ ?_
              rotate_left
              · intro w'
                go_simp
                with_reducible rfl
              rotate_left
              · simp only [Act.put, sA, s0_, sS, i64_w, i32_w]
                rfl
              refine one_ (i := 22) (N := some 121) #[T,T,T,T,T,T,T,T,T,T,T,T,T,T,T,T,T,T,T,T,T,T,T,F] rfl rfl (by kernel_rfl) (by decide) (fun K hK => ?_)
              refine goes_ Try.func14 (by kernel_rfl) rfl #[.slice (some ⟨ga, lo, none⟩) p (ca - lo), .slice (some ⟨gb, lo, none⟩) p (cb - lo)] (by rfl) rfl rfl (by (try simp only [List.map_toArray, List.map_cons, List.map_nil]); first | done | rfl) ?_
              with_reducible refine (KS.out wd BD.out).mono ?_
              rintro e w10 ⟨rfl, hd10⟩
              refine ⟨_, rfl, ?_⟩
              have B10 := Aside0.mk (BD.out.trans (hd10.below.mono BD.out.size))
              clear hd10
              refine hK.out _ _ (by exact pw_cell_below B10.out c0) (fun hHeld => ?_)
              clear hK K
              refine norm_ (a' := ?_) ?_ ?_
              rotate_left
              · show Act.put _ (some 121) _ = _
                simp only [Act.put, sA, s0_, sS, i64_w, i32_w]
                rfl
              refine pure_ (i := 23) (N := some 122) (v := ?_) (a' := ?_) #[T,T,T,T,T,T,T,T,T,T,T,T,T,T,T,T,T,T,T,T,T,T,T,T] rfl rfl (by kernel_rfl) (fun _ _ _ h => h) (Or.inl ⟨by rfl, ?_⟩) ?_ ?_
              rotate_left
              · intro w'
                go_simp
                with_reducible rfl
              rotate_left
              · simp only [Act.put, sA, s0_, sS, i64_w, i32_w]
                rfl
              refine done_ (by kernel_rfl) ?_
              have RW := Aside0.mk (Kd.R_below SR.out B10.out)
              have OW := Aside0.mk (SO.out.trans (Only.of_below B10.out (Nat.le_trans W8.out.size SO.out.below.size)))
              obtain ⟨k0, k1⟩ := Kd.R_celln (0 : Int) RW.out (q : Int) (Int.natCast_nonneg q) (Int.ofNat_lt.2 LQ.out)
              rw [Int.toNat_natCast, show rdOf (0 : Int) Tq (q : Int) = rd TT (q : Int) from (ST.out q LQ.out).trans (if_neg (Nat.lt_irrefl q))] at k0
              rw [Int.toNat_natCast] at k1
              clear n5 n6 n7 e4 e5 BD c0 hHeld
              have m2 : (0 : Int) ≤ (q : Int) := Int.natCast_nonneg q
              have m3 : (q : Int) < (pg : Int) := Int.ofNat_lt.2 hqs
              cases sm with
              | true =>
                have g7 : decide (1 < rd TT (q : Int)) = false := decide_eq_false (by rcases INV.out q LQ.out with h | h <;> rw [h] <;> decide)
                obtain ⟨x, hx⟩ : ∃ x, rd TT (q : Int) = x := ⟨_, rfl⟩
                have HX := Aside0.mk hx
                rw [hx] at k0 g7
                clear hx
                go_wp2
                go_roundw
                case rel => exact ⟨q + 1, LQ.out, by congr 1 <;> simp, ⟨Tq, RW.out, fun j hj => by
                  rw [ST.out j hj]
                  by_cases e : j = q
                  · rw [e, if_neg (Nat.lt_irrefl q), if_pos (Nat.lt_succ_self q), HTF.out.2 q, if_pos (of_decide_eq_true HSM.out)]
                  · by_cases e2 : j < q
                    · rw [if_pos e2, if_pos (Nat.lt_succ_of_lt e2)]
                    · rw [if_neg e2, if_neg (fun h => (Nat.lt_or_eq_of_le (Nat.lt_succ_iff.1 h)).elim e2 e)], OW.out⟩⟩
                case measure =>
                  have := LQ.out
                  simp [intOf]
                  omega
              | false =>
                have h0 : rd TT (q : Int) = 0 := by
                  have h1 := HTF.out.1 q LQ.out
                  rw [HTF.out.2 q, if_neg (of_decide_eq_false HSM.out)] at h1
                  rcases INV.out q LQ.out with h | h
                  · exact h
                  · rw [h] at h1
                    rcases h1 with h1 | h1
                    · exact absurd h1 (by decide)
                    · exact absurd h1.1 (by decide)
                have H0 := Aside0.mk h0
                rw [h0] at k0
                clear h0
                go_wp2
                go_roundw
                case rel => exact ⟨q + 1, LQ.out, by congr 1 <;> simp, ⟨Tq.set q 1, by
                  have h := Kd.R_putn RW.out (q : Int) 1
                  rw [Int.toNat_natCast] at h
                  exact h, fun j hj => by
                  rw [rd_set Tq q j 1 (by rw [(R_C RW.out).2.1]; exact LQ.out), ST.out j hj]
                  by_cases e : j = q
                  · rw [if_pos e, e, if_pos (Nat.lt_succ_self q), HTF.out.2 q, if_neg (of_decide_eq_false HSM.out), H0.out]
                    rfl
                  · rw [if_neg e]
                    by_cases e2 : j < q
                    · rw [if_pos e2, if_pos (Nat.lt_succ_of_lt e2)]
                    · rw [if_neg e2, if_neg (fun h => (Nat.lt_or_eq_of_le (Nat.lt_succ_iff.1 h)).elim e2 e)], OW.out.trans (Only.set _ TG.out.2.1 q _)⟩⟩
                case measure =>
                  have := LQ.out
                  simp [intOf]
                  omega
            · have hqe : q = pg := Nat.le_antisymm hq (Nat.le_of_not_lt hqs)
              have g6 : decide ((q : Int) < (pg : Int)) = false := decide_eq_false (fun h => hqs (Int.ofNat_lt.1 h))
              have hm := hO.mv' (f := f7)
              have gf := NG.out.2.2
              have NEW : Aside0 (OnceSt W p s r (i + 1) bx db tid gt ct a wr f7 d7 Tq) := ⟨by
                have hTl : Tq.length = pg := (R_C hR).2.1
                have hpd : d7.pages = pg := (pages_of HGEO.out).trans PGD.out.1
                exact
                  { dev := X8.out.mv hm (by rw [gf]; exact fun e => NE.out.1 e.symm)
                    ok := HOK.out
                    un := HUN.out
                    row := by rw [HPG.out]; exact hR
                    inv := ⟨hTl.trans hpd.symm, fun j hj => by
                      rw [hpd] at hj
                      rw [hT j hj, hqe, if_pos hj]
                      exact HTF.out.1 j hj⟩
                    geo := ⟨HGEO.out.1.trans PGD.out.2.2.2, HGEO.out.2.1.trans PGD.out.2.1, HGEO.out.2.2.1.trans PGD.out.2.2.1⟩
                    box := hO.blk BX8.out NG.out.1
                    bow := BX7.out.2
                    ne := NE.out.1
                    bel := W8.out.trans hO.below
                    bxb := NE.out.2 }⟩
              clear hR hT hO hm gf S9 hqe c0
              go_wp2
              go_roundw
              case rel => exact ⟨i + 1, HL.out, by congr 1 <;> simp, ⟨_, _, _, NEW.out⟩⟩
              case measure =>
                have := HL.out
                simp [intOf]
                omega
    · have g2 : decide ((i : Int) < (n : Int)) = false := decide_eq_false (by omega)
      obtain ⟨f, d, TT, h⟩ := S.out
      have HB := Aside0.mk h.bel
      clear h S
      go_wp2
      go_ret
      exact ⟨rfl, HB.out⟩
end Go.Proofs.Ytnkbebdgkidbjaa.Flash
namespace Go.Proofs.Ytnkbebdgkidbjaa.Main
open Go.Proofs.Ytnkbebdgkidbjaa.Flash Go.Proofs.Ytnkbebdgkidbjaa.QFlashPlays
open Go.RowKit Go.Proofs.YtnkbebdgkidbjaaW.PrintWords Go.Proofs.YtnkbebdgkidbjaaW.PrintLast Go.Proofs.YtnkbebdgkidbjaaW.PrintMore
set_option linter.unusedVariables false
set_option linter.unusedSimpArgs false
theorem FlashOnce (W : World) (a0_0 : Int) (a0_1 : Int) (a0_2 : Int) (a0_3 : Int) (A1 : Option Addr) (c1 : Nat) (l1 : List (Int × (Int × ((List Int) × ((List (Int × (Int × Int))) × (Int × (Int × (List (Int × (Int × Int)))))))))) (w0_0 : (Lit.int .i64 a0_0).wf = true) (w0_1 : (Lit.int .i64 a0_1).wf = true) (w0_2 : (Lit.int .i64 a0_2).wf = true) (w0_3 : (Lit.int .i64 a0_3).wf = true) (hC1 : Kd.C (Kd.pair (Kd.int .i64) (Kd.pair (Kd.int .i64) (Kd.pair (Kd.slice 5 (Kd.int .u8)) (Kd.pair (Kd.slice 85 (Kd.pair (Kd.int .i64) (Kd.pair (Kd.int .i64) (Kd.int .i64)))) (Kd.pair (Kd.int .i64) (Kd.pair (Kd.int .i64) (Kd.slice 88 (Kd.pair (Kd.int .i64) (Kd.pair (Kd.int .i64) (Kd.int .i64)))))))))) W A1 l1.length l1) (hc1 : l1.length ≤ c1) (hG1 : (fun l => l.length * 104 ≤ 140737488351232 ∧ l.length ≤ 9223372036854775807 ∧ ∀ x ∈ l, (fun x => (fun x => (Lit.int .i64 x).wf = true) x.1 ∧ (fun x => (fun x => (Lit.int .i64 x).wf = true) x.1 ∧ (fun x => (fun l => l.length * 1 ≤ 140737488351232 ∧ l.length ≤ 9223372036854775807 ∧ ∀ x ∈ l, (fun x => (Lit.int .u8 x).wf = true) x) x.1 ∧ (fun x => (fun l => l.length * 24 ≤ 140737488351232 ∧ l.length ≤ 9223372036854775807 ∧ ∀ x ∈ l, (fun x => (fun x => (Lit.int .i64 x).wf = true) x.1 ∧ (fun x => (fun x => (Lit.int .i64 x).wf = true) x.1 ∧ (fun x => (Lit.int .i64 x).wf = true) x.2) x.2) x) x.1 ∧ (fun x => (fun x => (Lit.int .i64 x).wf = true) x.1 ∧ (fun x => (fun x => (Lit.int .i64 x).wf = true) x.1 ∧ (fun l => l.length * 24 ≤ 140737488351232 ∧ l.length ≤ 9223372036854775807 ∧ ∀ x ∈ l, (fun x => (fun x => (Lit.int .i64 x).wf = true) x.1 ∧ (fun x => (fun x => (Lit.int .i64 x).wf = true) x.1 ∧ (fun x => (Lit.int .i64 x).wf = true) x.2) x.2) x) x.2) x.2) x.2) x.2) x.2) x.2) x) l1) :
    Calls Try.prog 4 #[.agg #[.int .i64 a0_0, .int .i64 a0_1, .int .i64 a0_2, .int .i64 a0_3], .slice A1 l1.length c1] W fun e w' => e = .returned (.bool true) ∧ Below W.heap.size W w' := by
  have hfit : ∀ o ∈ l1, (opOf o).Fit := fun o ho => by
    have h := hG1.2.2 o ho
    exact fit_of h.2.2.1.1 h.2.2.1.2.2 h.2.2.2.1.1 h.2.2.2.2.2.2.1
  rcases geo_cases a0_0 a0_1 a0_2 a0_3 with ⟨p, s, r, rfl, rfl, rfl, ok⟩ | hk
  · exact once_yes W p s r a0_3 ok hC1 hfit hG1.1
  · exact once_no W a0_0 a0_1 a0_2 a0_3 hk
end Go.Proofs.Ytnkbebdgkidbjaa.Main
