/- The law FlashLoads, walked by hand; and the call.
   No condition. -/
import Derived.Test.YtnkbebdgkidbjaaFlK
import Derived.ArgAppend
import Derived.BigRegion
import Derived.Deep.QuietTactic
import Derived.BigQuiet
import Derived.Deep.RegionHeld3
import Derived.ChangeAlike
import Derived.RegionTactic
import Derived.Deep.DeepCutAuto
import Derived.Deep.CutBlock
import Derived.Deep.RegionLaw
import Derived.StillTailTactics
import Derived.WalkSpells
import Derived.Lib.SliceRun
import Derived.Laws.CopyRow
import Derived.Lib.SlBuf
import Derived.Lib.MakeNoZero
import Derived.Laws.BitsLemmas
import Derived.Lib.Bytes
import Derived.Lib.SlBytesConst
namespace Go.Proofs.Ytnkbebdgkidbjaa.Flash
open Go.Proofs.Ytnkbebdgkidbjaa.QFlashPlays
open Go.RowKit Go.Proofs.YtnkbebdgkidbjaaW.PrintWords Go.Proofs.YtnkbebdgkidbjaaW.PrintLast Go.Proofs.YtnkbebdgkidbjaaW.PrintMore
attribute [local go_sem] max2_int min2_int max_two min_two   -- for this text's walks alone
set_option linter.unusedVariables false
set_option linter.unusedSimpArgs false
/-! ### A page changes once between two erases -/
theorem op_b (d : Dv) (k : Nat) (act : Dv → Dv) : ((d.op k act).1.b = d.b ∨ (d.op k act).1.b = (act (d.count k)).b) := by
  unfold Dv.op
  split
  · exact .inr rfl
  · split
    · exact .inl rfl
    · exact .inr rfl
def Dv.geo (d d' : Dv) : Prop := d'.p = d.p ∧ d'.s = d.s ∧ d'.r = d.r ∧ d'.a = d.a
theorem Dv.geo_refl (d : Dv) : d.geo d := ⟨rfl, rfl, rfl, rfl⟩
theorem op_geo (d : Dv) (k : Nat) (act : Dv → Dv) (h : d.geo (act (d.count k))) : d.geo (d.op k act).1 := by
  unfold Dv.op
  split
  · exact h
  · split
    · exact d.geo_refl
    · exact h
theorem does_geo (d : Dv) (o : Op) : d.geo (d.does o).1 := by
  unfold Dv.does
  split
  · unfold Dv.program
    split
    · exact d.geo_refl
    · split
      · exact d.geo_refl
      · exact op_geo _ _ _ ⟨rfl, rfl, rfl, rfl⟩
  · split
    · unfold Dv.erase
      split
      · exact d.geo_refl
      · exact op_geo _ _ _ ⟨rfl, rfl, rfl, rfl⟩
    · split
      · exact op_geo _ _ _ ⟨rfl, rfl, rfl, rfl⟩
      · split
        · unfold Dv.fail
          split <;> exact ⟨rfl, rfl, rfl, rfl⟩
        · exact d.geo_refl
/-! ### Two devices that answer the same -/
structure Twin (d c : Dv) : Prop where
  p : c.p = d.p
  s : c.s = d.s
  r : c.r = d.r
  b : c.b = d.b
  un : c.un = d.un
  fd : d.fl = []
  fc : c.fl = []
theorem op_nil {d : Dv} (h : d.fl = []) (k : Nat) (act : Dv → Dv) : d.op k act = (act (d.count k), 0) := by
  have e : d.fault k = 0 := by
    unfold Dv.fault
    rw [h]
    rfl
  unfold Dv.op
  rw [if_pos e]
theorem Twin.page {d c : Dv} (t : Twin d c) (j : Nat) : c.page j = d.page j := by
  unfold Dv.page
  rw [t.b, t.p]
theorem Twin.clean {d c : Dv} (t : Twin d c) (j : Nat) : c.clean j = d.clean j := by
  unfold Dv.clean
  rw [t.page]
theorem Twin.nxt {d c : Dv} (t : Twin d c) (g : Nat) : c.nxt g = d.nxt g := by
  unfold Dv.nxt
  rw [t.s]
  exact lastD_congr _ _ _ (fun i _ => t.clean _)
theorem Twin.next {d c : Dv} (t : Twin d c) (g : Int) : c.next g = d.next g := by
  unfold Dv.next
  rw [t.r, t.s, t.nxt]
theorem Twin.pages {d c : Dv} (t : Twin d c) : c.pages = d.pages := by
  unfold Dv.pages
  rw [t.s, t.r]
theorem Twin.op {d c : Dv} (t : Twin d c) (k : Nat) (act : Dv → Dv) (h : Twin (act (d.count k)) (act (c.count k))) : (d.op k act).2 = (c.op k act).2 ∧ Twin (d.op k act).1 (c.op k act).1 := by
  rw [op_nil t.fd, op_nil t.fc]
  exact ⟨rfl, h⟩
theorem Twin.count {d c : Dv} (t : Twin d c) (k : Nat) : Twin (d.count k) (c.count k) := ⟨t.p, t.s, t.r, t.b, t.un, t.fd, t.fc⟩
theorem Twin.does {d c : Dv} (t : Twin d c) {o : Op} (h6 : o.k ≠ 6) : (d.does o).2 = (c.does o).2 ∧ Twin (d.does o).1 (c.does o).1 := by
  unfold Dv.does
  by_cases h1 : o.k = 1
  · rw [if_pos h1, if_pos h1]
    unfold Dv.program
    rw [t.pages, t.p, t.s, t.next]
    by_cases c1 : o.n < 0 ∨ (d.pages : Int) ≤ o.n ∨ o.x.length ≠ d.p
    · rw [if_pos c1, if_pos c1]; exact ⟨rfl, t⟩
    · rw [if_neg c1, if_neg c1]
      by_cases c2 : d.next (o.n.toNat / d.s : Nat) < 0 ∨ o.n < d.next (o.n.toNat / d.s : Nat)
      · rw [if_pos c2, if_pos c2]; exact ⟨rfl, t⟩
      · rw [if_neg c2, if_neg c2]
        refine t.op 2 _ ⟨t.p, t.s, t.r, ?_, ?_, t.fd, t.fc⟩
        · show putAt c.b (o.n.toNat * c.p) o.x = putAt d.b (o.n.toNat * d.p) o.x
          rw [t.b, t.p]
        · show (if isFF o.x then c.un else c.un ++ [((o.n.toNat : Nat) : Int)]) = (if isFF o.x then d.un else d.un ++ [((o.n.toNat : Nat) : Int)])
          rw [t.un]
  · rw [if_neg h1, if_neg h1]
    by_cases h3 : o.k = 3
    · rw [if_pos h3, if_pos h3]
      unfold Dv.erase
      rw [t.r]
      by_cases c1 : o.n < 0 ∨ (d.r : Int) ≤ o.n
      · rw [if_pos c1, if_pos c1]; exact ⟨rfl, t⟩
      · rw [if_neg c1, if_neg c1]
        refine t.op 3 _ ⟨t.p, t.s, t.r, ?_, ?_, t.fd, t.fc⟩
        · show putAt c.b (o.n.toNat * c.s * c.p) (List.replicate (c.s * c.p) 255) = putAt d.b (o.n.toNat * d.s * d.p) (List.replicate (d.s * d.p) 255)
          rw [t.b, t.p, t.s]
        · show (c.un.filter fun q => q < ((o.n.toNat * c.s : Nat) : Int) || ((o.n.toNat * c.s + c.s : Nat) : Int) ≤ q) = d.un.filter fun q => q < ((o.n.toNat * d.s : Nat) : Int) || ((o.n.toNat * d.s + d.s : Nat) : Int) ≤ q
          rw [t.un, t.s]
    · rw [if_neg h3, if_neg h3]
      by_cases h4 : o.k = 4
      · rw [if_pos h4, if_pos h4]
        exact t.op 4 _ ⟨t.p, t.s, t.r, t.b, rfl, t.fd, t.fc⟩
      · rw [if_neg h4, if_neg h4, if_neg h6, if_neg h6]
        exact ⟨rfl, t⟩
theorem Twin.read {d c : Dv} (t : Twin d c) (n : Int) : (d.read n).2 = (c.read n).2 ∧ Twin (d.read n).1 (c.read n).1 ∧ (d.read n).1.un = d.un := by
  unfold Dv.read
  rw [t.pages]
  by_cases c1 : n < 0 ∨ (d.pages : Int) ≤ n
  · rw [if_pos c1, if_pos c1]; exact ⟨rfl, t, rfl⟩
  · rw [if_neg c1, if_neg c1, op_nil t.fd, op_nil t.fc]
    refine ⟨?_, t.count 1, rfl⟩
    show ((if (0 : Int) = 0 then d.page n.toNat else []), (0 : Int)) = ((if (0 : Int) = 0 then c.page n.toNat else []), (0 : Int))
    rw [t.page]
theorem does_fl {d : Dv} (h : d.fl = []) {o : Op} (h6 : o.k ≠ 6) : (d.does o).1.fl = [] := by
  have t : Twin d d := ⟨rfl, rfl, rfl, rfl, rfl, h, h⟩
  exact (t.does h6).2.fd
/-! ### FlashLoads -/
section
variable {B : Nat} {f : Owner} {w : World} {db : Nat} {d : Dv}
set_option maxHeartbeats 2000000 in
set_option maxRecDepth 100000 in
theorem unsynced2 (h : DevX B f w db d) (ok : d.Ok) (hl : d.un.length ≤ 17592186044415) : Calls Try.prog 16 #[.pointer (some ⟨db, 0, none⟩)] w (Made (Kd.int .i64) 3 w d.un) := by
  have KM := Aside0.mk (h.made ok)
  obtain ⟨im, imc, vu, vf, vw, hg⟩ := h
  obtain ⟨Au, cu, ev, hle, hC⟩ := Kd.R_reads hg.un
  subst ev
  have KC := Aside0.mk (clone41 (c := cu) hC hle (by omega))
  have c5 : w.cell? ⟨db, 5, none⟩ = some (.slice Au d.un.length cu) := hg.at_ 5
  obtain ⟨n, hn⟩ : ∃ n, d.un.length = n := ⟨_, rfl⟩
  rw [hn] at KC c5
  clear hg ok hle hC hn hl
  go_enter Try.func16, Try.ntmps16
  go_wp2_with (first
    | (go_at_call 39; refine KM.out.mono ?_; rintro e w' ⟨rfl, rfl⟩)
    | (go_at_call 41; refine KC.out.mono ?_; rintro e w2 ⟨v, rfl, hR, hb⟩; have HR := Aside0.mk hR; have HB := Aside0.mk hb; clear hR hb))
  go_ret
  exact ⟨_, rfl, HR.out, HB.out⟩
end
set_option maxHeartbeats 4000000 in
set_option maxRecDepth 100000 in
theorem loads_no (W : World) (p s r a : Int) (hk : chk p s r a = 20) {A A2 : Option Addr} {n c n2 c2 : Nat} : Calls Try.prog 7 #[.agg #[.int .i64 p, .int .i64 s, .int .i64 r, .int .i64 a], .slice A n c, .slice A2 n2 c2] W (Near W (.bool true)) := by
  have q3 := nil26'
  have KN := Aside0.mk (fun (w : World) => new_no (w := w) hk)
  have BX : Aside0 (Below W.heap.size W (W.alloc (.cells #[.int .i64 p, .int .i64 s, .int .i64 r, .int .i64 a] 23))) := ⟨below_alloc (Below.refl _ _) _⟩
  have bb := blk_new W (.cells #[.int .i64 p, .int .i64 s, .int .i64 r, .int .i64 a] 23)
  clear hk
  go_enter Try.func7, Try.ntmps7
  go_upto_region 1 with (fail)
  generalize hw1 : W.alloc (.cells #[.int .i64 p, .int .i64 s, .int .i64 r, .int .i64 a] 23) = w1 at bb BX ⊢
  clear hw1
  obtain ⟨bx, hbx⟩ : ∃ bx, W.heap.size = bx := ⟨_, rfl⟩
  have HBX := Aside0.mk hbx
  rw [hbx] at bb
  rw [hbx]
  have GC := Aside0.mk (fun (w' : World) (hb : Below w1.heap.size w1 w') => (show w'.cell? ⟨bx, 0, none⟩ = some (.int .i64 p) ∧ w'.cell? ⟨bx, 1, none⟩ = some (.int .i64 s) ∧ w'.cell? ⟨bx, 2, none⟩ = some (.int .i64 r) ∧ w'.cell? ⟨bx, 3, none⟩ = some (.int .i64 a) from ⟨blk_cell (blk_below bb hb) 0, blk_cell (blk_below bb hb) 1, blk_cell (blk_below bb hb) 2, blk_cell (blk_below bb hb) 3⟩))
  clear bb hbx
  go_wp2_with (first
    | (go_at_call 11; refine (lives_walk _).mono ?_; rintro e w2 ⟨rfl, hb2⟩; have B2 := Aside0.mk hb2; obtain ⟨c0, c1, c2, c3⟩ := GC.out _ hb2; clear hb2)
    | (go_at_call 12; refine (KN.out _).mono ?_; rintro e w3 ⟨rfl, hb3⟩; have B3 := Aside0.mk (B2.out.trans (hb3.mono B2.out.size)); clear hb3))
  go_ret
  exact ⟨rfl, BX.out.trans (B3.out.mono BX.out.size)⟩
theorem open_row' {w : World} {B L : Nat} {ok : Nat → Prop} {v : Value} {l : List Int} (h : (Kd.int .u8).R 5 w B ok v l) (hl : l.length = L) (h1 : 1 ≤ L) : ∃ g c, v = .slice (some ⟨g, 0, none⟩) L c := by
  obtain ⟨_, hn | ⟨g, cap', cur, e, _⟩⟩ := Kd.own_of_R h
  · rw [hl] at hn; exact absurd hn.2 (by omega)
  · rw [hl] at e; exact ⟨g, _, e⟩
theorem next_x {B : Nat} {f : Owner} {w : World} {db : Nat} {d : Dv} (h : DevX B f w db d) (ok : d.Ok) {g nx : Int} (hn : d.next g = nx) : Calls Try.prog 28 #[.pointer (some ⟨db, 0, none⟩), .int .i64 g] w (fun e w' => e = .returned (.int .i64 nx) ∧ Below w.heap.size w w') := by
  obtain ⟨_, _, _, _, _, hg⟩ := h
  rw [← hn]
  exact next_walk hg ok g
/-- Other owners, the same ones for the device's own blocks. -/
theorem DevX.reown {B : Nat} {f g : Owner} {w : World} {db : Nat} {d : Dv} (h : DevX B f w db d) (hg : ∀ k, f k = db → g k = db) : DevX B g w db d := by
  obtain ⟨im, imc, vu, vf, vw, h⟩ := h
  exact ⟨im, imc, vu, vf, vw, { blk := h.blk, own := hg _ h.own, base := h.base, img := h.img, imo := hg _ h.imo, imb := h.imb, un := Kd.R_mono h.un (fun k hk => hg k hk), fl := Kd.R_mono h.fl (fun k hk => hg k hk), wr := Kd.R_mono h.wr (fun k hk => hg k hk), ne := h.ne }⟩
/-- What holds between two calls of the first script. -/
structure LoadSt (W : World) (p s r i : Nat) (bx db : Nat) (a : Int) (wr : World) (f : Owner) (d : Dv) : Prop where
  dev : DevX W.heap.size f wr db d
  ok : d.Ok
  un : d.un.length ≤ i
  fl : d.fl = []
  geo : d.p = p ∧ d.s = s ∧ d.r = r
  box : wr.heap[bx]? = some (.cells #[.int .i64 p, .int .i64 s, .int .i64 r, .int .i64 a] 23 (0, 0))
  bow : f bx ≠ db
  bel : Below W.heap.size W wr
/-- What holds between two calls of the second. -/
structure BothSt (W : World) (i : Nat) (db cb : Nat) (wr : World) (f : Owner) (d c : Dv) : Prop where
  dev : DevX W.heap.size f wr db d
  cev : DevX W.heap.size f wr cb c
  ne : db ≠ cb
  ok : d.Ok
  okc : c.Ok
  tw : Twin d c
  un : d.un.length ≤ i
  bel : Below W.heap.size W wr
set_option maxHeartbeats 16000000 in
set_option maxRecDepth 100000 in
theorem loads_yes (W : World) (p s r : Nat) (a : Int) (hk : Geo.Ok p s r a) {A A2 : Option Addr} {c c2 : Nat} {l l2 : List OpT} (hC : kOp.C W A l.length l) (hfit : ∀ o ∈ l, (opOf o).Fit) (hl : l.length * 104 ≤ 140737488351232) (hC2 : kOp.C W A2 l2.length l2) (hfit2 : ∀ o ∈ l2, (opOf o).Fit) (hl2 : l2.length * 104 ≤ 140737488351232) :
    Calls Try.prog 7 #[.agg #[.int .i64 p, .int .i64 s, .int .i64 r, .int .i64 a], .slice A l.length c, .slice A2 l2.length c2] W (Near W (.bool true)) := by
  have OKD := Aside0.mk (fresh_ok hk)
  have KLD := Aside0.mk (fun (w : World) (A : Option Addr) (c : Nat) (x : List Int) (h : (Kd.int .u8).C w A x.length x) => load_walk (w := w) hk (c := c) h)
  have HC2 := Aside0.mk hC2
  have HF2 := Aside0.mk (And.intro hfit2 hl2)
  obtain ⟨n2, hn2⟩ : ∃ n2, l2.length = n2 := ⟨_, rfl⟩
  have HN2 := Aside0.mk hn2
  rw [hn2] at HC2
  rw [hn2]
  clear hC2 hfit2 hl2 hn2
  have KN := Aside0.mk (fun (w : World) => new_yes (w := w) hk)
  have BX : Aside0 (Below W.heap.size W (W.alloc (.cells #[.int .i64 p, .int .i64 s, .int .i64 r, .int .i64 a] 23))) := ⟨below_alloc (Below.refl _ _) _⟩
  have bb := blk_new W (.cells #[.int .i64 p, .int .i64 s, .int .i64 r, .int .i64 a] 23)
  have HC := Aside0.mk hC
  have HF := Aside0.mk (And.intro hfit hl)
  obtain ⟨n, hn⟩ : ∃ n, l.length = n := ⟨_, rfl⟩
  have HN := Aside0.mk hn
  rw [hn] at HC
  rw [hn]
  have HD0 : Aside0 ((Dv.fresh p s r a).un = [] ∧ (Dv.fresh p s r a).fl = [] ∧ (Dv.fresh p s r a).p = p ∧ (Dv.fresh p s r a).s = s ∧ (Dv.fresh p s r a).r = r) := ⟨rfl, rfl, rfl, rfl, rfl⟩
  obtain ⟨d0, hd0⟩ : ∃ d0, Dv.fresh p s r a = d0 := ⟨_, rfl⟩
  rw [hd0] at OKD KN HD0
  have hn44 : n ≤ 17592186044416 := by rw [← HN.out]; have := HF.out.2; omega
  have hn45 : n2 ≤ 17592186044416 := by rw [← HN2.out]; have := HF2.out.2; omega
  clear hC hfit hl hn hd0 hk
  go_enter Try.func7, Try.ntmps7
  go_upto_region 1 with (fail)
  generalize hw1 : W.alloc (.cells #[.int .i64 p, .int .i64 s, .int .i64 r, .int .i64 a] 23) = w1 at bb BX ⊢
  clear hw1
  obtain ⟨bx, hbx⟩ : ∃ bx, W.heap.size = bx := ⟨_, rfl⟩
  have HBX := Aside0.mk hbx
  rw [hbx] at bb
  rw [hbx]
  have BB := Aside0.mk bb
  have GC := Aside0.mk (fun (w' : World) (hb : Below w1.heap.size w1 w') => (show w'.cell? ⟨bx, 0, none⟩ = some (.int .i64 p) ∧ w'.cell? ⟨bx, 1, none⟩ = some (.int .i64 s) ∧ w'.cell? ⟨bx, 2, none⟩ = some (.int .i64 r) ∧ w'.cell? ⟨bx, 3, none⟩ = some (.int .i64 a) from ⟨blk_cell (blk_below bb hb) 0, blk_cell (blk_below bb hb) 1, blk_cell (blk_below bb hb) 2, blk_cell (blk_below bb hb) 3⟩))
  clear bb hbx
  go_upto_region 6 with (first
    | (go_at_call 11; refine (lives_walk _).mono ?_; rintro e w2 ⟨rfl, hb2⟩; have B2 := Aside0.mk hb2; obtain ⟨c0, c1, c2, c3⟩ := GC.out _ hb2; clear hb2)
    | (go_at_call 12; refine (KN.out _).mono ?_; rintro e w3 ⟨hb3, db, rfl, hdb, hall⟩; have B3 := Aside0.mk hb3; have HD3 := Aside0.mk hall; have LD3 := Aside0.mk hdb; clear hb3 hall hdb c0 c1 c2 c3; obtain ⟨c0, c1, c2, c3⟩ := GC.out _ (B2.out.trans (B3.out.mono B2.out.size))))
  have S0 : Aside0 (∃ f d, LoadSt W p s r 0 bx db a w3 f d) := ⟨by
    have h12 := Nat.le_trans BX.out.size B2.out.size
    have hx3 : DevX W.heap.size (owns (fun k => k) w2.heap.size db) w3 db d0 := HD3.out _ _ h12
    have hbx2 : bx < w2.heap.size := Nat.lt_of_lt_of_le (blk_lt BB.out) B2.out.size
    have ldb := LD3.out
    exact ⟨_, d0,
      { dev := hx3
        ok := OKD.out
        un := by rw [HD0.out.1]; exact Nat.le_refl _
        fl := HD0.out.2.1
        geo := HD0.out.2.2
        box := blk_below (blk_below BB.out B2.out) B3.out
        bow := by rw [owns_old _ _ _ bx hbx2]; omega
        bel := (BX.out.trans (B2.out.mono BX.out.size)).trans (B3.out.mono h12) }⟩⟩
  clear HD3 LD3 B3 B2 c0 c1 c2 c3 GC BB KN OKD HD0
  go_wp2
  go_loopw [9] (fun v wr => ∃ i : Nat, i ≤ n ∧ v = .int .i64 (i : Int) ∧ Aside0 (∃ f d, LoadSt W p s r i bx db a wr f d)) (fun v _ => n - (intOf v).toNat)
  case atStart => exact ⟨0, Nat.zero_le _, rfl, S0⟩
  case round =>
    obtain ⟨i, hi, rfl, S⟩ := hrel
    by_cases hlt : i < n
    · have m0 : (0 : Int) ≤ (i : Int) := by omega
      have m1 : (i : Int) < (n : Int) := by omega
      have g2 : decide ((i : Int) < (n : Int)) = true := decide_eq_true m1
      obtain ⟨f, d, h⟩ := S.out
      obtain ⟨ad, o, cs, eA, ho, hV, hcell⟩ := at_op HC.out i hlt
      subst eA
      have HV := Aside0.mk hV
      obtain ⟨Ax, cx, Af, cf, Ac, cc, ecs, _⟩ := hV.is
      have hcw := fun (j : Nat) (u : Value) (hj : cs[j]? = some u) => (pw_cell_below h.bel (hcell j u hj))
      subst ecs
      have x0 : wr.cell? (ad.add (i * 7)) = some (.int .i64 (opOf o).k) := hcw 0 _ rfl
      have x1 : wr.cell? ⟨(ad.add (i * 7)).block, (ad.add (i * 7)).off + 1, none⟩ = some (.int .i64 (opOf o).n) := by rw [← add_field _ _ 1 (by omega)]; exact hcw 1 _ rfl
      have x2 : wr.cell? ⟨(ad.add (i * 7)).block, (ad.add (i * 7)).off + 2, none⟩ = some (.slice Ax (opOf o).x.length cx) := by rw [← add_field _ _ 2 (by omega)]; exact hcw 2 _ rfl
      have x3 : wr.cell? ⟨(ad.add (i * 7)).block, (ad.add (i * 7)).off + 3, none⟩ = some (.slice Af (opOf o).fl.length cf) := by rw [← add_field _ _ 3 (by omega)]; exact hcw 3 _ rfl
      have x4 : wr.cell? ⟨(ad.add (i * 7)).block, (ad.add (i * 7)).off + 4, none⟩ = some (.int .i64 (opOf o).st) := by rw [← add_field _ _ 4 (by omega)]; exact hcw 4 _ rfl
      have x5 : wr.cell? ⟨(ad.add (i * 7)).block, (ad.add (i * 7)).off + 5, none⟩ = some (.int .i64 (opOf o).re) := by rw [← add_field _ _ 5 (by omega)]; exact hcw 5 _ rfl
      have x6 : wr.cell? ⟨(ad.add (i * 7)).block, (ad.add (i * 7)).off + 6, none⟩ = some (.slice Ac (opOf o).ft.length cc) := by rw [← add_field _ _ 6 (by omega)]; exact hcw 6 _ rfl
      have HH := Aside0.mk h
      have HO := Aside0.mk (HF.out.1 o (List.mem_of_getElem? ho))
      obtain ⟨q, hq⟩ : ∃ q, opOf o = q := ⟨_, rfl⟩
      rw [hq] at HV HO x0 x1 x2 x3 x4 x5 x6
      have HL := Aside0.mk hlt
      clear h hV hcell hcw ho hq S
      by_cases h6 : q.k = 6
      · have g6 : (q.k != 6) = false := by rw [h6]; rfl
        have NEW : Aside0 (LoadSt W p s r (i + 1) bx db a wr f d) := ⟨⟨HH.out.dev, HH.out.ok, Nat.le_succ_of_le HH.out.un, HH.out.fl, HH.out.geo, HH.out.box, HH.out.bow, HH.out.bel⟩⟩
        obtain ⟨k, hk⟩ : ∃ k, q.k = k := ⟨_, rfl⟩
        rw [hk] at x0 g6
        clear h6 hk
        go_wp2
        go_roundw
        case rel => exact ⟨i + 1, HL.out, by congr 1 <;> simp, ⟨_, _, NEW.out⟩⟩
        case measure =>
          have := HL.out
          simp [intOf]
          omega
      · have g6 : (q.k != 6) = true := bne_iff_ne.2 h6
        have H6 := Aside0.mk h6
        have hun : (d.un.length + 1) * 8 ≤ 140737488355328 := by
          have h1 := HH.out.un
          have h2 := HL.out
          have h3 := HF.out.2
          have h4 := HN.out
          omega
        have KD := Aside0.mk (does_walk HH.out.dev HH.out.bel HH.out.ok hun HV.out HO.out)
        obtain ⟨k, no, xo, flo, sto, reo, fto⟩ := q
        obtain ⟨lx, hlx⟩ : ∃ lx, xo.length = lx := ⟨_, rfl⟩
        obtain ⟨lf, hlf⟩ : ∃ lf, flo.length = lf := ⟨_, rfl⟩
        obtain ⟨lc, hlc⟩ : ∃ lc, fto.length = lc := ⟨_, rfl⟩
        simp only [hlx, hlf, hlc] at KD x2 x3 x6
        clear hun h6 hlx hlf hlc
        go_wp2_with (go_at_call 22; refine KD.out.mono ?_; rintro e w7 ⟨rfl, h7⟩; have S7 := Aside0.mk h7; clear h7)
        go_roundw
        case rel =>
          obtain ⟨f7, hx7, m7⟩ := S7.out
          have ge := does_geo d ⟨k, no, xo, flo, sto, reo, fto⟩
          exact ⟨i + 1, HL.out, by congr 1 <;> simp, ⟨f7, _,
            { dev := hx7
              ok := does_ok HH.out.ok HO.out
              un := Nat.le_trans (does_un d _) (Nat.succ_le_succ HH.out.un)
              fl := does_fl HH.out.fl H6.out
              geo := ⟨ge.1.trans HH.out.geo.1, ge.2.1.trans HH.out.geo.2.1, ge.2.2.1.trans HH.out.geo.2.2⟩
              box := m7.blk HH.out.box HH.out.bow
              bow := by rw [m7.own_at HH.out.box]; exact HH.out.bow
              bel := HH.out.bel.trans m7.below }⟩⟩
        case measure =>
          have := HL.out
          simp [intOf]
          omega
    · have g2 : decide ((i : Int) < (n : Int)) = false := decide_eq_false (by omega)
      obtain ⟨f, d, h⟩ := S.out
      have HH := Aside0.mk h
      have hul : d.un.length < 17592186044416 := by have := h.un; have := HF.out.2; have := HN.out; omega
      have KC : Aside0 (Calls Try.prog 25 #[.pointer (some ⟨db, 0, none⟩), .agg #[.int .i64 0, .int .i64 1, .slice none 0 0]] wr (fun e w' => e = .returned (.int .i64 0) ∧ DevA W.heap.size f wr db { d with un := [] } w')) := ⟨by
        have hc := crash_walk h.dev h.ok hul (st := 0) (re := 1) (A := none) (cc := 0) (fts := []) (fun w' _ => ⟨rfl, by decide, fun h => absurd h (by decide)⟩) (by decide) (by decide) (fun q _ => ⟨.inl rfl, by show (0 : Int) ≤ 0; decide, by show (0 : Int) ≤ _; omega⟩) (fun w' _ => right_nil w' _ _ _ _ 1 (.inl rfl))
        rw [crash_kept h.ok] at hc
        exact hc⟩
      have OK8 : Aside0 ({ d with un := [] } : Dv).Ok := ⟨⟨h.ok.p1, h.ok.p2, h.ok.s1, h.ok.s2, h.ok.r1, h.ok.r2, h.ok.sz, h.ok.len, h.ok.byte, h.ok.wl, fun q hq => by simp at hq, h.ok.flk, h.ok.fll⟩⟩
      have D8 : Aside0 (({ d with un := [] } : Dv).un = [] ∧ ({ d with un := [] } : Dv).fl = [] ∧ ({ d with un := [] } : Dv).p = p ∧ ({ d with un := [] } : Dv).s = s ∧ ({ d with un := [] } : Dv).r = r) := ⟨rfl, h.fl, h.geo⟩
      obtain ⟨d8, hd8⟩ : ∃ d8 : Dv, { d with un := [] } = d8 := ⟨_, rfl⟩
      rw [hd8] at KC OK8 D8
      clear h hd8 hul S
      go_upto_region 13 with (go_at_call 25; refine KC.out.mono ?_; rintro e w8 ⟨rfl, h8⟩; have S8 := Aside0.mk h8; clear h8)
      obtain ⟨f8, hx8, m8⟩ := S8.out
      have X8 := Aside0.mk hx8
      have W8 := Aside0.mk (HH.out.bel.trans m8.below)
      have bxw := m8.blk HH.out.box HH.out.bow
      have c0 := blk_cell bxw 0
      have c1 := blk_cell bxw 1
      have c2 := blk_cell bxw 2
      have c3 := blk_cell bxw 3
      have KI := Aside0.mk (fun (w' : World) (hb : Below w8.heap.size w8 w') => image_walk (hx8.below hb) OK8.out)
      obtain ⟨L, hL⟩ : ∃ L, d8.b.length = L := ⟨_, rfl⟩
      have HL := Aside0.mk hL
      have HL1 : Aside0 (1 ≤ L ∧ L = p * s * r) := ⟨by rw [← hL]; exact DevG.pos OK8.out, by rw [← hL, OK8.out.len, D8.out.2.2.1, D8.out.2.2.2.1, D8.out.2.2.2.2]⟩
      have HDL : Aside0 (Twin d8 { Dv.fresh p s r a with b := d8.b } ∧ ({ Dv.fresh p s r a with b := d8.b } : Dv).Ok) := ⟨⟨D8.out.2.2.1.symm, D8.out.2.2.2.1.symm, D8.out.2.2.2.2.symm, rfl, D8.out.1.symm, D8.out.2.1, rfl⟩, by
        have o := OK8.out
        have e1 := D8.out.2.2.1
        have e2 := D8.out.2.2.2.1
        have e3 := D8.out.2.2.2.2
        exact ⟨by show 16 ≤ p; rw [← e1]; exact o.p1, by show p ≤ 4096; rw [← e1]; exact o.p2, by show 1 ≤ s; rw [← e2]; exact o.s1, by show s ≤ 64; rw [← e2]; exact o.s2, by show 2 ≤ r; rw [← e3]; exact o.r1, by show r ≤ 256; rw [← e3]; exact o.r2, by show p * s * r ≤ 1048576; rw [← e1, ← e2, ← e3]; exact o.sz, by show d8.b.length = p * s * r; rw [← e1, ← e2, ← e3]; exact o.len, o.byte, by show (List.replicate r (0 : Int)).length = r; exact List.length_replicate .., fun q hq => by simp [Dv.fresh] at hq, fun f hf => by simp [Dv.fresh] at hf, by show 0 ≤ 64; decide⟩⟩
      have KL8 := Aside0.mk (fun (w' : World) (A : Option Addr) (c : Nat) (h : (Kd.int .u8).C w' A L d8.b) => (show Calls Try.prog 17 #[.agg #[.int .i64 p, .int .i64 s, .int .i64 r, .int .i64 a], .slice A L c] w' (NewSt w' { Dv.fresh p s r a with b := d8.b }) from by
        have hk := KLD.out w' A c d8.b (by rw [HL.out]; exact h)
        rw [HL.out] at hk
        exact hk.mono (fun e w'' hh => by rw [if_pos HL1.out.2] at hh; exact hh)))
      obtain ⟨dl, hdl⟩ : ∃ dl : Dv, { Dv.fresh p s r a with b := d8.b } = dl := ⟨_, rfl⟩
      rw [hdl] at HDL KL8
      clear hx8 m8 bxw hL hdl KLD KC
      refine start_ (n := 9) (S := fun w' => w'.cell? ⟨bx, 0, none⟩ = some (.int .i64 (p : Int)) ∧ w'.cell? ⟨bx, 1, none⟩ = some (.int .i64 (s : Int)) ∧ w'.cell? ⟨bx, 2, none⟩ = some (.int .i64 (r : Int)) ∧ w'.cell? ⟨bx, 3, none⟩ = some (.int .i64 (a : Int))) (ds := []) #[F,F,F,F,F,F,F,F,F] (by kernel_rfl) rfl rfl (⟨c0, c1, c2, c3⟩) (fun hHeld => ?_)
      generalize hwd : w8.drew = wd at hHeld ⊢
      have BD : Aside0 (Below w8.heap.size w8 wd) := ⟨by rw [← hwd]; exact below_drew (Below.refl _ _)⟩
      clear hwd
      refine take_ (i := 0) (N := some 51) (v := ?_) (a' := ?_) #[T,F,F,F,F,F,F,F,F] rfl rfl (by kernel_rfl) (fun _ _ _ h => h) (Or.inl ⟨by rfl, ?_⟩) hHeld ?_ ?_
      rotate_left
      · intro w' s0
        obtain ⟨s1, s2, s3, s4⟩ := s0
        go_simp
        with_reducible rfl
      rotate_left
      · simp only [Act.put, sA, s0_, sS, i64_w, i32_w]
        rfl
      refine pure_ (i := 1) (N := some 52) (v := ?_) (a' := ?_) #[T,T,F,F,F,F,F,F,F] rfl rfl (by kernel_rfl) (fun _ _ _ h => h) (Or.inl ⟨by rfl, ?_⟩) ?_ ?_
      rotate_left
      · intro w'
        go_simp
        with_reducible rfl
      rotate_left
      · simp only [Act.put, sA, s0_, sS, i64_w, i32_w]
        rfl
      refine one_ (i := 2) (N := some 53) #[T,T,T,F,F,F,F,F,F] rfl rfl (by kernel_rfl) (by decide) (fun K hK => ?_)
      refine goes_ Try.func15 (by kernel_rfl) rfl #[.pointer (some ⟨db, 0, none⟩)] (by rfl) rfl rfl (by (try simp only [List.map_toArray, List.map_cons, List.map_nil]); first | done | rfl) ?_
      with_reducible refine (KI.out wd BD.out).mono ?_
      rintro e w9 ⟨v9, rfl, hR9, hb9⟩
      refine ⟨_, rfl, ?_⟩
      obtain ⟨ga, ca, e9⟩ := open_row' hR9 HL.out HL1.out.1
      subst e9
      have R9 := Aside0.mk hR9
      have B9 := Aside0.mk (BD.out.trans (hb9.mono BD.out.size))
      clear hR9 hb9
      refine hK.out _ _ (by exact ⟨pw_cell_below B9.out c0, pw_cell_below B9.out c1, pw_cell_below B9.out c2, pw_cell_below B9.out c3⟩) (fun hHeld => ?_)
      clear hK K
      refine norm_ (a' := ?_) ?_ ?_
      rotate_left
      · show Act.put _ (some 53) _ = _
        simp only [Act.put, sA, s0_, sS, i64_w, i32_w]
        rfl
      refine one_ (i := 3) (N := some 54) #[T,T,T,T,F,F,F,F,F] rfl rfl (by kernel_rfl) (by decide) (fun K hK => ?_)
      refine goes_ Try.func17 (by kernel_rfl) rfl #[.agg #[.int .i64 p, .int .i64 s, .int .i64 r, .int .i64 a], .slice (some ⟨ga, 0, none⟩) L ca] (by rfl) rfl rfl (by (try simp only [List.map_toArray, List.map_cons, List.map_nil]); first | done | rfl) ?_
      with_reducible refine (KL8.out w9 (some ⟨ga, 0, none⟩) ca (R_C R9.out).1).mono ?_
      rintro e w10 ⟨hb10, cb, rfl, hcb, hall⟩
      refine ⟨_, rfl, ?_⟩
      have B10 := Aside0.mk hb10
      have HC10 := Aside0.mk hall
      have LC10 := Aside0.mk hcb
      clear hb10 hall hcb
      refine hK.out _ _ (by exact ⟨pw_cell_below (B9.out.trans (B10.out.mono B9.out.size)) c0, pw_cell_below (B9.out.trans (B10.out.mono B9.out.size)) c1, pw_cell_below (B9.out.trans (B10.out.mono B9.out.size)) c2, pw_cell_below (B9.out.trans (B10.out.mono B9.out.size)) c3⟩) (fun hHeld => ?_)
      clear hK K
      refine norm_ (a' := ?_) ?_ ?_
      rotate_left
      · show Act.put _ (some 54) _ = _
        simp only [Act.put, sA, s0_, sS, i64_w, i32_w]
        rfl
      refine pure_ (i := 4) (N := some 50) (v := ?_) (a' := ?_) #[T,T,T,T,T,F,F,F,F] rfl rfl (by kernel_rfl) (fun _ _ _ h => h) (Or.inl ⟨by rfl, ?_⟩) ?_ ?_
      rotate_left
      · intro w'
        go_simp
        with_reducible rfl
      rotate_left
      · simp only [Act.put, sA, s0_, sS, i64_w, i32_w]
        rfl
      refine pure_ (i := 5) (N := some 55) (v := ?_) (a' := ?_) #[T,T,T,T,T,T,F,F,F] rfl rfl (by kernel_rfl) (fun _ _ _ h => h) (Or.inl ⟨by rfl, ?_⟩) ?_ ?_
      rotate_left
      · intro w'
        go_simp
        with_reducible rfl
      rotate_left
      · simp only [Act.put, sA, s0_, sS, i64_w, i32_w]
        rfl
      refine pure_ (i := 6) (N := some 56) (v := ?_) (a' := ?_) #[T,T,T,T,T,T,T,F,F] rfl rfl (by kernel_rfl) (fun _ _ _ h => h) (Or.inl ⟨by rfl, ?_⟩) ?_ ?_
      rotate_left
      · intro w'
        go_simp
        with_reducible rfl
      rotate_left
      · simp only [Act.put, sA, s0_, sS, i64_w, i32_w]
        rfl
      refine pure_ (i := 7) (N := some 10) (v := ?_) (a' := ?_) #[T,T,T,T,T,T,T,T,F] rfl rfl (by kernel_rfl) (fun _ _ _ h => h) (Or.inl ⟨by rfl, ?_⟩) ?_ ?_
      rotate_left
      · intro w'
        go_simp
        with_reducible rfl
      rotate_left
      · simp only [Act.put, sA, s0_, sS, i64_w, i32_w]
        rfl
      refine pure_ (i := 8) (N := some 8) (v := ?_) (a' := ?_) #[T,T,T,T,T,T,T,T,T] rfl rfl (by kernel_rfl) (fun _ _ _ h => h) (Or.inl ⟨by rfl, ?_⟩) ?_ ?_
      rotate_left
      · intro w'
        go_simp
        with_reducible rfl
      rotate_left
      · simp only [Act.put, sA, s0_, sS, i64_w, i32_w]
        rfl
      refine done_ (by kernel_rfl) ?_
      have B0 : Aside0 (∃ f d c, BothSt W 0 db cb w10 f d c) := ⟨by
        have hB9 := Nat.le_trans W8.out.size B9.out.size
        have h89 : Below w8.heap.size w8 w9 := B9.out
        have hc : DevX W.heap.size (owns f8 w9.heap.size cb) w10 cb dl := HC10.out _ _ hB9
        have hd : DevX W.heap.size (owns f8 w9.heap.size cb) w10 db d8 := (X8.out.below h89).mv (Mv.of_below (B := W.heap.size) (o := fun _ => False) B10.out hB9 (fun k hk => owns_old _ _ _ k hk)) id
        exact ⟨_, d8, dl,
          { dev := hd
            cev := hc
            ne := by have := (X8.out.below h89).size.2.1; have := LC10.out; omega
            ok := OK8.out
            okc := HDL.out.2
            tw := HDL.out.1
            un := by rw [D8.out.1]; exact Nat.le_refl _
            bel := (W8.out.trans (h89.mono W8.out.size)).trans (B10.out.mono hB9) }⟩⟩
      clear KI KL8 HDL D8 OK8 X8 S8 HH W8 B9 B10 HC10 LC10 HL HL1 S0
      go_wp2
      go_loopw [11] (fun v wr => ∃ i : Nat, i ≤ n2 ∧ v = .int .i64 (i : Int) ∧ Aside0 (∃ f d c, BothSt W i db cb wr f d c)) (fun v _ => n2 - (intOf v).toNat)
      case atStart => exact ⟨0, Nat.zero_le _, rfl, B0⟩
      case round =>
        obtain ⟨i, hi, rfl, S⟩ := hrel
        by_cases hlt : i < n2
        · have m0 : (0 : Int) ≤ (i : Int) := by omega
          have m1 : (i : Int) < (n2 : Int) := by omega
          have g2 : decide ((i : Int) < (n2 : Int)) = true := decide_eq_true m1
          obtain ⟨f, d, c, h⟩ := S.out
          obtain ⟨ad, o, cs, eA, ho, hV, hcell⟩ := at_op HC2.out i hlt
          subst eA
          have HV := Aside0.mk hV
          obtain ⟨Ax, cx, Af, cf, Ac, cc, ecs, _⟩ := hV.is
          have hcw := fun (j : Nat) (u : Value) (hj : cs[j]? = some u) => (pw_cell_below h.bel (hcell j u hj))
          subst ecs
          have x0 : wr.cell? (ad.add (i * 7)) = some (.int .i64 (opOf o).k) := hcw 0 _ rfl
          have x1 : wr.cell? ⟨(ad.add (i * 7)).block, (ad.add (i * 7)).off + 1, none⟩ = some (.int .i64 (opOf o).n) := by rw [← add_field _ _ 1 (by omega)]; exact hcw 1 _ rfl
          have x2 : wr.cell? ⟨(ad.add (i * 7)).block, (ad.add (i * 7)).off + 2, none⟩ = some (.slice Ax (opOf o).x.length cx) := by rw [← add_field _ _ 2 (by omega)]; exact hcw 2 _ rfl
          have x3 : wr.cell? ⟨(ad.add (i * 7)).block, (ad.add (i * 7)).off + 3, none⟩ = some (.slice Af (opOf o).fl.length cf) := by rw [← add_field _ _ 3 (by omega)]; exact hcw 3 _ rfl
          have x4 : wr.cell? ⟨(ad.add (i * 7)).block, (ad.add (i * 7)).off + 4, none⟩ = some (.int .i64 (opOf o).st) := by rw [← add_field _ _ 4 (by omega)]; exact hcw 4 _ rfl
          have x5 : wr.cell? ⟨(ad.add (i * 7)).block, (ad.add (i * 7)).off + 5, none⟩ = some (.int .i64 (opOf o).re) := by rw [← add_field _ _ 5 (by omega)]; exact hcw 5 _ rfl
          have x6 : wr.cell? ⟨(ad.add (i * 7)).block, (ad.add (i * 7)).off + 6, none⟩ = some (.slice Ac (opOf o).ft.length cc) := by rw [← add_field _ _ 6 (by omega)]; exact hcw 6 _ rfl
          have HH := Aside0.mk h
          have HO := Aside0.mk (HF2.out.1 o (List.mem_of_getElem? ho))
          obtain ⟨q, hq⟩ : ∃ q, opOf o = q := ⟨_, rfl⟩
          rw [hq] at HV HO x0 x1 x2 x3 x4 x5 x6
          have HL := Aside0.mk hlt
          clear h hV hcell hcw ho hq S
          obtain ⟨k, no, xo, flo, sto, reo, fto⟩ := q
          obtain ⟨lx, hlx⟩ : ∃ lx, xo.length = lx := ⟨_, rfl⟩
          obtain ⟨lf, hlf⟩ : ∃ lf, flo.length = lf := ⟨_, rfl⟩
          obtain ⟨lc, hlc⟩ : ∃ lc, fto.length = lc := ⟨_, rfl⟩
          simp only [hlx, hlf, hlc] at HV x2 x3 x6
          obtain ⟨w5, hw5⟩ : ∃ w5, wr.alloc (.cells #[.int .i64 k, .int .i64 no, .slice Ax lx cx, .slice Af lf cf, .int .i64 sto, .int .i64 reo, .slice Ac lc cc] 53) = w5 := ⟨_, rfl⟩
          have b5 : Below wr.heap.size wr w5 := by rw [← hw5]; exact below_alloc (Below.refl _ _) _
          have K5 : w5.heap[wr.heap.size]? = some (.cells #[.int .i64 k, .int .i64 no, .slice Ax lx cx, .slice Af lf cf, .int .i64 sto, .int .i64 reo, .slice Ac lc cc] 53 (0, 0)) := by rw [← hw5]; exact blk_new wr _
          have KK5 := Aside0.mk K5
          have B5 := Aside0.mk b5
          clear hlx hlf hlc
          by_cases h6 : k = 6
          · have g6 : (k == 6) = true := beq_iff_eq.2 h6
            have NEW : Aside0 (BothSt W (i + 1) db cb w5 f d c) := ⟨⟨HH.out.dev.below b5, HH.out.cev.below b5, HH.out.ne, HH.out.ok, HH.out.okc, HH.out.tw, Nat.le_succ_of_le HH.out.un, HH.out.bel.trans (b5.mono HH.out.bel.size)⟩⟩
            have y0 := blk_cell K5 0
            clear h6 b5 K5
            go_wp2
            go_roundw
            case rel => exact ⟨i + 1, HL.out, by congr 1 <;> simp, ⟨_, _, _, NEW.out⟩⟩
            case measure =>
              have := HL.out
              simp [intOf]
              omega
          · have g6 : (k == 6) = false := beq_eq_false_iff_ne.2 h6
            have H6 := Aside0.mk h6
            obtain ⟨hx5, n5, m5⟩ := HH.out.dev.boxed b5
            obtain ⟨hc5, n5', _⟩ := HH.out.cev.boxed b5
            have F5 : Aside0 (∃ f5, DevX W.heap.size f5 w5 db d ∧ DevX W.heap.size f5 w5 cb c ∧ f5 wr.heap.size ≠ db ∧ f5 wr.heap.size ≠ cb) := ⟨_, hx5, hc5, n5 _ (Nat.le_refl _), n5' _ (Nat.le_refl _)⟩
            have W5 := Aside0.mk (HH.out.bel.trans (b5.mono HH.out.bel.size))
            have y0 := blk_cell K5 0
            have y1 := blk_cell K5 1
            have y2 := blk_cell K5 2
            have y3 := blk_cell K5 3
            have y4 := blk_cell K5 4
            have y5 := blk_cell K5 5
            have y6 := blk_cell K5 6
            clear h6 b5 K5 hx5 n5 m5 hc5 n5'
            go_upto_region 21 with (fail)
            try rw [hw5]
            clear hw5 x0 x1 x2 x3 x4 x5 x6
            obtain ⟨bo, hbo⟩ : ∃ bo, wr.heap.size = bo := ⟨_, rfl⟩
            rw [hbo] at KK5 F5 y0 y1 y2 y3 y4 y5 y6
            rw [hbo]
            clear hbo
            obtain ⟨f5, X5, C5, N5, N5'⟩ := F5.out
            have hun : d.un.length ≤ 17592186044400 := by
              have h1 := HH.out.un
              have h2 := HL.out
              have h3 := HF2.out.2
              have h4 := HN2.out
              omega
            have HUN := Aside0.mk hun
            have tw := HH.out.tw.does (o := ⟨k, no, xo, flo, sto, reo, fto⟩) H6.out
            have TW := Aside0.mk tw.2
            have OKD1 := Aside0.mk (does_ok HH.out.ok HO.out)
            have OKC1 := Aside0.mk (does_ok HH.out.okc HO.out)
            have UN1 := Aside0.mk (does_un d ⟨k, no, xo, flo, sto, reo, fto⟩)
            have DD := Aside0.mk (fun (w' : World) (hb : Below w5.heap.size w5 w') => does_walk (X5.below hb) (W5.out.trans (hb.mono W5.out.size)) HH.out.ok (by omega) HV.out HO.out)
            have DC := Aside0.mk (fun (w' : World) (f' : Owner) (hx : DevX W.heap.size f' w' cb c) (hw : Below W.heap.size W w') => does_walk hx hw HH.out.okc (by rw [HH.out.tw.un]; omega) HV.out HO.out)
            obtain ⟨er, her⟩ : ∃ er, (d.does ⟨k, no, xo, flo, sto, reo, fto⟩).2 = er := ⟨_, rfl⟩
            rw [← tw.1] at DC
            rw [her] at DD DC
            obtain ⟨d1, hd1⟩ : ∃ d1, (d.does ⟨k, no, xo, flo, sto, reo, fto⟩).1 = d1 := ⟨_, rfl⟩
            obtain ⟨e1, he1⟩ : ∃ e1, (c.does ⟨k, no, xo, flo, sto, reo, fto⟩).1 = e1 := ⟨_, rfl⟩
            rw [hd1] at DD TW OKD1 UN1
            rw [he1] at DC TW OKC1
            obtain ⟨lu, hlu⟩ : ∃ lu, d1.un.length = lu := ⟨_, rfl⟩
            have HLU : Aside0 (d1.un.length = lu ∧ e1.un = d1.un ∧ lu ≤ 17592186044415) := ⟨hlu, TW.out.un, by rw [← hlu]; have := UN1.out; omega⟩
            have XC5 := Aside0.mk (And.intro X5 (And.intro C5 (And.intro N5 N5')))
            clear X5 C5 N5 N5' hun tw her hd1 he1 hlu
            refine start_ (n := 26) (S := fun w' => w'.cell? ⟨bo, 0, none⟩ = some (.int .i64 k) ∧ w'.cell? ⟨bo, 1, none⟩ = some (.int .i64 no) ∧ w'.cell? ⟨bo, 2, none⟩ = some (.slice Ax lx cx) ∧ w'.cell? ⟨bo, 3, none⟩ = some (.slice Af lf cf) ∧ w'.cell? ⟨bo, 4, none⟩ = some (.int .i64 sto) ∧ w'.cell? ⟨bo, 5, none⟩ = some (.int .i64 reo) ∧ w'.cell? ⟨bo, 6, none⟩ = some (.slice Ac lc cc)) (ds := []) #[F,F,F,F,F,F,F,F,F,F,F,F,F,F,F,F,F,F,F,F,F,F,F,F,F,F] (by kernel_rfl) rfl rfl (⟨y0, y1, y2, y3, y4, y5, y6⟩) (fun hHeld => ?_)
            generalize hwd : w5.drew = wd at hHeld ⊢
            have BD : Aside0 (Below w5.heap.size w5 wd) := ⟨by rw [← hwd]; exact below_drew (Below.refl _ _)⟩
            clear hwd y0 y1 y2 y3 y4 y5 y6
            refine pure_ (i := 0) (N := some 76) (v := ?_) (a' := ?_) #[T,F,F,F,F,F,F,F,F,F,F,F,F,F,F,F,F,F,F,F,F,F,F,F,F,F] rfl rfl (by kernel_rfl) (fun _ _ _ h => h) (Or.inl ⟨by rfl, ?_⟩) ?_ ?_
            rotate_left
            · intro w'
              go_simp
              with_reducible rfl
            rotate_left
            · simp only [Act.put, sA, s0_, sS, i64_w, i32_w]
              rfl
            refine take_ (i := 1) (N := some 77) (v := ?_) (a' := ?_) #[T,T,F,F,F,F,F,F,F,F,F,F,F,F,F,F,F,F,F,F,F,F,F,F,F,F] rfl rfl (by kernel_rfl) (fun _ _ _ h => h) (Or.inl ⟨by rfl, ?_⟩) hHeld ?_ ?_
            rotate_left
            · intro w' s0
              obtain ⟨s1, s2, s3, s4, s5, s6, s7⟩ := s0
              go_simp
              with_reducible rfl
            rotate_left
            · simp only [Act.put, sA, s0_, sS, i64_w, i32_w]
              rfl
            refine pure_ (i := 3) (N := some 79) (v := ?_) (a' := ?_) #[T,T,F,T,F,F,F,F,F,F,F,F,F,F,F,F,F,F,F,F,F,F,F,F,F,F] rfl rfl (by kernel_rfl) (fun _ _ _ h => h) (Or.inl ⟨by rfl, ?_⟩) ?_ ?_
            rotate_left
            · intro w'
              go_simp
              with_reducible rfl
            rotate_left
            · simp only [Act.put, sA, s0_, sS, i64_w, i32_w]
              rfl
            refine take_ (i := 4) (N := some 80) (v := ?_) (a' := ?_) #[T,T,F,T,T,F,F,F,F,F,F,F,F,F,F,F,F,F,F,F,F,F,F,F,F,F] rfl rfl (by kernel_rfl) (fun _ _ _ h => h) (Or.inl ⟨by rfl, ?_⟩) hHeld ?_ ?_
            rotate_left
            · intro w' s0
              obtain ⟨s1, s2, s3, s4, s5, s6, s7⟩ := s0
              go_simp
              with_reducible rfl
            rotate_left
            · simp only [Act.put, sA, s0_, sS, i64_w, i32_w]
              rfl
            refine one_ (i := 2) (N := some 78) #[T,T,T,T,T,F,F,F,F,F,F,F,F,F,F,F,F,F,F,F,F,F,F,F,F,F] rfl rfl (by kernel_rfl) (by decide) (fun K hK => ?_)
            refine goes_ Try.func22 (by kernel_rfl) rfl #[.pointer (some ⟨db, 0, none⟩), .agg #[.int .i64 k, .int .i64 no, .slice Ax lx cx, .slice Af lf cf, .int .i64 sto, .int .i64 reo, .slice Ac lc cc]] (by rfl) rfl rfl (by (try simp only [List.map_toArray, List.map_cons, List.map_nil]); first | done | rfl) ?_
            with_reducible refine (DD.out wd BD.out).mono ?_
            rintro e w6 ⟨rfl, h6⟩
            refine ⟨_, rfl, ?_⟩
            obtain ⟨f6, X6, m6⟩ := h6
            have C6 := (XC5.out.2.1.below BD.out).mv m6 (fun e => HH.out.ne e.symm)
            have K6 := m6.blk (blk_below KK5.out BD.out) XC5.out.2.2.1
            have N6 : f6 bo ≠ db ∧ f6 bo ≠ cb := by rw [m6.own_at (blk_below KK5.out BD.out)]; exact XC5.out.2.2
            have W6 := (W5.out.trans (BD.out.mono W5.out.size)).trans m6.below
            have S6 := Aside0.mk (And.intro X6 (And.intro C6 (And.intro N6 W6)))
            have KK6 := Aside0.mk K6
            clear X6 m6 C6 N6 W6
            refine hK.out _ _ (by exact ⟨blk_cell KK6.out 0, blk_cell KK6.out 1, blk_cell KK6.out 2, blk_cell KK6.out 3, blk_cell KK6.out 4, blk_cell KK6.out 5, blk_cell KK6.out 6⟩) (fun hHeld => ?_)
            clear hK K
            refine norm_ (a' := ?_) ?_ ?_
            rotate_left
            · show Act.put _ (some 78) _ = _
              simp only [Act.put, sA, s0_, sS, i64_w, i32_w]
              rfl
            clear K6
            refine one_ (i := 5) (N := some 81) #[T,T,T,T,T,T,F,F,F,F,F,F,F,F,F,F,F,F,F,F,F,F,F,F,F,F] rfl rfl (by kernel_rfl) (by decide) (fun K hK => ?_)
            refine goes_ Try.func22 (by kernel_rfl) rfl #[.pointer (some ⟨cb, 0, none⟩), .agg #[.int .i64 k, .int .i64 no, .slice Ax lx cx, .slice Af lf cf, .int .i64 sto, .int .i64 reo, .slice Ac lc cc]] (by rfl) rfl rfl (by (try simp only [List.map_toArray, List.map_cons, List.map_nil]); first | done | rfl) ?_
            with_reducible refine (DC.out w6 f6 S6.out.2.1 S6.out.2.2.2).mono ?_
            rintro e w7 ⟨rfl, h7⟩
            refine ⟨_, rfl, ?_⟩
            obtain ⟨f7, C7, m7⟩ := h7
            have X7 := S6.out.1.mv m7 (fun e => HH.out.ne e)
            have K7 := m7.blk KK6.out S6.out.2.2.1.2
            have N7 : f7 bo ≠ db ∧ f7 bo ≠ cb := by rw [m7.own_at KK6.out]; exact S6.out.2.2.1
            have S7 := Aside0.mk (And.intro X7 (And.intro C7 (And.intro N7 (S6.out.2.2.2.trans m7.below))))
            have KK7 := Aside0.mk K7
            clear C7 m7 X7 N7
            refine hK.out _ _ (by exact ⟨blk_cell KK7.out 0, blk_cell KK7.out 1, blk_cell KK7.out 2, blk_cell KK7.out 3, blk_cell KK7.out 4, blk_cell KK7.out 5, blk_cell KK7.out 6⟩) (fun hHeld => ?_)
            clear hK K
            refine norm_ (a' := ?_) ?_ ?_
            rotate_left
            · show Act.put _ (some 81) _ = _
              simp only [Act.put, sA, s0_, sS, i64_w, i32_w]
              rfl
            clear K7
            obtain ⟨nx, hnx⟩ : ∃ nx, d1.next no = nx := ⟨_, rfl⟩
            have NX : Aside0 (d1.next no = nx ∧ e1.next no = nx) := ⟨⟨hnx, by rw [TW.out.next]; exact hnx⟩⟩
            clear hnx
            refine pure_ (i := 6) (N := some 82) (v := ?_) (a' := ?_) #[T,T,T,T,T,T,T,F,F,F,F,F,F,F,F,F,F,F,F,F,F,F,F,F,F,F] rfl rfl (by kernel_rfl) (fun _ _ _ h => h) (Or.inl ⟨by rfl, ?_⟩) ?_ ?_
            rotate_left
            · intro w'
              go_simp
              with_reducible rfl
            rotate_left
            · simp only [Act.put, sA, s0_, sS, i64_w, i32_w]
              rfl
            refine pure_ (i := 7) (N := some 83) (v := ?_) (a' := ?_) #[T,T,T,T,T,T,T,T,F,F,F,F,F,F,F,F,F,F,F,F,F,F,F,F,F,F] rfl rfl (by kernel_rfl) (fun _ _ _ h => h) (Or.inl ⟨by rfl, ?_⟩) ?_ ?_
            rotate_left
            · intro w'
              go_simp
              with_reducible rfl
            rotate_left
            · simp only [Act.put, sA, s0_, sS, i64_w, i32_w]
              rfl
            refine pure_ (i := 8) (N := some 84) (v := ?_) (a' := ?_) #[T,T,T,T,T,T,T,T,T,F,F,F,F,F,F,F,F,F,F,F,F,F,F,F,F,F] rfl rfl (by kernel_rfl) (fun _ _ _ h => h) (Or.inl ⟨by rfl, ?_⟩) ?_ ?_
            rotate_left
            · intro w'
              go_simp
              with_reducible rfl
            rotate_left
            · simp only [Act.put, sA, s0_, sS, i64_w, i32_w]
              rfl
            refine pure_ (i := 9) (N := some 85) (v := ?_) (a' := ?_) #[T,T,T,T,T,T,T,T,T,T,F,F,F,F,F,F,F,F,F,F,F,F,F,F,F,F] rfl rfl (by kernel_rfl) (fun _ _ _ h => h) (Or.inl ⟨by rfl, ?_⟩) ?_ ?_
            rotate_left
            · intro w'
              go_simp
              with_reducible rfl
            rotate_left
            · simp only [Act.put, sA, s0_, sS, i64_w, i32_w]
              rfl
            refine take_ (i := 10) (N := some 86) (v := ?_) (a' := ?_) #[T,T,T,T,T,T,T,T,T,T,T,F,F,F,F,F,F,F,F,F,F,F,F,F,F,F] rfl rfl (by kernel_rfl) (fun _ _ _ h => h) (Or.inl ⟨by rfl, ?_⟩) hHeld ?_ ?_
            rotate_left
            · intro w' s0
              obtain ⟨s1, s2, s3, s4, s5, s6, s7⟩ := s0
              go_simp
              with_reducible rfl
            rotate_left
            · simp only [Act.put, sA, s0_, sS, i64_w, i32_w]
              rfl
            refine pure_ (i := 12) (N := some 88) (v := ?_) (a' := ?_) #[T,T,T,T,T,T,T,T,T,T,T,F,T,F,F,F,F,F,F,F,F,F,F,F,F,F] rfl rfl (by kernel_rfl) (fun _ _ _ h => h) (Or.inl ⟨by rfl, ?_⟩) ?_ ?_
            rotate_left
            · intro w'
              go_simp
              with_reducible rfl
            rotate_left
            · simp only [Act.put, sA, s0_, sS, i64_w, i32_w]
              rfl
            refine pure_ (i := 13) (N := some 89) (v := ?_) (a' := ?_) #[T,T,T,T,T,T,T,T,T,T,T,F,T,T,F,F,F,F,F,F,F,F,F,F,F,F] rfl rfl (by kernel_rfl) (fun _ _ _ h => h) (Or.inl ⟨by rfl, ?_⟩) ?_ ?_
            rotate_left
            · intro w'
              go_simp
              with_reducible rfl
            rotate_left
            · simp only [Act.put, sA, s0_, sS, i64_w, i32_w]
              rfl
            refine take_ (i := 14) (N := some 90) (v := ?_) (a' := ?_) #[T,T,T,T,T,T,T,T,T,T,T,F,T,T,T,F,F,F,F,F,F,F,F,F,F,F] rfl rfl (by kernel_rfl) (fun _ _ _ h => h) (Or.inl ⟨by rfl, ?_⟩) hHeld ?_ ?_
            rotate_left
            · intro w' s0
              obtain ⟨s1, s2, s3, s4, s5, s6, s7⟩ := s0
              go_simp
              with_reducible rfl
            rotate_left
            · simp only [Act.put, sA, s0_, sS, i64_w, i32_w]
              rfl
            refine one_ (i := 11) (N := some 87) #[T,T,T,T,T,T,T,T,T,T,T,T,T,T,T,F,F,F,F,F,F,F,F,F,F,F] rfl rfl (by kernel_rfl) (by decide) (fun K hK => ?_)
            refine goes_ Try.func28 (by kernel_rfl) rfl #[.pointer (some ⟨db, 0, none⟩), .int .i64 no] (by rfl) rfl rfl (by (try simp only [List.map_toArray, List.map_cons, List.map_nil]); first | done | rfl) ?_
            with_reducible refine (next_x S7.out.1 OKD1.out NX.out.1).mono ?_
            rintro e w8 ⟨rfl, h8⟩
            refine ⟨_, rfl, ?_⟩
            have B8 := Aside0.mk h8
            clear h8
            refine hK.out _ _ (by exact ⟨blk_cell (blk_below KK7.out B8.out) 0, blk_cell (blk_below KK7.out B8.out) 1, blk_cell (blk_below KK7.out B8.out) 2, blk_cell (blk_below KK7.out B8.out) 3, blk_cell (blk_below KK7.out B8.out) 4, blk_cell (blk_below KK7.out B8.out) 5, blk_cell (blk_below KK7.out B8.out) 6⟩) (fun hHeld => ?_)
            clear hK K
            refine norm_ (a' := ?_) ?_ ?_
            rotate_left
            · show Act.put _ (some 87) _ = _
              simp only [Act.put, sA, s0_, sS, i64_w, i32_w]
              rfl
            refine one_ (i := 15) (N := some 91) #[T,T,T,T,T,T,T,T,T,T,T,T,T,T,T,T,F,F,F,F,F,F,F,F,F,F] rfl rfl (by kernel_rfl) (by decide) (fun K hK => ?_)
            refine goes_ Try.func28 (by kernel_rfl) rfl #[.pointer (some ⟨cb, 0, none⟩), .int .i64 no] (by rfl) rfl rfl (by (try simp only [List.map_toArray, List.map_cons, List.map_nil]); first | done | rfl) ?_
            with_reducible refine (next_x (S7.out.2.1.below B8.out) OKC1.out NX.out.2).mono ?_
            rintro e w9 ⟨rfl, h9⟩
            refine ⟨_, rfl, ?_⟩
            have B9 := Aside0.mk (B8.out.trans (h9.mono B8.out.size))
            clear h9
            refine hK.out _ _ (by exact ⟨blk_cell (blk_below KK7.out B9.out) 0, blk_cell (blk_below KK7.out B9.out) 1, blk_cell (blk_below KK7.out B9.out) 2, blk_cell (blk_below KK7.out B9.out) 3, blk_cell (blk_below KK7.out B9.out) 4, blk_cell (blk_below KK7.out B9.out) 5, blk_cell (blk_below KK7.out B9.out) 6⟩) (fun hHeld => ?_)
            clear hK K
            refine norm_ (a' := ?_) ?_ ?_
            rotate_left
            · show Act.put _ (some 91) _ = _
              simp only [Act.put, sA, s0_, sS, i64_w, i32_w]
              rfl
            refine pure_ (i := 16) (N := some 92) (v := ?_) (a' := ?_) #[T,T,T,T,T,T,T,T,T,T,T,T,T,T,T,T,T,F,F,F,F,F,F,F,F,F] rfl rfl (by kernel_rfl) (fun _ _ _ h => h) (Or.inl ⟨by rfl, ?_⟩) ?_ ?_
            rotate_left
            · intro w'
              go_simp
              with_reducible rfl
            rotate_left
            · simp only [Act.put, sA, s0_, sS, i64_w, i32_w]
              rfl
            refine pure_ (i := 17) (N := some 93) (v := ?_) (a' := ?_) #[T,T,T,T,T,T,T,T,T,T,T,T,T,T,T,T,T,T,F,F,F,F,F,F,F,F] rfl rfl (by kernel_rfl) (fun _ _ _ h => h) (Or.inl ⟨by rfl, ?_⟩) ?_ ?_
            rotate_left
            · intro w'
              go_simp
              with_reducible rfl
            rotate_left
            · simp only [Act.put, sA, s0_, sS, i64_w, i32_w]
              rfl
            refine pure_ (i := 18) (N := some 94) (v := ?_) (a' := ?_) #[T,T,T,T,T,T,T,T,T,T,T,T,T,T,T,T,T,T,T,F,F,F,F,F,F,F] rfl rfl (by kernel_rfl) (fun _ _ _ h => h) (Or.inl ⟨by rfl, ?_⟩) ?_ ?_
            rotate_left
            · intro w'
              go_simp
              with_reducible rfl
            rotate_left
            · simp only [Act.put, sA, s0_, sS, i64_w, i32_w]
              rfl
            refine pure_ (i := 19) (N := some 95) (v := ?_) (a' := ?_) #[T,T,T,T,T,T,T,T,T,T,T,T,T,T,T,T,T,T,T,T,F,F,F,F,F,F] rfl rfl (by kernel_rfl) (fun _ _ _ h => h) (Or.inl ⟨by rfl, ?_⟩) ?_ ?_
            rotate_left
            · intro w'
              go_simp
              with_reducible rfl
            rotate_left
            · simp only [Act.put, sA, s0_, sS, i64_w, i32_w]
              rfl
            refine pure_ (i := 21) (N := some 97) (v := ?_) (a' := ?_) #[T,T,T,T,T,T,T,T,T,T,T,T,T,T,T,T,T,T,T,T,F,T,F,F,F,F] rfl rfl (by kernel_rfl) (fun _ _ _ h => h) (Or.inl ⟨by rfl, ?_⟩) ?_ ?_
            rotate_left
            · intro w'
              go_simp
              with_reducible rfl
            rotate_left
            · simp only [Act.put, sA, s0_, sS, i64_w, i32_w]
              rfl
            refine one_ (i := 20) (N := some 96) #[T,T,T,T,T,T,T,T,T,T,T,T,T,T,T,T,T,T,T,T,T,T,F,F,F,F] rfl rfl (by kernel_rfl) (by decide) (fun K hK => ?_)
            refine goes_ Try.func16 (by kernel_rfl) rfl #[.pointer (some ⟨db, 0, none⟩)] (by rfl) rfl rfl (by (try simp only [List.map_toArray, List.map_cons, List.map_nil]); first | done | rfl) ?_
            with_reducible refine (unsynced2 (S7.out.1.below B9.out) OKD1.out (by rw [HLU.out.1]; exact HLU.out.2.2)).mono ?_
            rintro e w10 ⟨v10, rfl, hR10, hb10⟩
            refine ⟨_, rfl, ?_⟩
            obtain ⟨A10, c10, e10⟩ := Kd.R_slice hR10
            rw [HLU.out.1] at e10
            subst e10
            have R10 := Aside0.mk hR10
            have B10 := Aside0.mk (B9.out.trans (hb10.mono B9.out.size))
            clear hR10 hb10
            refine hK.out _ _ (by exact ⟨blk_cell (blk_below KK7.out B10.out) 0, blk_cell (blk_below KK7.out B10.out) 1, blk_cell (blk_below KK7.out B10.out) 2, blk_cell (blk_below KK7.out B10.out) 3, blk_cell (blk_below KK7.out B10.out) 4, blk_cell (blk_below KK7.out B10.out) 5, blk_cell (blk_below KK7.out B10.out) 6⟩) (fun hHeld => ?_)
            clear hK K
            refine norm_ (a' := ?_) ?_ ?_
            rotate_left
            · show Act.put _ (some 96) _ = _
              simp only [Act.put, sA, s0_, sS, i64_w, i32_w]
              rfl
            refine one_ (i := 22) (N := some 98) #[T,T,T,T,T,T,T,T,T,T,T,T,T,T,T,T,T,T,T,T,T,T,T,F,F,F] rfl rfl (by kernel_rfl) (by decide) (fun K hK => ?_)
            refine goes_ Try.func16 (by kernel_rfl) rfl #[.pointer (some ⟨cb, 0, none⟩)] (by rfl) rfl rfl (by (try simp only [List.map_toArray, List.map_cons, List.map_nil]); first | done | rfl) ?_
            with_reducible refine (unsynced2 (S7.out.2.1.below B10.out) OKC1.out (by rw [HLU.out.2.1, HLU.out.1]; exact HLU.out.2.2)).mono ?_
            rintro e w11 ⟨v11, rfl, hR11, hb11⟩
            refine ⟨_, rfl, ?_⟩
            rw [HLU.out.2.1] at hR11
            obtain ⟨A11, c11, e11⟩ := Kd.R_slice hR11
            rw [HLU.out.1] at e11
            subst e11
            have KS := Aside0.mk (show Calls Try.prog 29 #[.slice A10 lu c10, .slice A11 lu c11] w11 (Told w11 (.bool true)) from by
              have h := sameInts_walk (l := d1.un) (r := d1.un) (c := c10) (c' := c11) (by rw [HLU.out.1]; exact Kd.C_below (R_C R10.out).1 hb11) (by rw [HLU.out.1]; exact (R_C R10.out).2.2) (by rw [HLU.out.1]; exact (R_C hR11).1) (by rw [HLU.out.1]; exact (R_C hR11).2.2) (by rw [HLU.out.1]; exact Nat.lt_of_le_of_lt HLU.out.2.2 (by decide))
              rw [HLU.out.1, decide_eq_true rfl] at h
              exact h)
            have B11 := Aside0.mk (B10.out.trans (hb11.mono B10.out.size))
            clear hR11 hb11
            refine hK.out _ _ (by exact ⟨blk_cell (blk_below KK7.out B11.out) 0, blk_cell (blk_below KK7.out B11.out) 1, blk_cell (blk_below KK7.out B11.out) 2, blk_cell (blk_below KK7.out B11.out) 3, blk_cell (blk_below KK7.out B11.out) 4, blk_cell (blk_below KK7.out B11.out) 5, blk_cell (blk_below KK7.out B11.out) 6⟩) (fun hHeld => ?_)
            clear hK K
            refine norm_ (a' := ?_) ?_ ?_
            rotate_left
            · show Act.put _ (some 98) _ = _
              simp only [Act.put, sA, s0_, sS, i64_w, i32_w]
              rfl
            refine one_ (i := 23) (N := some 99) #[T,T,T,T,T,T,T,T,T,T,T,T,T,T,T,T,T,T,T,T,T,T,T,T,F,F] rfl rfl (by kernel_rfl) (by decide) (fun K hK => ?_)
            refine goes_ Try.func29 (by kernel_rfl) rfl #[.slice A10 lu c10, .slice A11 lu c11] (by rfl) rfl rfl (by (try simp only [List.map_toArray, List.map_cons, List.map_nil]); first | done | rfl) ?_
            with_reducible refine (KS.out).mono ?_
            rintro e w12 ⟨rfl, hd12⟩
            refine ⟨_, rfl, ?_⟩
            have B12 := Aside0.mk (B11.out.trans (hd12.below.mono B11.out.size))
            clear hd12
            refine hK.out _ _ (by exact ⟨blk_cell (blk_below KK7.out B12.out) 0, blk_cell (blk_below KK7.out B12.out) 1, blk_cell (blk_below KK7.out B12.out) 2, blk_cell (blk_below KK7.out B12.out) 3, blk_cell (blk_below KK7.out B12.out) 4, blk_cell (blk_below KK7.out B12.out) 5, blk_cell (blk_below KK7.out B12.out) 6⟩) (fun hHeld => ?_)
            clear hK K
            refine norm_ (a' := ?_) ?_ ?_
            rotate_left
            · show Act.put _ (some 99) _ = _
              simp only [Act.put, sA, s0_, sS, i64_w, i32_w]
              rfl
            refine pure_ (i := 24) (N := some 100) (v := ?_) (a' := ?_) #[T,T,T,T,T,T,T,T,T,T,T,T,T,T,T,T,T,T,T,T,T,T,T,T,T,F] rfl rfl (by kernel_rfl) (fun _ _ _ h => h) (Or.inl ⟨by rfl, ?_⟩) ?_ ?_
            rotate_left
            · intro w'
              go_simp
              with_reducible rfl
            rotate_left
            · simp only [Act.put, sA, s0_, sS, i64_w, i32_w]
              rfl
            refine pure_ (i := 25) (N := some 101) (v := ?_) (a' := ?_) #[T,T,T,T,T,T,T,T,T,T,T,T,T,T,T,T,T,T,T,T,T,T,T,T,T,T] rfl rfl (by kernel_rfl) (fun _ _ _ h => h) (Or.inl ⟨by rfl, ?_⟩) ?_ ?_
            rotate_left
            · intro w'
              go_simp
              with_reducible rfl
            rotate_left
            · simp only [Act.put, sA, s0_, sS, i64_w, i32_w]
              rfl
            refine done_ (by kernel_rfl) ?_
            clear hHeld KS BD R10 B8 B9 B10 B11 S6 KK6 DD DC XC5 W5 NX
            have tr := TW.out.read no
            have ND := HH.out.ne
            obtain ⟨xs, hxs⟩ : ∃ xs, (d1.read no).2.1 = xs := ⟨_, rfl⟩
            obtain ⟨e2, he2⟩ : ∃ e2, (d1.read no).2.2 = e2 := ⟨_, rfl⟩
            have KR1 := Aside0.mk (read_walk (S7.out.1.below B12.out) OKD1.out no)
            have KR2 := Aside0.mk (fun (w' : World) (g : Owner) (hx : DevX W.heap.size g w' cb e1) => read_walk hx OKC1.out no)
            have hxs2 : (e1.read no).2.1 = xs := by rw [← tr.1]; exact hxs
            have he2' : (e1.read no).2.2 = e2 := by rw [← tr.1]; exact he2
            have OKD2 := Aside0.mk (read_ok OKD1.out no)
            have OKC2 := Aside0.mk (read_ok OKC1.out no)
            rw [hxs, he2] at KR1
            rw [hxs2, he2'] at KR2
            have TW2 := Aside0.mk tr.2.1
            have UN2 : Aside0 ((d1.read no).1.un.length ≤ i + 1) := ⟨by rw [tr.2.2]; exact Nat.le_trans UN1.out (Nat.succ_le_succ HH.out.un)⟩
            obtain ⟨d2, hd2⟩ : ∃ d2, (d1.read no).1 = d2 := ⟨_, rfl⟩
            obtain ⟨c2', hc2⟩ : ∃ c2', (e1.read no).1 = c2' := ⟨_, rfl⟩
            rw [hd2] at KR1 OKD2 TW2 UN2
            rw [hc2] at KR2 OKC2 TW2
            obtain ⟨ln, hln⟩ : ∃ ln, xs.length = ln := ⟨_, rfl⟩
            have HLN := Aside0.mk hln
            have HLB : Aside0 (ln ≤ 4096) := ⟨by
              rw [← hln, ← hxs]
              unfold Dv.read
              split
              · exact Nat.zero_le _
              · show (if (d1.op 1 id).2 = 0 then d1.page no.toNat else []).length ≤ 4096
                split
                · unfold Dv.page
                  unfold cutOf
                  exact Nat.le_trans (List.length_take_le _ _) OKD1.out.p2
                · exact Nat.zero_le _⟩
            have K12 := Aside0.mk (blk_below KK7.out B12.out)
            have C12 := Aside0.mk (S7.out.2.1.below B12.out)
            have W12 := Aside0.mk (S7.out.2.2.2.trans (B12.out.mono S7.out.2.2.2.size))
            have HND := Aside0.mk ND
            have y1 := blk_cell K12.out 1
            clear tr hxs he2 hxs2 he2' hd2 hc2 hln ND
            go_upto_region 24 with (go_at_call 26; refine KR1.out.mono ?_; rintro e w13 ⟨v13, f13, rfl, X13, M13, R13⟩; obtain ⟨A13, c13, e13⟩ := Kd.R_slice R13; rw [HLN.out] at e13; subst e13; have T13 := Aside0.mk (And.intro X13 (And.intro M13 R13)); clear X13 M13 R13; clear y1; have y1 := blk_cell (T13.out.2.1.blk K12.out S7.out.2.2.1.1) 1)
            have G13 : Aside0 (∃ g : Owner, DevX W.heap.size g w13 db d2 ∧ DevX W.heap.size g w13 cb e1 ∧ Mv W.heap.size (· = db) f7 w12 g w13 ∧ (Kd.int .u8).R 5 w13 W.heap.size (fun k => g k ≠ db ∧ g k ≠ cb) (.slice A13 ln c13) xs) := ⟨by
              obtain ⟨X13, M13, R13⟩ := T13.out
              have hdl := X13.size.2.1
              have hcl := C12.out.size.2.1
              have hsz := M13.below.size
              have hne := HND.out
              have hR := Kd.R_bound R13
              refine ⟨fun k => if k < w12.heap.size then f13 k else if f13 k = cb then w13.heap.size else f13 k, X13.reown (fun k hk => ?_), ?_, M13.own (fun k hk => if_pos hk), ?_⟩
              · show (if k < w12.heap.size then f13 k else if f13 k = cb then w13.heap.size else f13 k) = db
                rw [hk]
                by_cases h : k < w12.heap.size
                · rw [if_pos h]
                · rw [if_neg h, if_neg hne]
              · exact C12.out.mv (M13.own (f2 := fun k => if k < w12.heap.size then f13 k else if f13 k = cb then w13.heap.size else f13 k) (fun k hk => if_pos hk)) (fun e => hne e.symm)
              · refine Kd.R_mono (Kd.R_lower R13 W12.out.size) (fun k hk => ?_)
                have h1 : ¬ k < w12.heap.size := by omega
                show (if k < w12.heap.size then f13 k else if f13 k = cb then w13.heap.size else f13 k) ≠ db ∧ (if k < w12.heap.size then f13 k else if f13 k = cb then w13.heap.size else f13 k) ≠ cb
                rw [if_neg h1]
                by_cases h2 : f13 k = cb
                · rw [if_pos h2]; omega
                · rw [if_neg h2]; exact ⟨hk.2, h2⟩⟩
            obtain ⟨g13, X13, C13, M13, R13⟩ := G13.out
            have KR3 := Aside0.mk (KR2.out w13 g13 C13)
            have T14 := Aside0.mk (And.intro X13 (And.intro R13 (W12.out.trans M13.below)))
            clear X13 C13 M13 R13 KR2 KR1 T13 G13
            go_upto_region 25 with (go_at_call 26; refine KR3.out.mono ?_; rintro e w14 ⟨v14, f14, rfl, X14, M14, R14⟩; obtain ⟨A14, c14, e14⟩ := Kd.R_slice R14; rw [HLN.out] at e14; subst e14; have T15 := Aside0.mk (And.intro X14 (And.intro M14 R14)); clear X14 M14 R14)
            have KS := Aside0.mk (show Calls Try.prog 14 #[.slice A13 ln c13, .slice A14 ln c14] w14 (Told w14 (.bool true)) from by
              have hr := T15.out.2.1.row (ok1 := fun _ => True) T14.out.2.1 (fun k hk _ => hk.2) (fun k hk hl => trivial)
              exact same_arg hr (Below.refl _ _) (R_C T15.out.2.2).1 (R_C T15.out.2.2).2.2 (Below.refl _ _) HLN.out (Nat.le_trans HLB.out (by decide)))
            have FIN : Aside0 (BothSt W (i + 1) db cb w14 f14 d2 c2') := ⟨
              { dev := T14.out.1.mv T15.out.2.1 (fun e => HND.out e)
                cev := T15.out.1
                ne := HND.out
                ok := OKD2.out
                okc := OKC2.out
                tw := TW2.out
                un := UN2.out
                bel := T14.out.2.2.trans T15.out.2.1.below }⟩
            clear y1
            go_wp2_with (go_at_call 14; refine KS.out.mono ?_; rintro e w15 ⟨rfl, hd⟩; have D15 := Aside0.mk hd.below; clear hd)
            go_roundw
            case rel =>
              have h := FIN.out
              exact ⟨i + 1, HL.out, by congr 1 <;> simp, ⟨f14, d2, c2', ⟨h.dev.below D15.out, h.cev.below D15.out, h.ne, h.ok, h.okc, h.tw, h.un, h.bel.trans (D15.out.mono h.bel.size)⟩⟩⟩
            case measure =>
              have := HL.out
              simp [intOf]
              omega
        · have g2 : decide ((i : Int) < (n2 : Int)) = false := decide_eq_false (by omega)
          obtain ⟨f, d, c, h⟩ := S.out
          have HH := Aside0.mk h
          obtain ⟨L, hL⟩ : ∃ L, d.b.length = L := ⟨_, rfl⟩
          have HL : Aside0 (d.b.length = L ∧ L ≤ 1048576) := ⟨hL, by rw [← hL, h.ok.len]; exact h.ok.sz⟩
          have KD := Aside0.mk (fun (w' : World) (hb : Below wr.heap.size wr w') => image_walk (HH.out.dev.below hb) HH.out.ok)
          have KC := Aside0.mk (fun (w' : World) (hb : Below wr.heap.size wr w') => image_walk (HH.out.cev.below hb) HH.out.okc)
          rw [h.tw.b] at KC
          clear h S hL
          go_wp2_with (first
            | (go_at_call 15; refine (KD.out _ (Below.refl _ _)).mono ?_; rintro e w8 ⟨v8, rfl, hR8, hb8⟩; obtain ⟨A8, c8, e8⟩ := Kd.R_slice hR8; rw [HL.out.1] at e8; subst e8; have R8 := Aside0.mk hR8; have B8 := Aside0.mk hb8; clear hR8 hb8 KD)
            | (go_at_call 15; refine (KC.out _ B8.out).mono ?_; rintro e w9 ⟨v9, rfl, hR9, hb9⟩; obtain ⟨A9, c9, e9⟩ := Kd.R_slice hR9; rw [HL.out.1] at e9; subst e9; have KS := Aside0.mk (same_arg R8.out hb9 (R_C hR9).1 (R_C hR9).2.2 (Below.refl _ _) HL.out.1 (Nat.le_trans HL.out.2 (by decide))); have B9 := Aside0.mk (B8.out.trans (hb9.mono B8.out.size)); clear hR9 hb9)
            | (go_at_call 14; refine KS.out.mono ?_; rintro e w10 ⟨rfl, hd⟩; have B10 := Aside0.mk (B9.out.trans (hd.below.mono B9.out.size)); clear hd))
          go_ret
          exact ⟨rfl, HH.out.bel.trans (B10.out.mono HH.out.bel.size)⟩
end Go.Proofs.Ytnkbebdgkidbjaa.Flash
namespace Go.Proofs.Ytnkbebdgkidbjaa.Main
open Go.Proofs.Ytnkbebdgkidbjaa.Flash Go.Proofs.Ytnkbebdgkidbjaa.QFlashPlays
open Go.RowKit Go.Proofs.YtnkbebdgkidbjaaW.PrintWords Go.Proofs.YtnkbebdgkidbjaaW.PrintLast Go.Proofs.YtnkbebdgkidbjaaW.PrintMore
set_option linter.unusedVariables false
set_option linter.unusedSimpArgs false
theorem FlashLoads (W : World) (a0_0 : Int) (a0_1 : Int) (a0_2 : Int) (a0_3 : Int) (A1 : Option Addr) (c1 : Nat) (l1 : List (Int × (Int × ((List Int) × ((List (Int × (Int × Int))) × (Int × (Int × (List (Int × (Int × Int)))))))))) (A2 : Option Addr) (c2 : Nat) (l2 : List (Int × (Int × ((List Int) × ((List (Int × (Int × Int))) × (Int × (Int × (List (Int × (Int × Int)))))))))) (w0_0 : (Lit.int .i64 a0_0).wf = true) (w0_1 : (Lit.int .i64 a0_1).wf = true) (w0_2 : (Lit.int .i64 a0_2).wf = true) (w0_3 : (Lit.int .i64 a0_3).wf = true) (hC1 : Kd.C (Kd.pair (Kd.int .i64) (Kd.pair (Kd.int .i64) (Kd.pair (Kd.slice 5 (Kd.int .u8)) (Kd.pair (Kd.slice 85 (Kd.pair (Kd.int .i64) (Kd.pair (Kd.int .i64) (Kd.int .i64)))) (Kd.pair (Kd.int .i64) (Kd.pair (Kd.int .i64) (Kd.slice 88 (Kd.pair (Kd.int .i64) (Kd.pair (Kd.int .i64) (Kd.int .i64)))))))))) W A1 l1.length l1) (hc1 : l1.length ≤ c1) (hG1 : (fun l => l.length * 104 ≤ 140737488351232 ∧ l.length ≤ 9223372036854775807 ∧ ∀ x ∈ l, (fun x => (fun x => (Lit.int .i64 x).wf = true) x.1 ∧ (fun x => (fun x => (Lit.int .i64 x).wf = true) x.1 ∧ (fun x => (fun l => l.length * 1 ≤ 140737488351232 ∧ l.length ≤ 9223372036854775807 ∧ ∀ x ∈ l, (fun x => (Lit.int .u8 x).wf = true) x) x.1 ∧ (fun x => (fun l => l.length * 24 ≤ 140737488351232 ∧ l.length ≤ 9223372036854775807 ∧ ∀ x ∈ l, (fun x => (fun x => (Lit.int .i64 x).wf = true) x.1 ∧ (fun x => (fun x => (Lit.int .i64 x).wf = true) x.1 ∧ (fun x => (Lit.int .i64 x).wf = true) x.2) x.2) x) x.1 ∧ (fun x => (fun x => (Lit.int .i64 x).wf = true) x.1 ∧ (fun x => (fun x => (Lit.int .i64 x).wf = true) x.1 ∧ (fun l => l.length * 24 ≤ 140737488351232 ∧ l.length ≤ 9223372036854775807 ∧ ∀ x ∈ l, (fun x => (fun x => (Lit.int .i64 x).wf = true) x.1 ∧ (fun x => (fun x => (Lit.int .i64 x).wf = true) x.1 ∧ (fun x => (Lit.int .i64 x).wf = true) x.2) x.2) x) x.2) x.2) x.2) x.2) x.2) x.2) x) l1) (hC2 : Kd.C (Kd.pair (Kd.int .i64) (Kd.pair (Kd.int .i64) (Kd.pair (Kd.slice 5 (Kd.int .u8)) (Kd.pair (Kd.slice 85 (Kd.pair (Kd.int .i64) (Kd.pair (Kd.int .i64) (Kd.int .i64)))) (Kd.pair (Kd.int .i64) (Kd.pair (Kd.int .i64) (Kd.slice 88 (Kd.pair (Kd.int .i64) (Kd.pair (Kd.int .i64) (Kd.int .i64)))))))))) W A2 l2.length l2) (hc2 : l2.length ≤ c2) (hG2 : (fun l => l.length * 104 ≤ 140737488351232 ∧ l.length ≤ 9223372036854775807 ∧ ∀ x ∈ l, (fun x => (fun x => (Lit.int .i64 x).wf = true) x.1 ∧ (fun x => (fun x => (Lit.int .i64 x).wf = true) x.1 ∧ (fun x => (fun l => l.length * 1 ≤ 140737488351232 ∧ l.length ≤ 9223372036854775807 ∧ ∀ x ∈ l, (fun x => (Lit.int .u8 x).wf = true) x) x.1 ∧ (fun x => (fun l => l.length * 24 ≤ 140737488351232 ∧ l.length ≤ 9223372036854775807 ∧ ∀ x ∈ l, (fun x => (fun x => (Lit.int .i64 x).wf = true) x.1 ∧ (fun x => (fun x => (Lit.int .i64 x).wf = true) x.1 ∧ (fun x => (Lit.int .i64 x).wf = true) x.2) x.2) x) x.1 ∧ (fun x => (fun x => (Lit.int .i64 x).wf = true) x.1 ∧ (fun x => (fun x => (Lit.int .i64 x).wf = true) x.1 ∧ (fun l => l.length * 24 ≤ 140737488351232 ∧ l.length ≤ 9223372036854775807 ∧ ∀ x ∈ l, (fun x => (fun x => (Lit.int .i64 x).wf = true) x.1 ∧ (fun x => (fun x => (Lit.int .i64 x).wf = true) x.1 ∧ (fun x => (Lit.int .i64 x).wf = true) x.2) x.2) x) x.2) x.2) x.2) x.2) x.2) x.2) x) l2) :
    Calls Try.prog 7 #[.agg #[.int .i64 a0_0, .int .i64 a0_1, .int .i64 a0_2, .int .i64 a0_3], .slice A1 l1.length c1, .slice A2 l2.length c2] W fun e w' => e = .returned (.bool true) ∧ Below W.heap.size W w' := by
  have hfit : ∀ o ∈ l1, (opOf o).Fit := fun o ho => by
    have h := hG1.2.2 o ho
    exact fit_of h.2.2.1.1 h.2.2.1.2.2 h.2.2.2.1.1 h.2.2.2.2.2.2.1
  have hfit2 : ∀ o ∈ l2, (opOf o).Fit := fun o ho => by
    have h := hG2.2.2 o ho
    exact fit_of h.2.2.1.1 h.2.2.1.2.2 h.2.2.2.1.1 h.2.2.2.2.2.2.1
  rcases geo_cases a0_0 a0_1 a0_2 a0_3 with ⟨p, s, r, rfl, rfl, rfl, ok⟩ | hk
  · exact loads_yes W p s r a0_3 ok hC1 hfit hG1.1 hC2 hfit2 hG2.1
  · exact loads_no W a0_0 a0_1 a0_2 a0_3 hk
end Go.Proofs.Ytnkbebdgkidbjaa.Main
