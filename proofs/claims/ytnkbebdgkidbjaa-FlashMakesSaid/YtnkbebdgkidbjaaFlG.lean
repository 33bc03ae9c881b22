/- The document's device: New, Load, Counts.
   No condition. -/
import Derived.Test.YtnkbebdgkidbjaaFlD
import Derived.ArgAppend
import Derived.BigRegion
import Derived.Deep.QuietTactic
import Derived.BigQuiet
import Derived.Deep.RegionHeld3
import Derived.ChangeAlike
import Derived.RegionTactic
import Derived.Deep.DeepCutAuto
import Derived.Deep.CutBlock
import Derived.Deep.RegionLaw
import Derived.StillTailTactics
import Derived.WalkSpells
import Derived.Lib.SliceRun
import Derived.Laws.CopyRow
import Derived.Lib.SlBuf
import Derived.Lib.MakeNoZero
import Derived.Laws.BitsLemmas
import Derived.Lib.Bytes
import Derived.Lib.SlBytesConst
namespace Go.Proofs.Ytnkbebdgkidbjaa.Flash
open Go.Proofs.Ytnkbebdgkidbjaa.QFlashPlays
open Go.RowKit Go.Proofs.YtnkbebdgkidbjaaW.PrintWords Go.Proofs.YtnkbebdgkidbjaaW.PrintLast Go.Proofs.YtnkbebdgkidbjaaW.PrintMore
attribute [local go_sem] max2_int min2_int max_two min_two   -- for this text's walks alone
set_option linter.unusedVariables false
set_option linter.unusedSimpArgs false
/-! ### The document's device in memory -/
structure DocG (B : Nat) (f : Owner) (w : World) (db : Nat) (d : Dv) (im imc : Nat) (vu vf vw : Value) : Prop where
  blk : w.heap[db]? = some (.cells #[.int .i64 d.p, .int .i64 d.s, .int .i64 d.r, .int .i64 d.a, .slice (some ⟨im, 0, none⟩) d.b.length imc, vu, vf, .int .i64 (d.c 0), .int .i64 (d.c 1), .int .i64 (d.c 2), .int .i64 (d.c 3), .int .i64 (d.c 4), .int .i64 d.failed, vw] 39 (0, 0))
  own : f db = db
  base : B ≤ db
  img : Im w im imc d.b
  imo : f im = db
  imb : B ≤ im
  un : (Kd.int .i64).R 3 w B (fun k => f k = db) vu d.un
  fl : k85.R 85 w B (fun k => f k = db) vf d.fl
  wr : (Kd.int .i64).R 3 w B (fun k => f k = db) vw d.wear
  ne : ∀ k, vu.ownBlock = some k → vw.ownBlock ≠ some k
section
variable {B : Nat} {f : Owner} {w : World} {db : Nat} {d : Dv} {im imc : Nat} {vu vf vw : Value}
theorem DocG.mv {B' : Nat} {o : Nat → Prop} {f1 : Owner} {w1 : World} (h : DocG B f w db d im imc vu vf vw) (m : Mv B' o f w f1 w1) (hn : ¬ o db) : DocG B f1 w1 db d im imc vu vf vw :=
  { blk := m.blk h.blk (by rw [h.own]; exact hn)
    own := (m.own_at h.blk).trans h.own
    base := h.base
    img := h.img.keep (m.keep im h.img.lt (by rw [h.imo]; exact hn))
    imo := (m.old im h.img.lt).trans h.imo
    imb := h.imb
    un := m.row h.un (fun k hk _ => by rw [hk]; exact hn) (fun k hk hl => (m.old k hl).trans hk)
    fl := m.row h.fl (fun k hk _ => by rw [hk]; exact hn) (fun k hk hl => (m.old k hl).trans hk)
    wr := m.row h.wr (fun k hk _ => by rw [hk]; exact hn) (fun k hk hl => (m.old k hl).trans hk)
    ne := h.ne }
theorem DocG.below {w1 : World} (h : DocG B f w db d im imc vu vf vw) (hb : Below w.heap.size w w1) : DocG B f w1 db d im imc vu vf vw :=
  h.mv (o := fun _ => False) (Mv.of_below (B := w.heap.size) hb (Nat.le_refl _) (fun _ _ => rfl)) (fun e => e)
theorem DocG.imdb (h : DocG B f w db d im imc vu vf vw) : im ≠ db := by
  rintro rfl
  obtain ⟨cs, h1, _⟩ := h.img
  exact blk_ne h1 h.blk (by decide) rfl
theorem DocG.at_ (h : DocG B f w db d im imc vu vf vw) (i : Nat) : w.cell? ⟨db, i, none⟩ = (#[Value.int .i64 d.p, .int .i64 d.s, .int .i64 d.r, .int .i64 d.a, .slice (some ⟨im, 0, none⟩) d.b.length imc, vu, vf, .int .i64 (d.c 0), .int .i64 (d.c 1), .int .i64 (d.c 2), .int .i64 (d.c 3), .int .i64 (d.c 4), .int .i64 d.failed, vw] : Array Value)[i]? := blk_cell h.blk i
theorem DocG.imrow (h : DocG B f w db d im imc vu vf vw) {e : Nat} {α : Type} {k : Kd α} {ok : Nat → Prop} {v : Value} {xs : List α} (hr : k.R e w B ok v xs) (he : ∀ q, q ∈ e :: k.E → q ≠ 5) : k.R e w B (fun q => ok q ∧ q ≠ im) v xs := by
  obtain ⟨cs, h1, _⟩ := h.img
  refine Kd.R_mono (Kd.R_bound hr) (fun q hq => ⟨hq.1, ?_⟩)
  rintro rfl
  obtain ⟨_, _, _, t, ht, cells, hc⟩ := hq
  exact blk_ne hc h1 (he t ht) rfl
/-- The struct's cells are written: the rows stay. -/
theorem DocG.put (h : DocG B f w db d im imc vu vf vw) (i : Nat) (v : Value) {cs' : Array Value} (hcs : (#[Value.int .i64 d.p, .int .i64 d.s, .int .i64 d.r, .int .i64 d.a, .slice (some ⟨im, 0, none⟩) d.b.length imc, vu, vf, .int .i64 (d.c 0), .int .i64 (d.c 1), .int .i64 (d.c 2), .int .i64 (d.c 3), .int .i64 (d.c 4), .int .i64 d.failed, vw] : Array Value).setIfInBounds i v = cs') :
    (w.setCell ⟨db, i, none⟩ v).heap[db]? = some (.cells cs' 39 (0, 0)) ∧ Im (w.setCell ⟨db, i, none⟩ v) im imc d.b ∧ (Kd.int .i64).R 3 (w.setCell ⟨db, i, none⟩ v) B (fun k => f k = db) vu d.un ∧ k85.R 85 (w.setCell ⟨db, i, none⟩ v) B (fun k => f k = db) vf d.fl ∧ (Kd.int .i64).R 3 (w.setCell ⟨db, i, none⟩ v) B (fun k => f k = db) vw d.wear ∧ Mv B (· = db) f w f (w.setCell ⟨db, i, none⟩ v) :=
  ⟨blk_put h.blk i v hcs, h.img.keep (Below.heap_setCell w ⟨db, i, none⟩ v im h.imdb), Kd.R_set h.un h.blk (by decide) i v, Kd.R_set h.fl h.blk (by decide) i v, Kd.R_set h.wr h.blk (by decide) i v, Mv.set (Mv.refl _ _ _ _) ⟨db, i, none⟩ _ h.base (fun _ => h.own)⟩
/-- A count is written. -/
theorem DocG.setC (h : DocG B f w db d im imc vu vf vw) (op : Nat) (ho : op ≤ 4) (v : Int) :
    DocG B f (w.setCell ⟨db, 7 + op, none⟩ (.int .i64 v)) db { d with c := updF d.c op v } im imc vu vf vw ∧ Mv B (· = db) f w f (w.setCell ⟨db, 7 + op, none⟩ (.int .i64 v)) := by
  obtain ⟨h1, h2, h3, h4, h5, h6⟩ := h.put (7 + op) (.int .i64 v) (cs' := #[Value.int .i64 d.p, .int .i64 d.s, .int .i64 d.r, .int .i64 d.a, .slice (some ⟨im, 0, none⟩) d.b.length imc, vu, vf, .int .i64 (updF d.c op v 0), .int .i64 (updF d.c op v 1), .int .i64 (updF d.c op v 2), .int .i64 (updF d.c op v 3), .int .i64 (updF d.c op v 4), .int .i64 d.failed, vw]) (by
    have : op = 0 ∨ op = 1 ∨ op = 2 ∨ op = 3 ∨ op = 4 := by omega
    rcases this with rfl | rfl | rfl | rfl | rfl <;> rfl)
  exact ⟨⟨h1, h.own, h.base, h2, h.imo, h.imb, h3, h4, h5, h.ne⟩, h6⟩
theorem DocG.setFailed (h : DocG B f w db d im imc vu vf vw) (v : Int) :
    DocG B f (w.setCell ⟨db, 12, none⟩ (.int .i64 v)) db { d with failed := v } im imc vu vf vw ∧ Mv B (· = db) f w f (w.setCell ⟨db, 12, none⟩ (.int .i64 v)) := by
  obtain ⟨h1, h2, h3, h4, h5, h6⟩ := h.put 12 (.int .i64 v) rfl
  exact ⟨⟨h1, h.own, h.base, h2, h.imo, h.imb, h3, h4, h5, h.ne⟩, h6⟩
/-- The image is written. -/
theorem DocG.setImg (h : DocG B f w db d im imc vu vf vw) {w' : World} {b' : List Int} (hl : b'.length = d.b.length) (hi : Im w' im imc b') (hg : w.grownBy w' (some im)) :
    DocG B f w' db { d with b := b' } im imc vu vf vw ∧ Mv B (· = db) f w f w' := by
  have hlt := blk_lt h.blk
  have m : Mv B (· = db) f w f w' := Mv.grown (Mv.refl _ _ _ _) (Nat.le_trans h.base (Nat.le_of_lt hlt)) hg (fun k hk => by injection hk with hk; subst hk; exact ⟨h.imb, fun _ => h.imo⟩)
  have row : ∀ {e : Nat} {α : Type} {k : Kd α} {v : Value} {xs : List α}, k.R e w B (fun q => f q = db) v xs → (∀ q, q ∈ e :: k.E → q ≠ 5) → k.R e w' B (fun q => f q = db) v xs := fun hr he =>
    Kd.R_mono (Kd.R_grown (h.imrow hr he) hg (fun q hq e2 => hq.2 (by injection e2))) (fun q hq => hq.1)
  refine ⟨⟨?_, h.own, h.base, hi, h.imo, h.imb, row h.un (by decide), row h.fl (by decide), row h.wr (by decide), h.ne⟩, m⟩
  rw [show ({ d with b := b' } : Dv).b.length = d.b.length from hl]
  exact blk_grown h.blk hg (fun e => h.imdb (by injection e with e; exact e.symm))
end
def DocX (B : Nat) (f : Owner) (w : World) (db : Nat) (d : Dv) : Prop := ∃ im imc vu vf vw, DocG B f w db d im imc vu vf vw
def DocA (B : Nat) (f : Owner) (w : World) (db : Nat) (d : Dv) (w' : World) : Prop := ∃ f', DocX B f' w' db d ∧ Mv B (· = db) f w f' w'
section
variable {B : Nat} {f : Owner} {w : World} {db : Nat} {d : Dv}
theorem DocX.below (h : DocX B f w db d) {w1 : World} (hb : Below w.heap.size w w1) : DocX B f w1 db d := by
  obtain ⟨im, imc, vu, vf, vw, h⟩ := h
  exact ⟨im, imc, vu, vf, vw, h.below hb⟩
theorem DocX.mv (h : DocX B f w db d) {B' : Nat} {o : Nat → Prop} {f1 : Owner} {w1 : World} (m : Mv B' o f w f1 w1) (hn : ¬ o db) : DocX B f1 w1 db d := by
  obtain ⟨im, imc, vu, vf, vw, h⟩ := h
  exact ⟨im, imc, vu, vf, vw, h.mv m hn⟩
theorem DocX.size (h : DocX B f w db d) : B ≤ w.heap.size ∧ db < w.heap.size ∧ f db = db := by
  obtain ⟨im, imc, vu, vf, vw, h⟩ := h
  have h1 := blk_lt h.blk
  have h2 := h.base
  exact ⟨by omega, h1, h.own⟩
theorem DocA.of_below (h : DocX B f w db d) {w1 : World} (hb : Below w.heap.size w w1) : DocA B f w db d w1 :=
  ⟨f, h.below hb, Mv.of_below hb h.size.1 (fun _ _ => rfl)⟩
theorem DocA.box {w1 w2 : World} (h : DocA B f w db d w1) (hb : Below w1.heap.size w1 w2) : DocA B f w db d w2 := by
  obtain ⟨f', h1, m⟩ := h
  exact ⟨f', h1.below hb, m.trans (Mv.of_below hb h1.size.1 (fun _ _ => rfl))⟩
theorem DocA.fail {w1 : World} (h : DocA B f w db d w1) (v : Int) (hv : v = wrap64 (d.failed + 1)) : DocA B f w db d.flop (w1.setCell ⟨db, 12, none⟩ (.int .i64 v)) ∧ w1.cell? ⟨db, 12, none⟩ = some (.int .i64 d.failed) ∧ w1.frozen? ⟨db, 12, none⟩ = false := by
  subst hv
  obtain ⟨f', ⟨im, imc, vu, vf, vw, h1⟩, m⟩ := h
  obtain ⟨g1, g2⟩ := h1.setFailed (wrap64 (d.failed + 1))
  exact ⟨⟨f', ⟨im, imc, vu, vf, vw, g1⟩, m.trans g2⟩, h1.at_ 12, blk_frozen h1.blk 12⟩
end
section
variable {B : Nat} {f : Owner} {w : World} {db : Nat} {d : Dv}
/-- Other new memory is nobody's. -/
theorem DocX.boxed (h : DocX B f w db d) {w1 : World} (hb : Below w.heap.size w w1) : DocX B (owns f w.heap.size w.heap.size) w1 db d ∧ (∀ k, w.heap.size ≤ k → owns f w.heap.size w.heap.size k ≠ db) ∧ Mv B (· = db) f w (owns f w.heap.size w.heap.size) w1 := by
  have hs := h.size
  have m : ∀ o : Nat → Prop, Mv B o f w (owns f w.heap.size w.heap.size) w1 := fun o => Mv.of_below hb hs.1 (fun k hk => owns_old _ _ _ _ hk)
  exact ⟨h.mv (m (fun _ => False)) id, fun k hk => by rw [owns_new _ _ _ _ hk]; omega, m _⟩
theorem DocA.under {f1 : Owner} {w1 w2 : World} {d' : Dv} (m : Mv B (· = db) f w f1 w1) (h : DocA B f1 w1 db d' w2) : DocA B f w db d' w2 := by
  obtain ⟨f2, h1, m2⟩ := h
  exact ⟨f2, h1, m.trans m2⟩
/-- What is not its own stays. -/
theorem DocA.blk {w1 : World} (h : DocA B f w db d w1) {g : Nat} {o : Obj} (hb : w.heap[g]? = some o) (hn : f g ≠ db) : w1.heap[g]? = some o := by
  obtain ⟨_, _, m⟩ := h
  exact m.blk hb hn
theorem DocA.setNil {w1 : World} (h : DocA B f w db d w1) : DocA B f w db { d with un := [] } (w1.setCell ⟨db, 5, none⟩ (.slice none 0 0)) ∧ w1.frozen? ⟨db, 5, none⟩ = false ∧ ∃ v, w1.cell? ⟨db, 5, none⟩ = some v := by
  obtain ⟨f', ⟨im, imc, vu, vf, vw, h1⟩, m⟩ := h
  obtain ⟨k1, k2, k3, k4, k5, k6⟩ := h1.put 5 (.slice none 0 0) rfl
  exact ⟨⟨f', ⟨im, imc, _, vf, vw, ⟨k1, h1.own, h1.base, k2, h1.imo, h1.imb, Kd.R_nil _ _ _ _ _, k4, k5, fun k hk => by simp [Value.ownBlock] at hk⟩⟩, m.trans k6⟩, blk_frozen h1.blk 5, _, h1.at_ 5⟩
end
section
variable {B : Nat} {f : Owner} {w : World} {db : Nat} {d : Dv}
theorem DocA.setFl {w1 : World} {v : Value} {l : List Fa} (h : DocX B f w db d) (hb : Below w.heap.size w w1) (hR : k85.R 85 w1 w.heap.size (fun k => w.heap.size ≤ k) v l) : DocA B f w db { d with fl := l } (w1.setCell ⟨db, 6, none⟩ v) ∧ w1.frozen? ⟨db, 6, none⟩ = false ∧ ∃ u, w1.cell? ⟨db, 6, none⟩ = some u := by
  have hs := h.size
  have m : ∀ o : Nat → Prop, Mv B o f w (owns f w.heap.size db) w1 := fun o => Mv.of_below hb hs.1 (fun k hk => owns_old _ _ _ _ hk)
  obtain ⟨im, imc, vu, vf, vw, h1⟩ := h.mv (m (fun _ => False)) id
  obtain ⟨k1, k2, k3, k4, k5, k6⟩ := h1.put 6 v rfl
  have hR2 : k85.R 85 w1 B (fun k => owns f w.heap.size db k = db) v l := Kd.R_mono (Kd.R_lower hR hs.1) (fun k hk => owns_new _ _ _ _ hk)
  exact ⟨⟨_, ⟨im, imc, vu, v, vw, ⟨k1, h1.own, h1.base, k2, h1.imo, h1.imb, k3, Kd.R_set hR2 h1.blk (by decide) 6 v, k5, h1.ne⟩⟩, (m _).trans k6⟩, blk_frozen h1.blk 6, _, h1.at_ 6⟩
/-- The bytes are laid. -/
theorem DocA.copied {w1 : World} (h : DocA B f w db d w1) {im cp : Nat} {vu vf vw : Value} {f1 : Owner} (hg : DocG B f1 w1 db d im cp vu vf vw) (m : Mv B (· = db) f w f1 w1) (ok : d.Ok) {n : Nat} (hn : n < d.pages) {A : Option Addr} {c : Nat} {x : List Int} (hx : x.length = d.p) (hC : (Kd.int .u8).C w1 A d.p x) (ty : TypeId) :
    ∃ w', (Builtin.copy_ #[24, 24] ty #[.slice (some ⟨im, n * d.p, none⟩) d.p (cp - n * d.p), .slice A d.p c]).run Try.prog w1 = .ok (goInt d.p) w' ∧ DocA B f w db { d with b := putAt d.b (n * d.p) x } w' ∧ w1.grownBy w' (some im) := by
  have q := page_nums ok n hn
  have hfit : n * d.p + x.length ≤ d.b.length := by rw [hx, q.1]; exact q.2.1
  obtain ⟨w', hr, hi, hgr, hs⟩ := hg.img.copy (n * d.p) x hfit (dLen := d.p) (dCap := cp - n * d.p) (sLen := d.p) (sCap := c) (A := A) (by rw [hx]; exact (Nat.min_self d.p).symm) (by rw [hx]; exact q.2.2.2.1) ⟨x, hC, by rw [List.take_length]⟩ ty
  rw [hx] at hr
  obtain ⟨g1, g2⟩ := hg.setImg (putAt_length d.b (n * d.p) x hfit) hi hgr
  exact ⟨w', hr, ⟨f1, ⟨im, cp, vu, vf, vw, g1⟩, m.trans g2⟩, hgr⟩
end
section
variable {B : Nat} {f : Owner} {w : World} {db : Nat} {d : Dv} {im imc : Nat} {vu vf vw : Value}
/-- A region's wear is written. -/
theorem DocG.setWr {gw nw cw : Nat} (h : DocG B f w db d im imc vu vf (.slice (some ⟨gw, 0, none⟩) nw cw)) (i : Nat) (x : Int) :
    DocG B f (w.setCell ⟨gw, i, none⟩ (.int .i64 x)) db { d with wear := d.wear.set i x } im imc vu vf (.slice (some ⟨gw, 0, none⟩) nw cw) ∧ Mv B (· = db) f w f (w.setCell ⟨gw, i, none⟩ (.int .i64 x)) := by
  have hwr := Kd.R_bound h.wr
  have hgw := hwr.1 gw rfl
  have hndb : db ≠ gw := fun e => (Kd.R_ne h.wr h.blk (by decide)) (by rw [e]; rfl)
  have himw : im ≠ gw := fun e => (Kd.R_bound (h.imrow h.wr (by decide))).1 gw rfl |>.1.2 e.symm
  have hs := fun (k : Nat) (hk : k ≠ gw) => Below.heap_setCell w ⟨gw, i, none⟩ (.int .i64 x) k hk
  have hun : (Kd.int .i64).R 3 w B (fun k => f k = db ∧ k ≠ gw) vu d.un := ⟨fun k hk => ⟨h.un.1 k hk, fun e => h.ne k hk (by rw [e]; rfl)⟩, by
    obtain ⟨_, inner, ho, hr⟩ := h.un
    exact ⟨inner, ho, hr.1, fun i p hi => hr.2 i p hi⟩⟩
  have hfl : k85.R 85 w B (fun k => f k = db ∧ k ≠ gw) vf d.fl := Kd.R_mono (R_apart h.fl h.wr (by decide)) (fun k hk => ⟨hk.1, fun e => hk.2 (by rw [e]; rfl)⟩)
  have hput := Kd.R_putn h.wr (i : Int) x
  rw [Int.toNat_natCast] at hput
  exact ⟨{ blk := (hs db hndb).trans h.blk
           own := h.own
           base := h.base
           img := h.img.keep (hs im himw)
           imo := h.imo
           imb := h.imb
           un := Kd.R_mono (Kd.R_far hun (p := ⟨gw, i, none⟩) (fun k hk => hk.2) _) (fun k hk => hk.1)
           fl := Kd.R_mono (Kd.R_far hfl (p := ⟨gw, i, none⟩) (fun k hk => hk.2) _) (fun k hk => hk.1)
           wr := hput
           ne := h.ne }, Mv.set (Mv.refl B (· = db) f w) ⟨gw, i, none⟩ _ hgw.2.1 (fun _ => hgw.1)⟩
end
section
variable {B : Nat} {f : Owner} {w : World} {db : Nat} {d : Dv} {im imc : Nat} {vu vf vw : Value}
/-- A page is noted as unsynced. -/
theorem DocG.setUn (h : DocG B f w db d im imc vu vf vw) (q : Nat) {w1 : World} {v1 : Value} {us : List Int}
    (hR : (Kd.int .i64).R 3 w1 B (fun k => owns f w.heap.size db k = db) v1 us) (hg : (w.drewN q).grownBy w1 vu.ownBlock) (hat : v1.ownBlock = vu.ownBlock ∨ ∃ b, v1.ownBlock = some b ∧ (w.drewN q).heap.size ≤ b) :
    DocG B (owns f w.heap.size db) (w1.setCell ⟨db, 5, none⟩ v1) db { d with un := us } im imc v1 vf vw ∧ Mv B (· = db) f w (owns f w.heap.size db) (w1.setCell ⟨db, 5, none⟩ v1) := by
  have hlt := blk_lt h.blk
  have hdb := h.base
  have hBs : B ≤ w.heap.size := by omega
  have m0 : Mv B (· = db) f w (owns f w.heap.size db) (w.drewN q) := ((Mv.refl B (· = db) f w).drewN q).own (fun k hk => owns_old f _ _ k hk)
  have hun := Kd.R_bound h.un
  have m1 : Mv B (· = db) f w (owns f w.heap.size db) w1 := Mv.grown m0 hBs hg (fun k hk2 => ⟨(hun.1 k hk2).2.1, fun _ => (hun.1 k hk2).1⟩)
  have ho : owns f w.heap.size db db = db := (owns_old f _ _ db hlt).trans h.own
  refine ⟨?_, Mv.set m1 ⟨db, 5, none⟩ v1 hdb (fun _ => h.own)⟩
  have hb1 := blk_grown (blk_drewN h.blk q) hg (Kd.R_ne h.un h.blk (by decide))
  have himu : some im ≠ vu.ownBlock := fun e => (Kd.R_bound (h.imrow h.un (by decide))).1 im e.symm |>.1.2 rfl
  have row : ∀ {α : Type} {k : Kd α} {e : Nat} {v : Value} {xs : List α}, (∀ q, q ∈ e :: k.E → q ≠ 39) → k.R e w B (fun k => f k = db ∧ some k ≠ vu.ownBlock) v xs → k.R e (w1.setCell ⟨db, 5, none⟩ v1) B (fun k => owns f w.heap.size db k = db) v xs := by
    intro α k e v xs h78 hs
    have h2 : k.R e (w.drewN q) B (fun k => owns f w.heap.size db k = db ∧ some k ≠ vu.ownBlock) v xs :=
      Kd.R_below (Kd.R_mono (Kd.R_bound hs) (fun k hk => ⟨(owns_old f _ _ k hk.2.2.1).trans hk.1.1, hk.1.2⟩)) (pw_below_drewN (Below.refl _ _) q)
    exact Kd.R_set (Kd.R_mono (Kd.R_grown h2 hg (fun k hk => hk.2)) (fun k hk => hk.1)) hb1 h78 5 v1
  have hfl : k85.R 85 w B (fun k => f k = db ∧ some k ≠ vu.ownBlock) vf d.fl := Kd.R_mono (R_apart h.fl h.un (by decide)) (fun k hk => hk)
  have hwr : (Kd.int .i64).R 3 w B (fun k => f k = db ∧ some k ≠ vu.ownBlock) vw d.wear := ⟨fun k hk => ⟨h.wr.1 k hk, fun e => h.ne k e.symm hk⟩, by
    obtain ⟨_, inner, ho, hr⟩ := h.wr
    exact ⟨inner, ho, hr.1, fun i p hi => hr.2 i p hi⟩⟩
  exact
    { blk := blk_put hb1 5 v1 rfl
      own := ho
      base := hdb
      img := (h.img.below (pw_below_drewN (Below.refl _ _) q)).keep (by
        have e1 := hg.block im (blk_lt (blk_drewN h.blk q) |> fun _ => h.img.lt) himu
        rw [Below.heap_setCell w1 ⟨db, 5, none⟩ v1 im h.imdb]
        exact e1)
      imo := (owns_old f _ _ im h.img.lt).trans h.imo
      imb := h.imb
      un := Kd.R_set hR hb1 (by decide) 5 v1
      fl := row (by decide) hfl
      wr := row (by decide) hwr
      ne := fun k hk e => by
        rcases hat with h1 | ⟨b, h1, h2⟩
        · exact h.ne k (h1.symm.trans hk) e
        · have := ((Kd.R_bound h.wr).1 k e).2.2.1
          rw [h1] at hk
          injection hk with hk
          have h3 : (w.drewN q).heap.size = w.heap.size := by simp
          omega }
end
/-! ### The document's New -/
theorem Im.put {w : World} {g cap : Nat} {b : List Int} (h : Im w g cap b) (i : Nat) (hi : i < b.length) (x : Int) : Im (w.setCell ⟨g, i, none⟩ (.int .u8 x)) g cap (b.set i x) ∧ w.frozen? ⟨g, i, none⟩ = false ∧ w.grownBy (w.setCell ⟨g, i, none⟩ (.int .u8 x)) (some g) := by
  obtain ⟨cs, h1, h2, h3, h4⟩ := h
  refine ⟨⟨cs.set i (.int .u8 x), ?_, by rw [List.length_set]; exact h2, by rw [List.length_set]; exact h3, ?_⟩, blk_frozen h1 i, rfl, rfl, rfl, by simp, fun k hk hn => Below.heap_setCell w ⟨g, i, none⟩ _ k (fun e => hn (by rw [e]))⟩
  · have := blk_put h1 i (.int .u8 x) rfl
    rw [sA] at this
    exact this
  · rw [List.length_set, List.take_set, h4]
    unfold by8
    rw [List.map_set]
theorem fill_next (n i : Nat) (h : i < n) : (List.replicate i (255 : Int) ++ List.replicate (n - i) 0).set i 255 = List.replicate (i + 1) 255 ++ List.replicate (n - (i + 1)) 0 := by
  rw [List.set_append_right _ _ (by rw [List.length_replicate]; omega), List.length_replicate, Nat.sub_self]
  obtain ⟨m, hm⟩ : ∃ m, n - i = m + 1 := ⟨n - i - 1, by omega⟩
  rw [hm, show n - (i + 1) = m by omega, List.replicate_succ, List.set_cons_zero, List.replicate_succ', List.append_assoc]
  rfl
def BothD (wd : World) (n r : Nat) (vb vw : Value) (w' : World) : Prop := Below wd.heap.size wd w' ∧ (Kd.int .u8).R 5 w' wd.heap.size (fun k => wd.heap.size ≤ k) vb (List.replicate n 0) ∧ (Kd.int .i64).R 3 w' wd.heap.size (fun k => wd.heap.size ≤ k) vw (List.replicate r 0)
theorem BothD.ab {wd wa wb : World} {n r : Nat} {vb vw : Value} {hh : Prop} (hI : (Kd.int .u8).R 5 wa wd.heap.size (fun k => wd.heap.size ≤ k) vb (List.replicate n 0)) (hb1 : Below wd.heap.size wd wa) (hR : (Kd.int .i64).R 3 wb wa.heap.size (fun q => wa.heap.size ≤ q) vw (List.replicate r 0)) (hb2 : Below wa.heap.size wa wb) (_ : hh) : BothD wd n r vb vw wb :=
  ⟨hb1.trans (hb2.mono hb1.size), Kd.R_below hI hb2, Kd.R_mono (Kd.R_lower hR hb1.size) (fun k hk => Nat.le_trans hb1.size hk)⟩
theorem BothD.ba {wd wa wb : World} {n r : Nat} {vb vw : Value} {hh : Prop} (hI : (Kd.int .u8).R 5 wb wa.heap.size (fun k => wa.heap.size ≤ k) vb (List.replicate n 0)) (hb1 : Below wa.heap.size wa wb) (hR : (Kd.int .i64).R 3 wa wd.heap.size (fun q => wd.heap.size ≤ q) vw (List.replicate r 0)) (hb2 : Below wd.heap.size wd wa) (_ : hh) : BothD wd n r vb vw wb :=
  ⟨hb2.trans (hb1.mono hb2.size), Kd.R_mono (Kd.R_lower hI hb2.size) (fun k hk => Nat.le_trans hb2.size hk), Kd.R_below hR hb1⟩
/-- New memory that holds a device. -/
def AllD (w : World) (db : Nat) (d : Dv) (im imc : Nat) (vu vf vw : Value) (w' : World) : Prop := Below w.heap.size w w' ∧ w.heap.size ≤ db ∧ ∀ (B : Nat) (f : Owner), B ≤ w.heap.size → DocG B (owns f w.heap.size db) w' db d im imc vu vf vw
def NewD (w : World) (d : Dv) (en : Ending) (w' : World) : Prop := ∃ db im imc vu vf vw, en = .returned (.tuple #[.pointer (some ⟨db, 0, none⟩), .int .i64 0]) ∧ AllD w db d im imc vu vf vw w'
def Dv.half (p s r : Nat) (a : Int) (i : Nat) : Dv := { Dv.fresh p s r a with b := List.replicate i 255 ++ List.replicate (p * s * r - i) 0 }
theorem half_all (p s r : Nat) (a : Int) : Dv.half p s r a (p * s * r) = Dv.fresh p s r a := by
  unfold Dv.half Dv.fresh
  rw [Nat.sub_self]; simp
theorem docnew_of {w w1 wd w3 : World} {p s r gb cb : Nat} {a : Int} {vw : Value} (h : BothD wd (p * s * r) r (.slice (some ⟨gb, 0, none⟩) (p * s * r) cb) vw w3) (h1 : Below w.heap.size w w1) (h2 : Below w1.heap.size w1 wd) :
    AllD w w3.heap.size (Dv.half p s r a 0) gb cb (.slice none 0 0) (.slice none 0 0) vw (w3.alloc (.cells #[.int .i64 p, .int .i64 s, .int .i64 r, .int .i64 a, .slice (some ⟨gb, 0, none⟩) (p * s * r) cb, .slice none 0 0, .slice none 0 0, .int .i64 0, .int .i64 0, .int .i64 0, .int .i64 0, .int .i64 0, .int .i64 0, vw] 39)) := by
  obtain ⟨k1, k2, k4⟩ := h
  have hw : Below w.heap.size w w3 := (h1.trans (h2.mono h1.size)).trans (k1.mono (Nat.le_trans h1.size h2.size))
  have bl : Below w3.heap.size w3 (w3.alloc (.cells #[.int .i64 p, .int .i64 s, .int .i64 r, .int .i64 a, .slice (some ⟨gb, 0, none⟩) (p * s * r) cb, .slice none 0 0, .slice none 0 0, .int .i64 0, .int .i64 0, .int .i64 0, .int .i64 0, .int .i64 0, .int .i64 0, vw] 39)) := below_alloc (Below.refl _ _) _
  have hdw : w.heap.size ≤ wd.heap.size := Nat.le_trans h1.size h2.size
  obtain ⟨i1, i2, i3, i4⟩ := im_of_R (Kd.R_below k2 bl)
  have e : (Dv.half p s r a 0).b = List.replicate (p * s * r) 0 := by unfold Dv.half; simp
  have el : (Dv.half p s r a 0).b.length = p * s * r := by rw [e, List.length_replicate]
  refine ⟨hw.trans (bl.mono hw.size), hw.size, fun B f hB => ?_⟩
  refine ⟨?_, owns_new _ _ _ _ hw.size, Nat.le_trans hB hw.size, by rw [e]; exact i1, owns_new _ _ _ _ (Nat.le_trans hdw i2), Nat.le_trans hB (Nat.le_trans hdw i2), Kd.R_nil _ _ _ _ _, Kd.R_nil _ _ _ _ _, ?_, fun k hk => by simp [Value.ownBlock] at hk⟩
  · rw [el]; exact blk_new w3 _
  · exact Kd.R_mono (Kd.R_lower (Kd.R_below k4 bl) (Nat.le_trans hB hdw)) (fun k hk => owns_new _ _ _ _ (Nat.le_trans hdw hk))
theorem AllD.next {w w' : World} {db p s r gb cb i : Nat} {a : Int} {vu vf vw : Value} (h : AllD w db (Dv.half p s r a i) gb cb vu vf vw w') (hi : i < p * s * r) :
    AllD w db (Dv.half p s r a (i + 1)) gb cb vu vf vw (w'.setCell ⟨gb, i, none⟩ (.int .u8 255)) ∧ w'.frozen? ⟨gb, i, none⟩ = false := by
  obtain ⟨h1, h2, h3⟩ := h
  have hl : (Dv.half p s r a i).b.length = p * s * r := by
    unfold Dv.half
    show (List.replicate i (255 : Int) ++ List.replicate (p * s * r - i) 0).length = _
    rw [List.length_append, List.length_replicate, List.length_replicate]; omega
  have e : (Dv.half p s r a i).b.set i 255 = (Dv.half p s r a (i + 1)).b := fill_next _ _ hi
  have hg0 := h3 w.heap.size (fun k => k) (Nat.le_refl _)
  obtain ⟨q1, q2, q3⟩ := hg0.img.put i (by rw [hl]; exact hi) 255
  rw [e] at q1
  refine ⟨⟨?_, h2, fun B f hB => ?_⟩, q2⟩
  · exact h1.setCell (p := ⟨gb, i, none⟩) (by have := hg0.imb; exact this) _
  · have hg := h3 B f hB
    exact (hg.setImg (b' := (Dv.half p s r a (i + 1)).b) (by rw [← e, List.length_set]) q1 q3).1
set_option maxHeartbeats 2000000 in
set_option maxRecDepth 100000 in
theorem docnew_no {w : World} {p s r a : Int} (hk : chk p s r a = 20) : Calls Try.prog 13 #[.agg #[.int .i64 p, .int .i64 s, .int .i64 r, .int .i64 a]] w (Refused w 20) := by
  have KY := Aside0.mk (fun (w' : World) => cellarref02_Check.calls 20 p s r a 20 w' (by have := rcheck_eq 0 p s r a; rw [hk] at this; exact this))
  go_enter Try.func13, Try.ntmps13
  go_wp2_with (go_at_call 38; refine (KY.out _).mono ?_; rintro e w1 ⟨rfl, hb⟩; have B1 := Aside0.mk hb; clear hb)
  go_ret2
  exact ⟨rfl, (below_alloc (Below.refl w.heap.size w) _).trans (B1.out.mono (by simp))⟩
set_option maxHeartbeats 2000000 in
set_option maxRecDepth 100000 in
theorem docnew_yes {w : World} {p s r : Nat} {a : Int} (hk : Geo.Ok p s r a) : Calls Try.prog 13 #[.agg #[.int .i64 p, .int .i64 s, .int .i64 r, .int .i64 a]] w (NewD w (Dv.fresh p s r a)) := by
  have bd := Ok.bounds hk
  have KY := Aside0.mk (fun (w' : World) => cellarref02_Check.calls 20 p s r a 0 w' (by have := rcheck_eq 0 p s r a; unfold chk at this; rw [if_pos hk] at this; exact this))
  obtain ⟨n, hn⟩ : ∃ n, p * s * r = n := ⟨_, rfl⟩
  have e1 : (p : Int) * s * r = (n : Int) := by rw [← hn]; simp
  have hn1 : 1 ≤ n := by have := bd; omega
  have hn2 : n ≤ 1048576 := by have := bd; omega
  have hr : r ≤ 256 := by omega
  have eqn : wrap64 (wrap64 ((p : Int) * (s : Int)) * (r : Int)) = (n : Int) := by
    obtain ⟨_, _, _, _, _, _, _, _, _, _, _, _, _, w1, w2⟩ := bd
    rw [w1, w2, e1]
  have HNN := Aside0.mk hn
  clear bd hk e1 hn
  go_enter Try.func13, Try.ntmps13
  go_upto_region 4 with (go_at_call 38; refine (KY.out _).mono ?_; rintro e w1 ⟨rfl, hb⟩)
  have B0 := Aside0.mk ((below_alloc (Below.refl w.heap.size w) (.cells #[.int .i64 p, .int .i64 s, .int .i64 r, .int .i64 a] 23)).trans (hb.mono (by simp)))
  have g1 := blk_below (blk_new w (.cells #[.int .i64 p, .int .i64 s, .int .i64 r, .int .i64 a] 23)) hb
  obtain ⟨bx, hbx⟩ : ∃ bx, w.heap.size = bx := ⟨_, rfl⟩
  have HBX := Aside0.mk hbx
  rw [hbx] at g1
  rw [hbx]
  have c0 : w1.cell? ⟨bx, 0, none⟩ = some (.int .i64 (p : Int)) := blk_cell g1 0
  have c1 : w1.cell? ⟨bx, 1, none⟩ = some (.int .i64 (s : Int)) := blk_cell g1 1
  have c2 : w1.cell? ⟨bx, 2, none⟩ = some (.int .i64 (r : Int)) := blk_cell g1 2
  have c3 : w1.cell? ⟨bx, 3, none⟩ = some (.int .i64 (a : Int)) := blk_cell g1 3
  clear hb g1 hbx
  refine start_ (n := 16) (S := fun w' => w'.cell? ⟨bx, 0, none⟩ = some (.int .i64 (p : Int)) ∧ w'.cell? ⟨bx, 1, none⟩ = some (.int .i64 (s : Int)) ∧ w'.cell? ⟨bx, 2, none⟩ = some (.int .i64 (r : Int)) ∧ w'.cell? ⟨bx, 3, none⟩ = some (.int .i64 (a : Int))) (ds := []) #[F,F,F,F,F,F,F,F,F,F,F,F,F,F,F,F] (by kernel_rfl) rfl rfl (⟨c0, c1, c2, c3⟩) (fun hHeld => ?_)
  generalize hwd : w1.drew = wd at hHeld ⊢
  have BD : Aside0 (Below w1.heap.size w1 wd) := ⟨by rw [← hwd]; exact below_drew (Below.refl _ _)⟩
  clear hwd c0 c1 c2 c3
  obtain ⟨c0, c1, c2, c3⟩ := hHeld
  have hHeld : wd.cell? ⟨bx, 0, none⟩ = some (.int .i64 (p : Int)) ∧ wd.cell? ⟨bx, 1, none⟩ = some (.int .i64 (s : Int)) ∧ wd.cell? ⟨bx, 2, none⟩ = some (.int .i64 (r : Int)) ∧ wd.cell? ⟨bx, 3, none⟩ = some (.int .i64 (a : Int)) := ⟨c0, c1, c2, c3⟩
  refine take_ (i := 0) (N := some 12) (v := ?_) (a' := ?_) #[T,F,F,F,F,F,F,F,F,F,F,F,F,F,F,F] rfl rfl (by kernel_rfl) (fun _ _ _ h => h) (Or.inl ⟨by rfl, ?_⟩) hHeld ?_ ?_
  rotate_left
  · intro w' s0
    obtain ⟨s1, s2, s3, s4⟩ := s0
    go_simp
    with_reducible rfl
  rotate_left
  · simp only [Act.put, sA, s0_, sS, i64_w, i32_w]
    rfl
  refine pure_ (i := 1) (N := some 13) (v := ?_) (a' := ?_) #[T,T,F,F,F,F,F,F,F,F,F,F,F,F,F,F] rfl rfl (by kernel_rfl) (fun _ _ _ h => h) (Or.inl ⟨by rfl, ?_⟩) ?_ ?_
  rotate_left
  · intro w'
    go_simp
    with_reducible rfl
  rotate_left
  · simp only [Act.put, sA, s0_, sS, i64_w, i32_w]
    rfl
  refine take_ (i := 2) (N := some 14) (v := ?_) (a' := ?_) #[T,T,T,F,F,F,F,F,F,F,F,F,F,F,F,F] rfl rfl (by kernel_rfl) (fun _ _ _ h => h) (Or.inl ⟨by rfl, ?_⟩) hHeld ?_ ?_
  rotate_left
  · intro w' s0
    obtain ⟨s1, s2, s3, s4⟩ := s0
    go_simp
    with_reducible rfl
  rotate_left
  · simp only [Act.put, sA, s0_, sS, i64_w, i32_w]
    rfl
  refine pure_ (i := 3) (N := some 15) (v := ?_) (a' := ?_) #[T,T,T,T,F,F,F,F,F,F,F,F,F,F,F,F] rfl rfl (by kernel_rfl) (fun _ _ _ h => h) (Or.inl ⟨by rfl, ?_⟩) ?_ ?_
  rotate_left
  · intro w'
    go_simp
    with_reducible rfl
  rotate_left
  · simp only [Act.put, sA, s0_, sS, i64_w, i32_w]
    rfl
  refine take_ (i := 4) (N := some 16) (v := ?_) (a' := ?_) #[T,T,T,T,T,F,F,F,F,F,F,F,F,F,F,F] rfl rfl (by kernel_rfl) (fun _ _ _ h => h) (Or.inl ⟨by rfl, ?_⟩) hHeld ?_ ?_
  rotate_left
  · intro w' s0
    obtain ⟨s1, s2, s3, s4⟩ := s0
    go_simp
    with_reducible rfl
  rotate_left
  · simp only [Act.put, sA, s0_, sS, i64_w, i32_w]
    rfl
  refine pure_ (i := 5) (N := some 17) (v := ?_) (a' := ?_) #[T,T,T,T,T,T,F,F,F,F,F,F,F,F,F,F] rfl rfl (by kernel_rfl) (fun _ _ _ h => h) (Or.inl ⟨by rfl, ?_⟩) ?_ ?_
  rotate_left
  · intro w'
    go_simp
    with_reducible rfl
  rotate_left
  · simp only [Act.put, sA, s0_, sS, i64_w, i32_w]
    rfl
  refine pure_ (i := 6) (N := some 18) (v := ?_) (a' := ?_) #[T,T,T,T,T,T,T,F,F,F,F,F,F,F,F,F] rfl rfl (by kernel_rfl) (fun _ _ _ h => h) (Or.inl ⟨by rfl, ?_⟩) ?_ ?_
  rotate_left
  · intro w'
    go_simp
    with_reducible rfl
  rotate_left
  · simp only [Act.put, sA, s0_, sS, i64_w, i32_w]
    rfl
  refine take_ (i := 7) (N := some 19) (v := ?_) (a' := ?_) #[T,T,T,T,T,T,T,T,F,F,F,F,F,F,F,F] rfl rfl (by kernel_rfl) (fun _ _ _ h => h) (Or.inl ⟨by rfl, ?_⟩) hHeld ?_ ?_
  rotate_left
  · intro w' s0
    obtain ⟨s1, s2, s3, s4⟩ := s0
    go_simp
    with_reducible rfl
  rotate_left
  · simp only [Act.put, sA, s0_, sS, i64_w, i32_w]
    rfl
  refine pure_ (i := 8) (N := some 20) (v := ?_) (a' := ?_) #[T,T,T,T,T,T,T,T,T,F,F,F,F,F,F,F] rfl rfl (by kernel_rfl) (fun _ _ _ h => h) (Or.inl ⟨by rfl, ?_⟩) ?_ ?_
  rotate_left
  · intro w'
    go_simp
    with_reducible rfl
  rotate_left
  · simp only [Act.put, sA, s0_, sS, i64_w, i32_w]
    rfl
  refine pure_ (i := 10) (N := some 22) (v := ?_) (a' := ?_) #[T,T,T,T,T,T,T,T,T,F,T,F,F,F,F,F] rfl rfl (by kernel_rfl) (fun _ _ _ h => h) (Or.inl ⟨by rfl, ?_⟩) ?_ ?_
  rotate_left
  · intro w'
    go_simp
    with_reducible rfl
  rotate_left
  · simp only [Act.put, sA, s0_, sS, i64_w, i32_w]
    rfl
  refine take_ (i := 11) (N := some 23) (v := ?_) (a' := ?_) #[T,T,T,T,T,T,T,T,T,F,T,T,F,F,F,F] rfl rfl (by kernel_rfl) (fun _ _ _ h => h) (Or.inl ⟨by rfl, ?_⟩) hHeld ?_ ?_
  rotate_left
  · intro w' s0
    obtain ⟨s1, s2, s3, s4⟩ := s0
    go_simp
    with_reducible rfl
  rotate_left
  · simp only [Act.put, sA, s0_, sS, i64_w, i32_w]
    rfl
  refine join_ (σ := Value × Value) 3 #[T,T,T,T,T,T,T,T,T,T,T,T,T,F,F,F] (fun s_ => [(21, s_.1), (24, s_.2)]) (fun s_ w' => BothD wd n r s_.1 s_.2 w') ?_ ?_
  rotate_left
  · intro hCont
    refine two_ (i := 9) (j := 12) (Ni := some 21) (Nj := some 24) #[T,T,T,T,T,T,T,T,T,T,T,T,F,F,F,F] #[T,T,T,T,T,T,T,T,T,F,T,T,T,F,F,F] rfl rfl rfl rfl (by kernel_rfl) (by decide) (by decide) (fun K hK => ?_) (fun K hK => ?_)
    · skip
      refine Kd.R_make_step (Kd.int .u8) (w0 := wd) wd.heap.size 5 (by rfl) (N := 21) rfl 24 (.tmp 20) (.tmp 20) rfl (wrap64 (wrap64 ((p : Int) * (s : Int)) * (r : Int))) rfl rfl Try.underlying24 (.int .u8 0) 1 info5 rfl (by decide) (by decide) 0 (ok := fun q => wd.heap.size ≤ q) (okp := fun _ => False) rfl (fun _ h => h.elim) (Nat.le_refl _) (by rw [eqn]; omega) (by rw [eqn, Int.toNat_natCast]; omega) (Below.refl _ _) (Nat.le_refl _) ?_
      intro vb wa hI hb1 hg1 hat1
      rw [eqn, Int.toNat_natCast] at hI
      refine hK.out _ _ (by exact ⟨pw_cell_below hb1 c0, pw_cell_below hb1 c1, pw_cell_below hb1 c2, pw_cell_below hb1 c3⟩) (fun hHeld => ?_)
      clear hK K
      refine norm_ (a' := ?_) ?_ ?_
      rotate_left
      · show Act.put _ (some 21) _ = _
        simp only [Act.put, sA, s0_, sS, i64_w, i32_w]
        rfl
      refine one_ (i := 12) (N := some 24) #[T,T,T,T,T,T,T,T,T,T,T,T,T,F,F,F] rfl rfl (by kernel_rfl) (by decide) (fun K hK => ?_)
      refine Kd.R_make_step (Kd.int .i64) (w0 := wa) wa.heap.size 3 (by rfl) (N := 24) rfl 35 (.tmp 23) (.tmp 23) rfl (r : Int) rfl rfl Try.underlying35 (.int .i64 0) 8 info3 rfl (by decide) (by decide) 0 (ok := fun q => wa.heap.size ≤ q) (okp := fun _ => False) rfl (fun _ h => h.elim) (Nat.le_refl _) (by omega) (by simp; omega) (Below.refl _ _) (Nat.le_refl _) ?_
      intro vw wb hR hb2 hg hat
      rw [Int.toNat_natCast] at hR
      refine hK.out _ _ (by exact ⟨pw_cell_below (hb1.trans (hb2.mono hb1.size)) c0, pw_cell_below (hb1.trans (hb2.mono hb1.size)) c1, pw_cell_below (hb1.trans (hb2.mono hb1.size)) c2, pw_cell_below (hb1.trans (hb2.mono hb1.size)) c3⟩) (fun hHeld => ?_)
      clear hK K
      refine norm_ (a' := ?_) ?_ ?_
      rotate_left
      · show Act.put _ (some 24) _ = _
        simp only [Act.put, sA, s0_, sS, i64_w, i32_w]
        rfl
      exact norm_ (by simp only [putAll, Act.put, sA, s0_, sS]) (hCont (vb, vw) _ (BothD.ab hI hb1 hR hb2 hat))
    · skip
      refine Kd.R_make_step (Kd.int .i64) (w0 := wd) wd.heap.size 3 (by rfl) (N := 24) rfl 35 (.tmp 23) (.tmp 23) rfl (r : Int) rfl rfl Try.underlying35 (.int .i64 0) 8 info3 rfl (by decide) (by decide) 0 (ok := fun q => wd.heap.size ≤ q) (okp := fun _ => False) rfl (fun _ h => h.elim) (Nat.le_refl _) (by omega) (by simp; omega) (Below.refl _ _) (Nat.le_refl _) ?_
      intro vw wa hR hb2 hg hat
      rw [Int.toNat_natCast] at hR
      refine hK.out _ _ (by exact ⟨pw_cell_below hb2 c0, pw_cell_below hb2 c1, pw_cell_below hb2 c2, pw_cell_below hb2 c3⟩) (fun hHeld => ?_)
      clear hK K
      refine norm_ (a' := ?_) ?_ ?_
      rotate_left
      · show Act.put _ (some 24) _ = _
        simp only [Act.put, sA, s0_, sS, i64_w, i32_w]
        rfl
      refine one_ (i := 9) (N := some 21) #[T,T,T,T,T,T,T,T,T,T,T,T,T,F,F,F] rfl rfl (by kernel_rfl) (by decide) (fun K hK => ?_)
      refine Kd.R_make_step (Kd.int .u8) (w0 := wa) wa.heap.size 5 (by rfl) (N := 21) rfl 24 (.tmp 20) (.tmp 20) rfl (wrap64 (wrap64 ((p : Int) * (s : Int)) * (r : Int))) rfl rfl Try.underlying24 (.int .u8 0) 1 info5 rfl (by decide) (by decide) 0 (ok := fun q => wa.heap.size ≤ q) (okp := fun _ => False) rfl (fun _ h => h.elim) (Nat.le_refl _) (by rw [eqn]; omega) (by rw [eqn, Int.toNat_natCast]; omega) (Below.refl _ _) (Nat.le_refl _) ?_
      intro vb wb hI hb1 hg1 hat1
      rw [eqn, Int.toNat_natCast] at hI
      refine hK.out _ _ (by exact ⟨pw_cell_below (hb2.trans (hb1.mono hb2.size)) c0, pw_cell_below (hb2.trans (hb1.mono hb2.size)) c1, pw_cell_below (hb2.trans (hb1.mono hb2.size)) c2, pw_cell_below (hb2.trans (hb1.mono hb2.size)) c3⟩) (fun hHeld => ?_)
      clear hK K
      refine norm_ (a' := ?_) ?_ ?_
      rotate_left
      · show Act.put _ (some 21) _ = _
        simp only [Act.put, sA, s0_, sS, i64_w, i32_w]
        rfl
      exact norm_ (by simp only [putAll, Act.put, sA, s0_, sS]) (hCont (vb, vw) _ (BothD.ba hI hb1 hR hb2 hat))
  intro s_ w3 hF
  obtain ⟨vb, vw⟩ := s_
  simp only at hF
  obtain ⟨Aw, cw, ew⟩ := Kd.R_slice hF.2.2
  rw [List.length_replicate] at ew
  subst ew
  obtain ⟨gb, cb, eb⟩ : ∃ gb cb, vb = .slice (some ⟨gb, 0, none⟩) n cb := by
    obtain ⟨_, hn | ⟨gb, cap', cur, e, _⟩⟩ := Kd.own_of_R hF.2.1
    · rw [List.length_replicate] at hn; exact absurd hn.2 (by omega)
    · rw [List.length_replicate] at e; exact ⟨gb, _, e⟩
  subst eb
  have F3 := Aside0.mk hF
  clear hF
  refine norm_ (a' := ?_) ?_ ?_
  rotate_left
  · simp only [putAll, Act.put, sA, s0_, sS]
    rfl
  refine pure_ (i := 13) (N := some 25) (v := ?_) (a' := ?_) #[T,T,T,T,T,T,T,T,T,T,T,T,T,T,F,F] rfl rfl (by kernel_rfl) (fun _ _ _ h => h) (Or.inl ⟨by rfl, ?_⟩) ?_ ?_
  rotate_left
  · intro w'
    go_simp
    with_reducible rfl
  rotate_left
  · simp only [Act.put, sA, s0_, sS, i64_w, i32_w]
    rfl
  refine one_ (i := 14) (N := some 26) #[T,T,T,T,T,T,T,T,T,T,T,T,T,T,T,F] rfl rfl (by kernel_rfl) (by decide) (fun K hK => ?_)
  refine value_ (w1 := ?_) (v := ?_) (by rfl) rfl ?_ ?_
  rotate_left 2
  · go_simp
    constructor
    · rfl
    · rfl
  refine hK.out _ _ (by exact ⟨pw_cell_below (F3.out.1.alloc F3.out.1.size _) c0, pw_cell_below (F3.out.1.alloc F3.out.1.size _) c1, pw_cell_below (F3.out.1.alloc F3.out.1.size _) c2, pw_cell_below (F3.out.1.alloc F3.out.1.size _) c3⟩) (fun hHeld => ?_)
  clear hK K
  refine norm_ (a' := ?_) ?_ ?_
  rotate_left
  · show Act.put _ (some 26) _ = _
    simp only [Act.put, sA, s0_, sS, i64_w, i32_w]
    rfl
  refine pure_ (i := 15) (N := some 5) (v := ?_) (a' := ?_) #[T,T,T,T,T,T,T,T,T,T,T,T,T,T,T,T] rfl rfl (by kernel_rfl) (fun _ _ _ h => h) (Or.inl ⟨by rfl, ?_⟩) ?_ ?_
  rotate_left
  · intro w'
    go_simp
    with_reducible rfl
  rotate_left
  · simp only [Act.put, sA, s0_, sS, i64_w, i32_w]
    rfl
  refine done_ (by kernel_rfl) ?_
  have S4 : Aside0 (AllD w w3.heap.size (Dv.half p s r a 0) gb cb (.slice none 0 0) (.slice none 0 0) (.slice Aw r cw) (w3.alloc (.cells #[.int .i64 p, .int .i64 s, .int .i64 r, .int .i64 a, .slice (some ⟨gb, 0, none⟩) n cb, .slice none 0 0, .slice none 0 0, .int .i64 0, .int .i64 0, .int .i64 0, .int .i64 0, .int .i64 0, .int .i64 0, .slice Aw r cw] 39))) := ⟨by
    have h := @docnew_of w w1 wd w3 p s r gb cb a (.slice Aw r cw) (by rw [HNN.out]; exact F3.out) B0.out BD.out
    rw [HNN.out] at h
    exact h⟩
  generalize (w3.alloc _) = w4 at S4 ⊢
  generalize w3.heap.size = db at S4 ⊢
  clear F3 BD B0 hHeld eqn
  go_wp2
  go_loopw [6] (fun v wr => ∃ i : Nat, i ≤ n ∧ v = .int .i64 (i : Int) ∧ Aside0 (AllD w db (Dv.half p s r a i) gb cb (.slice none 0 0) (.slice none 0 0) (.slice Aw r cw) wr)) (fun v _ => n - (intOf v).toNat)
  case atStart => exact ⟨0, Nat.zero_le _, rfl, S4⟩
  case round =>
    obtain ⟨i, hi, rfl, S⟩ := hrel
    have hg0 := S.out.2.2 w.heap.size (fun k => k) (Nat.le_refl _)
    have hl : (Dv.half p s r a i).b.length = n := by
      rw [← HNN.out]
      unfold Dv.half
      show (List.replicate i (255 : Int) ++ List.replicate (p * s * r - i) 0).length = _
      rw [List.length_append, List.length_replicate, List.length_replicate, HNN.out]; omega
    have c4 : wr.cell? ⟨db, 4, none⟩ = some (.slice (some ⟨gb, 0, none⟩) n cb) := by rw [← hl]; exact hg0.at_ 4
    by_cases hlt : i < n
    · have m0 : (0 : Int) ≤ (i : Int) := by omega
      have m1 : (i : Int) < (n : Int) := by omega
      have g2 : decide ((i : Int) < (n : Int)) = true := decide_eq_true m1
      have Z := Aside0.mk (S.out.next (by rw [HNN.out]; exact hlt))
      have k0 := Z.out.2
      obtain ⟨x, hx⟩ : ∃ x, (Dv.half p s r a i).b[i]? = some x := ⟨_, List.getElem?_eq_getElem (by rw [hl]; exact hlt)⟩
      have k1 := hg0.img.get i x hx
      have LT := Aside0.mk hlt
      clear hg0 hl hx
      go_wp2
      go_roundw
      case rel => exact ⟨i + 1, LT.out, by congr 1 <;> simp, ⟨Z.out.1⟩⟩
      case measure =>
        have := LT.out
        simp [intOf]
        omega
    · have hin : i = n := by omega
      have IN := Aside0.mk hin
      have g2 : decide ((i : Int) < (n : Int)) = false := decide_eq_false (by omega)
      clear hg0 hl hin
      go_wp2
      go_ret2
      have h := S.out
      rw [IN.out, ← HNN.out, half_all] at h
      exact ⟨db, gb, cb, _, _, _, rfl, h⟩
/-! ### The document's Load -/
theorem owns_twice (f : Owner) {n m id : Nat} (hm : n ≤ m) : owns (owns f n id) m id = owns f n id := by
  funext k
  by_cases hk : k < m
  · exact owns_old _ _ _ k hk
  · rw [owns_new _ _ _ k (by omega), owns_new _ _ _ k (by omega)]
set_option maxHeartbeats 2000000 in
set_option maxRecDepth 100000 in
theorem docload_yes {w : World} {p s r : Nat} {a : Int} (hk : Geo.Ok p s r a) {A : Option Addr} {c : Nat} {x : List Int} (hC : (Kd.int .u8).C w A x.length x) :
    Calls Try.prog 18 #[.agg #[.int .i64 p, .int .i64 s, .int .i64 r, .int .i64 a], .slice A x.length c] w (fun e w' => if x.length = p * s * r then NewD w { Dv.fresh p s r a with b := x } e w' else e = .returned (.tuple #[.pointer none, .int .i64 1]) ∧ Below w.heap.size w w') := by
  have HC := Aside0.mk hC
  obtain ⟨w1, hw1⟩ : ∃ w1, w.alloc (.cells #[.int .i64 p, .int .i64 s, .int .i64 r, .int .i64 a] 23) = w1 := ⟨_, rfl⟩
  have B1 : Aside0 (Below w.heap.size w w1) := ⟨by rw [← hw1]; exact below_alloc (Below.refl _ _) _⟩
  have K1 : w1.heap[w.heap.size]? = some (.cells #[.int .i64 p, .int .i64 s, .int .i64 r, .int .i64 a] 23 (0, 0)) := by rw [← hw1]; exact blk_new w _
  have KN := Aside0.mk (docnew_yes (w := w1) hk)
  obtain ⟨ln, hln⟩ : ∃ ln, x.length = ln := ⟨_, rfl⟩
  have HLN := Aside0.mk hln
  rw [hln]
  obtain ⟨Q, hQ⟩ : ∃ Q : Ending → World → Prop, (fun e w' => if ln = p * s * r then NewD w { Dv.fresh p s r a with b := x } e w' else e = .returned (.tuple #[.pointer none, .int .i64 1]) ∧ Below w.heap.size w w') = Q := ⟨_, rfl⟩
  have HQ := Aside0.mk hQ
  rw [hQ]
  have OKD : Aside0 (1 ≤ p * s * r) := ⟨by
    have bd := Ok.bounds hk
    exact Nat.mul_pos (Nat.mul_pos (by omega) (by omega)) (by omega)⟩
  clear hC hln hQ hk
  go_enter Try.func18, Try.ntmps18
  go_upto_region 1 with (fail)
  clear hw1
  generalize w.heap.size = bx at K1 ⊢
  have c0 : w1.cell? ⟨bx, 0, none⟩ = some (.int .i64 p) := blk_cell K1 0
  have c1 : w1.cell? ⟨bx, 1, none⟩ = some (.int .i64 s) := blk_cell K1 1
  have c2 : w1.cell? ⟨bx, 2, none⟩ = some (.int .i64 r) := blk_cell K1 2
  have c3 : w1.cell? ⟨bx, 3, none⟩ = some (.int .i64 a) := blk_cell K1 3
  clear K1
  obtain ⟨bl, hbl⟩ : ∃ bl, p * s * r = bl := ⟨_, rfl⟩
  have HBL := Aside0.mk hbl
  clear hbl
  go_upto_region 2 with (go_at_call 13; refine KN.out.mono ?_; rintro e w2 ⟨db, im, imc, vu, vf, vw, rfl, hall⟩; have HD := Aside0.mk hall; clear hall)
  have hg := HD.out.2.2 w1.heap.size (fun k => k) (Nat.le_refl _)
  have hbl : (Dv.fresh p s r a).b.length = bl := by rw [← HBL.out]; exact List.length_replicate ..
  have c4 : w2.cell? ⟨db, 4, none⟩ = some (.slice (some ⟨im, 0, none⟩) bl imc) := by rw [← hbl]; exact hg.at_ 4
  have HG := Aside0.mk hg
  have HBB := Aside0.mk hbl
  clear hg hbl
  by_cases hl : ln = bl
  · have hl2 : (ln : Int) = (bl : Int) := by omega
    have hrun : ∃ w3, (Builtin.copy_ #[24, 24] 3 #[.slice (some ⟨im, 0, none⟩) bl imc, .slice A ln c]).run Try.prog w2 = .ok (goInt ln) w3 ∧ Im w3 im imc x ∧ w2.grownBy w3 (some im) := by
      have hp := OKD.out
      rw [HBL.out] at hp
      obtain ⟨w3, e1, e2, e3, _⟩ := HG.out.img.copy 0 x (by rw [HBB.out, HLN.out]; omega) (dLen := bl) (dCap := imc) (sLen := ln) (sCap := c) (A := A) (by rw [HLN.out, hl]; exact (Nat.min_self bl).symm) (by rw [HLN.out]; omega) ⟨x, by have := Kd.C_below HC.out (B1.out.trans (HD.out.1.mono B1.out.size)); rw [HLN.out] at this; exact this, by rw [List.take_length]⟩ 3
      rw [HLN.out] at e1
      refine ⟨w3, e1, ?_, e3⟩
      have e : putAt (Dv.fresh p s r a).b 0 x = x := by
        unfold putAt
        rw [List.take_zero, List.nil_append, List.drop_of_length_le (by rw [HBB.out, HLN.out]; omega), List.append_nil]
      rw [e] at e2
      exact e2
    obtain ⟨w3, hrun, hi, hgr⟩ := hrun
    have HI := Aside0.mk hi
    have HGR := Aside0.mk hgr
    have HLL := Aside0.mk hl
    clear hi hgr hl
    go_wp2
    rw [← HQ.out]
    show if ln = p * s * r then _ else _
    rw [if_pos (by rw [HBL.out]; exact HLL.out)]
    have hlen : x.length = (Dv.fresh p s r a).b.length := by rw [HBB.out, HLN.out]; exact HLL.out
    have hw2 := B1.out.trans (HD.out.1.mono B1.out.size)
    have hb3 : Below w1.heap.size w2 _ := (HG.out.setImg hlen HI.out HGR.out).2.below
    refine ⟨db, im, imc, vu, vf, vw, rfl, hw2.trans (hb3.mono B1.out.size), Nat.le_trans B1.out.size HD.out.2.1, fun B f hB => ?_⟩
    have hg' := HD.out.2.2 B (owns f w.heap.size db) (Nat.le_trans hB B1.out.size)
    rw [owns_twice f B1.out.size] at hg'
    exact (hg'.setImg hlen HI.out HGR.out).1
  · have hl3 : ¬ (ln : Int) = (bl : Int) := by omega
    have HLL := Aside0.mk hl
    clear hl
    have hl2 : (ln : Int) ≠ (bl : Int) := hl3
    go_wp2
    rw [← HQ.out]
    show if ln = p * s * r then _ else _
    rw [if_neg (by rw [HBL.out]; exact HLL.out)]
    exact ⟨rfl, B1.out.trans (HD.out.1.mono B1.out.size)⟩
set_option maxHeartbeats 2000000 in
set_option maxRecDepth 100000 in
theorem docload_no {w : World} {p s r a : Int} (hk : chk p s r a = 20) {A : Option Addr} {n c : Nat} :
    Calls Try.prog 18 #[.agg #[.int .i64 p, .int .i64 s, .int .i64 r, .int .i64 a], .slice A n c] w (fun e w' => e = .returned (.tuple #[.pointer none, .int .i64 20]) ∧ Below w.heap.size w w') := by
  obtain ⟨w1, hw1⟩ : ∃ w1, w.alloc (.cells #[.int .i64 p, .int .i64 s, .int .i64 r, .int .i64 a] 23) = w1 := ⟨_, rfl⟩
  have B1 : Aside0 (Below w.heap.size w w1) := ⟨by rw [← hw1]; exact below_alloc (Below.refl _ _) _⟩
  have K1 : w1.heap[w.heap.size]? = some (.cells #[.int .i64 p, .int .i64 s, .int .i64 r, .int .i64 a] 23 (0, 0)) := by rw [← hw1]; exact blk_new w _
  have KN := Aside0.mk (docnew_no (w := w1) hk)
  obtain ⟨Q, hQ⟩ : ∃ Q : Ending → World → Prop, (fun e w' => e = .returned (.tuple #[.pointer none, .int .i64 20]) ∧ Below w.heap.size w w') = Q := ⟨_, rfl⟩
  have HQ := Aside0.mk hQ
  rw [hQ]
  clear hQ hk
  go_enter Try.func18, Try.ntmps18
  go_upto_region 1 with (fail)
  clear hw1
  generalize w.heap.size = bx at K1 ⊢
  have c0 : w1.cell? ⟨bx, 0, none⟩ = some (.int .i64 p) := blk_cell K1 0
  have c1 : w1.cell? ⟨bx, 1, none⟩ = some (.int .i64 s) := blk_cell K1 1
  have c2 : w1.cell? ⟨bx, 2, none⟩ = some (.int .i64 r) := blk_cell K1 2
  have c3 : w1.cell? ⟨bx, 3, none⟩ = some (.int .i64 a) := blk_cell K1 3
  clear K1
  go_wp2_with (go_at_call 13; refine KN.out.mono ?_; rintro e w2 ⟨rfl, hb2⟩; have B2 := Aside0.mk hb2; clear hb2)
  rw [← HQ.out]
  exact ⟨rfl, B1.out.trans (B2.out.mono B1.out.size)⟩
/-! ### The document's Counts -/
section
variable {B : Nat} {f : Owner} {w : World} {db : Nat} {d : Dv}
set_option maxHeartbeats 2000000 in
set_option maxRecDepth 100000 in
theorem doccounts_walk (h : DocX B f w db d) (ok : d.Ok) : Calls Try.prog 21 #[.pointer (some ⟨db, 0, none⟩)] w (fun e w' => ∃ v, e = .returned (.agg #[.int .i64 (d.c 1), .int .i64 (d.c 2), .int .i64 (d.c 3), .int .i64 (d.c 4), .int .i64 d.failed, v]) ∧ Below w.heap.size w w' ∧ (Kd.int .i64).R 3 w' w.heap.size (fun k => w.heap.size ≤ k) v d.wear) := by
  have H := Aside0.mk h
  have OK := Aside0.mk ok
  obtain ⟨w1, hw1⟩ : ∃ w1, w.alloc (.cells #[.int .i64 0, .int .i64 0, .int .i64 0, .int .i64 0, .int .i64 0, .slice none 0 0] 45) = w1 := ⟨_, rfl⟩
  have B1 : Aside0 (Below w.heap.size w w1) := ⟨by rw [← hw1]; exact below_alloc (Below.refl _ _) _⟩
  have K1 : w1.heap[w.heap.size]? = some (.cells #[.int .i64 0, .int .i64 0, .int .i64 0, .int .i64 0, .int .i64 0, .slice none 0 0] 45 (0, 0)) := by rw [← hw1]; exact blk_new w _
  clear h ok
  go_enter Try.func21, Try.ntmps21
  go_upto_region 1 with (fail)
  clear hw1
  generalize hbx : w.heap.size = bx at K1 ⊢
  have LB : Aside0 (w.heap.size ≤ bx) := ⟨by omega⟩
  clear hbx
  obtain ⟨im, imc, vu, vf, vw, hg⟩ := H.out.below B1.out
  obtain ⟨Aw, cw, ew, hle, hC⟩ := Kd.R_reads hg.wr
  subst ew
  obtain ⟨nw, hnw⟩ : ∃ nw, d.wear.length = nw := ⟨_, rfl⟩
  have hnb : nw ≤ 256 := by rw [← hnw, OK.out.wl]; exact OK.out.r2
  have HCW : Aside0 ((Kd.int .i64).C w1 Aw nw d.wear) := ⟨by rw [← hnw]; exact hC⟩
  have c8 : w1.cell? ⟨db, 8, none⟩ = some (.int .i64 (d.c 1)) := hg.at_ 8
  have c9 : w1.cell? ⟨db, 9, none⟩ = some (.int .i64 (d.c 2)) := hg.at_ 9
  have c10 : w1.cell? ⟨db, 10, none⟩ = some (.int .i64 (d.c 3)) := hg.at_ 10
  have c11 : w1.cell? ⟨db, 11, none⟩ = some (.int .i64 (d.c 4)) := hg.at_ 11
  have c12 : w1.cell? ⟨db, 12, none⟩ = some (.int .i64 d.failed) := hg.at_ 12
  have c13 : w1.cell? ⟨db, 13, none⟩ = some (.slice Aw d.wear.length cw) := hg.at_ 13
  rw [hnw] at c13
  clear hg hle hC hnw
  refine start_ (n := 32) (S := fun w' => w'.cell? ⟨db, 8, none⟩ = some (.int .i64 (d.c 1)) ∧ w'.cell? ⟨db, 9, none⟩ = some (.int .i64 (d.c 2)) ∧ w'.cell? ⟨db, 10, none⟩ = some (.int .i64 (d.c 3)) ∧ w'.cell? ⟨db, 11, none⟩ = some (.int .i64 (d.c 4)) ∧ w'.cell? ⟨db, 12, none⟩ = some (.int .i64 d.failed) ∧ w'.cell? ⟨db, 13, none⟩ = some (.slice Aw nw cw)) (ds := [31]) #[F,F,F,F,F,F,F,F,F,F,F,F,F,F,F,F,F,F,F,F,F,F,F,F,F,F,F,F,F,F,F,F] (by kernel_rfl) rfl rfl (⟨c8, c9, c10, c11, c12, c13⟩) (fun hHeld => ?_)
  generalize hwd : w1.drew = wd at hHeld ⊢
  have BD : Aside0 (Below w1.heap.size w1 wd) := ⟨by rw [← hwd]; exact below_drew (Below.refl _ _)⟩
  clear hwd
  refine pure_ (i := 0) (N := some 3) (v := ?_) (a' := ?_) #[T,F,F,F,F,F,F,F,F,F,F,F,F,F,F,F,F,F,F,F,F,F,F,F,F,F,F,F,F,F,F,F] rfl rfl (by kernel_rfl) (fun _ _ _ h => h) (Or.inl ⟨by rfl, ?_⟩) ?_ ?_
  rotate_left
  · intro w'
    go_simp
    with_reducible rfl
  rotate_left
  · simp only [Act.put, sA, s0_, sS, i64_w, i32_w]
    rfl
  refine pure_ (i := 1) (N := some 4) (v := ?_) (a' := ?_) #[T,T,F,F,F,F,F,F,F,F,F,F,F,F,F,F,F,F,F,F,F,F,F,F,F,F,F,F,F,F,F,F] rfl rfl (by kernel_rfl) (fun _ _ _ h => h) (Or.inl ⟨by rfl, ?_⟩) ?_ ?_
  rotate_left
  · intro w'
    go_simp
    with_reducible rfl
  rotate_left
  · simp only [Act.put, sA, s0_, sS, i64_w, i32_w]
    rfl
  refine pure_ (i := 2) (N := some 5) (v := ?_) (a' := ?_) #[T,T,T,F,F,F,F,F,F,F,F,F,F,F,F,F,F,F,F,F,F,F,F,F,F,F,F,F,F,F,F,F] rfl rfl (by kernel_rfl) (fun _ _ _ h => h) (Or.inl ⟨by rfl, ?_⟩) ?_ ?_
  rotate_left
  · intro w'
    go_simp
    with_reducible rfl
  rotate_left
  · simp only [Act.put, sA, s0_, sS, i64_w, i32_w]
    rfl
  refine pure_ (i := 3) (N := some 6) (v := ?_) (a' := ?_) #[T,T,T,T,F,F,F,F,F,F,F,F,F,F,F,F,F,F,F,F,F,F,F,F,F,F,F,F,F,F,F,F] rfl rfl (by kernel_rfl) (fun _ _ _ h => h) (Or.inl ⟨by rfl, ?_⟩) ?_ ?_
  rotate_left
  · intro w'
    go_simp
    with_reducible rfl
  rotate_left
  · simp only [Act.put, sA, s0_, sS, i64_w, i32_w]
    rfl
  refine take_ (i := 4) (N := some 7) (v := ?_) (a' := ?_) #[T,T,T,T,T,F,F,F,F,F,F,F,F,F,F,F,F,F,F,F,F,F,F,F,F,F,F,F,F,F,F,F] rfl rfl (by kernel_rfl) (fun _ _ _ h => h) (Or.inl ⟨by rfl, ?_⟩) hHeld ?_ ?_
  rotate_left
  · intro w' s0
    obtain ⟨s1, s2, s3, s4, s5, s6⟩ := s0
    go_simp
    with_reducible rfl
  rotate_left
  · simp only [Act.put, sA, s0_, sS, i64_w, i32_w]
    rfl
  refine pure_ (i := 5) (N := some 8) (v := ?_) (a' := ?_) #[T,T,T,T,T,T,F,F,F,F,F,F,F,F,F,F,F,F,F,F,F,F,F,F,F,F,F,F,F,F,F,F] rfl rfl (by kernel_rfl) (fun _ _ _ h => h) (Or.inl ⟨by rfl, ?_⟩) ?_ ?_
  rotate_left
  · intro w'
    go_simp
    with_reducible rfl
  rotate_left
  · simp only [Act.put, sA, s0_, sS, i64_w, i32_w]
    rfl
  refine pure_ (i := 6) (N := some 9) (v := ?_) (a' := ?_) #[T,T,T,T,T,T,T,F,F,F,F,F,F,F,F,F,F,F,F,F,F,F,F,F,F,F,F,F,F,F,F,F] rfl rfl (by kernel_rfl) (fun _ _ _ h => h) (Or.inl ⟨by rfl, ?_⟩) ?_ ?_
  rotate_left
  · intro w'
    go_simp
    with_reducible rfl
  rotate_left
  · simp only [Act.put, sA, s0_, sS, i64_w, i32_w]
    rfl
  refine pure_ (i := 7) (N := some 10) (v := ?_) (a' := ?_) #[T,T,T,T,T,T,T,T,F,F,F,F,F,F,F,F,F,F,F,F,F,F,F,F,F,F,F,F,F,F,F,F] rfl rfl (by kernel_rfl) (fun _ _ _ h => h) (Or.inl ⟨by rfl, ?_⟩) ?_ ?_
  rotate_left
  · intro w'
    go_simp
    with_reducible rfl
  rotate_left
  · simp only [Act.put, sA, s0_, sS, i64_w, i32_w]
    rfl
  refine pure_ (i := 8) (N := some 11) (v := ?_) (a' := ?_) #[T,T,T,T,T,T,T,T,T,F,F,F,F,F,F,F,F,F,F,F,F,F,F,F,F,F,F,F,F,F,F,F] rfl rfl (by kernel_rfl) (fun _ _ _ h => h) (Or.inl ⟨by rfl, ?_⟩) ?_ ?_
  rotate_left
  · intro w'
    go_simp
    with_reducible rfl
  rotate_left
  · simp only [Act.put, sA, s0_, sS, i64_w, i32_w]
    rfl
  refine take_ (i := 9) (N := some 12) (v := ?_) (a' := ?_) #[T,T,T,T,T,T,T,T,T,T,F,F,F,F,F,F,F,F,F,F,F,F,F,F,F,F,F,F,F,F,F,F] rfl rfl (by kernel_rfl) (fun _ _ _ h => h) (Or.inl ⟨by rfl, ?_⟩) hHeld ?_ ?_
  rotate_left
  · intro w' s0
    obtain ⟨s1, s2, s3, s4, s5, s6⟩ := s0
    go_simp
    with_reducible rfl
  rotate_left
  · simp only [Act.put, sA, s0_, sS, i64_w, i32_w]
    rfl
  refine pure_ (i := 10) (N := some 13) (v := ?_) (a' := ?_) #[T,T,T,T,T,T,T,T,T,T,T,F,F,F,F,F,F,F,F,F,F,F,F,F,F,F,F,F,F,F,F,F] rfl rfl (by kernel_rfl) (fun _ _ _ h => h) (Or.inl ⟨by rfl, ?_⟩) ?_ ?_
  rotate_left
  · intro w'
    go_simp
    with_reducible rfl
  rotate_left
  · simp only [Act.put, sA, s0_, sS, i64_w, i32_w]
    rfl
  refine pure_ (i := 11) (N := some 14) (v := ?_) (a' := ?_) #[T,T,T,T,T,T,T,T,T,T,T,T,F,F,F,F,F,F,F,F,F,F,F,F,F,F,F,F,F,F,F,F] rfl rfl (by kernel_rfl) (fun _ _ _ h => h) (Or.inl ⟨by rfl, ?_⟩) ?_ ?_
  rotate_left
  · intro w'
    go_simp
    with_reducible rfl
  rotate_left
  · simp only [Act.put, sA, s0_, sS, i64_w, i32_w]
    rfl
  refine pure_ (i := 12) (N := some 15) (v := ?_) (a' := ?_) #[T,T,T,T,T,T,T,T,T,T,T,T,T,F,F,F,F,F,F,F,F,F,F,F,F,F,F,F,F,F,F,F] rfl rfl (by kernel_rfl) (fun _ _ _ h => h) (Or.inl ⟨by rfl, ?_⟩) ?_ ?_
  rotate_left
  · intro w'
    go_simp
    with_reducible rfl
  rotate_left
  · simp only [Act.put, sA, s0_, sS, i64_w, i32_w]
    rfl
  refine pure_ (i := 13) (N := some 16) (v := ?_) (a' := ?_) #[T,T,T,T,T,T,T,T,T,T,T,T,T,T,F,F,F,F,F,F,F,F,F,F,F,F,F,F,F,F,F,F] rfl rfl (by kernel_rfl) (fun _ _ _ h => h) (Or.inl ⟨by rfl, ?_⟩) ?_ ?_
  rotate_left
  · intro w'
    go_simp
    with_reducible rfl
  rotate_left
  · simp only [Act.put, sA, s0_, sS, i64_w, i32_w]
    rfl
  refine take_ (i := 14) (N := some 17) (v := ?_) (a' := ?_) #[T,T,T,T,T,T,T,T,T,T,T,T,T,T,T,F,F,F,F,F,F,F,F,F,F,F,F,F,F,F,F,F] rfl rfl (by kernel_rfl) (fun _ _ _ h => h) (Or.inl ⟨by rfl, ?_⟩) hHeld ?_ ?_
  rotate_left
  · intro w' s0
    obtain ⟨s1, s2, s3, s4, s5, s6⟩ := s0
    go_simp
    with_reducible rfl
  rotate_left
  · simp only [Act.put, sA, s0_, sS, i64_w, i32_w]
    rfl
  refine pure_ (i := 15) (N := some 18) (v := ?_) (a' := ?_) #[T,T,T,T,T,T,T,T,T,T,T,T,T,T,T,T,F,F,F,F,F,F,F,F,F,F,F,F,F,F,F,F] rfl rfl (by kernel_rfl) (fun _ _ _ h => h) (Or.inl ⟨by rfl, ?_⟩) ?_ ?_
  rotate_left
  · intro w'
    go_simp
    with_reducible rfl
  rotate_left
  · simp only [Act.put, sA, s0_, sS, i64_w, i32_w]
    rfl
  refine pure_ (i := 16) (N := some 19) (v := ?_) (a' := ?_) #[T,T,T,T,T,T,T,T,T,T,T,T,T,T,T,T,T,F,F,F,F,F,F,F,F,F,F,F,F,F,F,F] rfl rfl (by kernel_rfl) (fun _ _ _ h => h) (Or.inl ⟨by rfl, ?_⟩) ?_ ?_
  rotate_left
  · intro w'
    go_simp
    with_reducible rfl
  rotate_left
  · simp only [Act.put, sA, s0_, sS, i64_w, i32_w]
    rfl
  refine pure_ (i := 17) (N := some 20) (v := ?_) (a' := ?_) #[T,T,T,T,T,T,T,T,T,T,T,T,T,T,T,T,T,T,F,F,F,F,F,F,F,F,F,F,F,F,F,F] rfl rfl (by kernel_rfl) (fun _ _ _ h => h) (Or.inl ⟨by rfl, ?_⟩) ?_ ?_
  rotate_left
  · intro w'
    go_simp
    with_reducible rfl
  rotate_left
  · simp only [Act.put, sA, s0_, sS, i64_w, i32_w]
    rfl
  refine pure_ (i := 18) (N := some 21) (v := ?_) (a' := ?_) #[T,T,T,T,T,T,T,T,T,T,T,T,T,T,T,T,T,T,T,F,F,F,F,F,F,F,F,F,F,F,F,F] rfl rfl (by kernel_rfl) (fun _ _ _ h => h) (Or.inl ⟨by rfl, ?_⟩) ?_ ?_
  rotate_left
  · intro w'
    go_simp
    with_reducible rfl
  rotate_left
  · simp only [Act.put, sA, s0_, sS, i64_w, i32_w]
    rfl
  refine take_ (i := 19) (N := some 22) (v := ?_) (a' := ?_) #[T,T,T,T,T,T,T,T,T,T,T,T,T,T,T,T,T,T,T,T,F,F,F,F,F,F,F,F,F,F,F,F] rfl rfl (by kernel_rfl) (fun _ _ _ h => h) (Or.inl ⟨by rfl, ?_⟩) hHeld ?_ ?_
  rotate_left
  · intro w' s0
    obtain ⟨s1, s2, s3, s4, s5, s6⟩ := s0
    go_simp
    with_reducible rfl
  rotate_left
  · simp only [Act.put, sA, s0_, sS, i64_w, i32_w]
    rfl
  refine pure_ (i := 20) (N := some 23) (v := ?_) (a' := ?_) #[T,T,T,T,T,T,T,T,T,T,T,T,T,T,T,T,T,T,T,T,T,F,F,F,F,F,F,F,F,F,F,F] rfl rfl (by kernel_rfl) (fun _ _ _ h => h) (Or.inl ⟨by rfl, ?_⟩) ?_ ?_
  rotate_left
  · intro w'
    go_simp
    with_reducible rfl
  rotate_left
  · simp only [Act.put, sA, s0_, sS, i64_w, i32_w]
    rfl
  refine pure_ (i := 21) (N := some 24) (v := ?_) (a' := ?_) #[T,T,T,T,T,T,T,T,T,T,T,T,T,T,T,T,T,T,T,T,T,T,F,F,F,F,F,F,F,F,F,F] rfl rfl (by kernel_rfl) (fun _ _ _ h => h) (Or.inl ⟨by rfl, ?_⟩) ?_ ?_
  rotate_left
  · intro w'
    go_simp
    with_reducible rfl
  rotate_left
  · simp only [Act.put, sA, s0_, sS, i64_w, i32_w]
    rfl
  refine pure_ (i := 22) (N := some 25) (v := ?_) (a' := ?_) #[T,T,T,T,T,T,T,T,T,T,T,T,T,T,T,T,T,T,T,T,T,T,T,F,F,F,F,F,F,F,F,F] rfl rfl (by kernel_rfl) (fun _ _ _ h => h) (Or.inl ⟨by rfl, ?_⟩) ?_ ?_
  rotate_left
  · intro w'
    go_simp
    with_reducible rfl
  rotate_left
  · simp only [Act.put, sA, s0_, sS, i64_w, i32_w]
    rfl
  refine take_ (i := 23) (N := some 26) (v := ?_) (a' := ?_) #[T,T,T,T,T,T,T,T,T,T,T,T,T,T,T,T,T,T,T,T,T,T,T,T,F,F,F,F,F,F,F,F] rfl rfl (by kernel_rfl) (fun _ _ _ h => h) (Or.inl ⟨by rfl, ?_⟩) hHeld ?_ ?_
  rotate_left
  · intro w' s0
    obtain ⟨s1, s2, s3, s4, s5, s6⟩ := s0
    go_simp
    with_reducible rfl
  rotate_left
  · simp only [Act.put, sA, s0_, sS, i64_w, i32_w]
    rfl
  refine pure_ (i := 25) (N := some 28) (v := ?_) (a' := ?_) #[T,T,T,T,T,T,T,T,T,T,T,T,T,T,T,T,T,T,T,T,T,T,T,T,F,T,F,F,F,F,F,F] rfl rfl (by kernel_rfl) (fun _ _ _ h => h) (Or.inl ⟨by rfl, ?_⟩) ?_ ?_
  rotate_left
  · intro w'
    go_simp
    with_reducible rfl
  rotate_left
  · simp only [Act.put, sA, s0_, sS, i64_w, i32_w]
    rfl
  refine pure_ (i := 26) (N := some 29) (v := ?_) (a' := ?_) #[T,T,T,T,T,T,T,T,T,T,T,T,T,T,T,T,T,T,T,T,T,T,T,T,F,T,T,F,F,F,F,F] rfl rfl (by kernel_rfl) (fun _ _ _ h => h) (Or.inl ⟨by rfl, ?_⟩) ?_ ?_
  rotate_left
  · intro w'
    go_simp
    with_reducible rfl
  rotate_left
  · simp only [Act.put, sA, s0_, sS, i64_w, i32_w]
    rfl
  refine pure_ (i := 27) (N := some 30) (v := ?_) (a' := ?_) #[T,T,T,T,T,T,T,T,T,T,T,T,T,T,T,T,T,T,T,T,T,T,T,T,F,T,T,T,F,F,F,F] rfl rfl (by kernel_rfl) (fun _ _ _ h => h) (Or.inl ⟨by rfl, ?_⟩) ?_ ?_
  rotate_left
  · intro w'
    go_simp
    with_reducible rfl
  rotate_left
  · simp only [Act.put, sA, s0_, sS, i64_w, i32_w]
    rfl
  refine take_ (i := 28) (N := some 31) (v := ?_) (a' := ?_) #[T,T,T,T,T,T,T,T,T,T,T,T,T,T,T,T,T,T,T,T,T,T,T,T,F,T,T,T,T,F,F,F] rfl rfl (by kernel_rfl) (fun _ _ _ h => h) (Or.inl ⟨by rfl, ?_⟩) hHeld ?_ ?_
  rotate_left
  · intro w' s0
    obtain ⟨s1, s2, s3, s4, s5, s6⟩ := s0
    go_simp
    with_reducible rfl
  rotate_left
  · simp only [Act.put, sA, s0_, sS, i64_w, i32_w]
    rfl
  refine one_ (i := 24) (N := some 27) #[T,T,T,T,T,T,T,T,T,T,T,T,T,T,T,T,T,T,T,T,T,T,T,T,T,T,T,T,T,F,F,F] rfl rfl (by kernel_rfl) (by decide) (fun K hK => ?_)
  refine value_ (w1 := ?_) (v := ?_) (by rfl) rfl ?_ ?_
  rotate_left 2
  · go_simp
    constructor
    · rfl
    · rfl
  refine hK.out _ _ (by exact ⟨pw_cell_below (below_alloc BD.out _) c8, pw_cell_below (below_alloc BD.out _) c9, pw_cell_below (below_alloc BD.out _) c10, pw_cell_below (below_alloc BD.out _) c11, pw_cell_below (below_alloc BD.out _) c12, pw_cell_below (below_alloc BD.out _) c13⟩) (fun hHeld => ?_)
  clear hK K
  refine norm_ (a' := ?_) ?_ ?_
  rotate_left
  · show Act.put _ (some 27) _ = _
    simp only [Act.put, sA, s0_, sS, i64_w, i32_w]
    rfl
  refine one_ (i := 29) (N := some 32) #[T,T,T,T,T,T,T,T,T,T,T,T,T,T,T,T,T,T,T,T,T,T,T,T,T,T,T,T,T,T,F,F] rfl rfl (by kernel_rfl) (by decide) (fun K hK => ?_)
  refine Kd.R_append_rows_step (Kd.int .i64) (w0 := wd.alloc (.cells #[] 3)) wd.heap.size (by rfl) (.tmp 27) (.tmp 31) 35 3 (.int .i64 0) 8 rfl Try.underlying35 info3 rfl (by decide) (by decide) (.slice (some ⟨wd.heap.size, 0, none⟩) 0 0) [] d.wear Aw nw cw (fun k => wd.heap.size ≤ k) (fun _ => False) rfl rfl (made0 _ _ wd) (Kd.C_below HCW.out (below_alloc BD.out _)) (fun x cs h => h) (fun k h => h.elim) (fun k h => by simp at h; omega) (Below.refl _ _) (by simp) (by simp; omega) ?_
  intro v2 w2 hR hb2 hg2 hat2
  obtain ⟨Av, cv, hv2⟩ := Kd.R_slice hR
  rw [List.nil_append] at hv2 hR
  subst hv2
  have HR := Aside0.mk hR
  have HB := Aside0.mk ((below_alloc (Below.refl wd.heap.size wd) (.cells #[] 3)).trans hb2)
  clear hR hb2 hg2 hat2
  refine hK.out _ _ (by exact ⟨pw_cell_below (BD.out.trans (HB.out.mono BD.out.size)) c8, pw_cell_below (BD.out.trans (HB.out.mono BD.out.size)) c9, pw_cell_below (BD.out.trans (HB.out.mono BD.out.size)) c10, pw_cell_below (BD.out.trans (HB.out.mono BD.out.size)) c11, pw_cell_below (BD.out.trans (HB.out.mono BD.out.size)) c12, pw_cell_below (BD.out.trans (HB.out.mono BD.out.size)) c13⟩) (fun hHeld => ?_)
  clear hK K
  refine norm_ (a' := ?_) ?_ ?_
  rotate_left
  · show Act.put _ (some 32) _ = _
    simp only [Act.put, sA, s0_, sS, i64_w, i32_w]
    rfl
  refine pure_ (i := 30) (N := some 33) (v := ?_) (a' := ?_) #[T,T,T,T,T,T,T,T,T,T,T,T,T,T,T,T,T,T,T,T,T,T,T,T,T,T,T,T,T,T,T,F] rfl rfl (by kernel_rfl) (fun _ _ _ h => h) (Or.inl ⟨by rfl, ?_⟩) ?_ ?_
  rotate_left
  · intro w'
    go_simp
    with_reducible rfl
  rotate_left
  · simp only [Act.put, sA, s0_, sS, i64_w, i32_w]
    rfl
  have k2 := blk_below K1 (BD.out.trans (HB.out.mono BD.out.size))
  have y0 := blk_cell k2 0
  have l0 := blk_frozen k2 0
  have y1 := blk_cell k2 1
  have l1 := blk_frozen k2 1
  have y2 := blk_cell k2 2
  have l2 := blk_frozen k2 2
  have y3 := blk_cell k2 3
  have l3 := blk_frozen k2 3
  have y4 := blk_cell k2 4
  have l4 := blk_frozen k2 4
  have y5 := blk_cell k2 5
  have l5 := blk_frozen k2 5
  have KK := Aside0.mk k2
  clear k2
  refine last_ (i := 31) (N := none) #[T,T,T,T,T,T,T,T,T,T,T,T,T,T,T,T,T,T,T,T,T,T,T,T,T,T,T,T,T,T,T,T] rfl rfl (by kernel_rfl) (by decide) (fun K hK => ?_)
  refine skip_ (w1 := ?_) (by rfl) rfl ?_ ?_
  rotate_left
  · go_simp
    rfl
  refine hK.out _ _ ?_
  clear hK K
  refine done_ (by kernel_rfl) ?_
  go_wp2
  have k2 := KK.out
  have q1 := blk_put k2 0 (.int .i64 (d.c 1)) rfl
  have q2 := blk_put q1 1 (.int .i64 (d.c 2)) rfl
  have q3 := blk_put q2 2 (.int .i64 (d.c 3)) rfl
  have q4 := blk_put q3 3 (.int .i64 (d.c 4)) rfl
  have q5 := blk_put q4 4 (.int .i64 d.failed) rfl
  have q6 := blk_put q5 5 (.slice Av d.wear.length cv) rfl
  refine bodyPost_ret (results_cell_row rfl _ _ bx 45 #[.int .i64 (d.c 1), .int .i64 (d.c 2), .int .i64 (d.c 3), .int .i64 (d.c 4), .int .i64 d.failed, .slice Av d.wear.length cv] (0, 0) _ rfl q6 Try.underlying45 rfl (by kernel_rfl)) rfl ?_
  have hb := B1.out.trans ((BD.out.trans (HB.out.mono BD.out.size)).mono B1.out.size)
  have hR : (Kd.int .i64).R 3 w2 w.heap.size (fun k => w.heap.size ≤ k) (.slice Av d.wear.length cv) d.wear := Kd.R_mono (Kd.R_lower HR.out (Nat.le_trans B1.out.size BD.out.size)) (fun k hk => Nat.le_trans (Nat.le_trans B1.out.size BD.out.size) hk)
  refine ⟨_, rfl, (((((hb.setCell LB.out _).setCell LB.out _).setCell LB.out _).setCell LB.out _).setCell LB.out _).setCell LB.out _, ?_⟩
  exact Kd.R_set (Kd.R_set (Kd.R_set (Kd.R_set (Kd.R_set (Kd.R_set hR k2 (by decide) 0 _) q1 (by decide) 1 _) q2 (by decide) 2 _) q3 (by decide) 3 _) q4 (by decide) 4 _) q5 (by decide) 5 _
end
end Go.Proofs.Ytnkbebdgkidbjaa.Flash
