/- The calls a law is given; does.
   No condition. -/
import Derived.Test.YtnkbebdgkidbjaaFlE
import Derived.ArgAppend
import Derived.BigRegion
import Derived.Deep.QuietTactic
import Derived.BigQuiet
import Derived.Deep.RegionHeld3
import Derived.ChangeAlike
import Derived.RegionTactic
import Derived.Deep.DeepCutAuto
import Derived.Deep.CutBlock
import Derived.Deep.RegionLaw
import Derived.StillTailTactics
import Derived.WalkSpells
import Derived.Lib.SliceRun
import Derived.Laws.CopyRow
import Derived.Lib.SlBuf
import Derived.Lib.MakeNoZero
import Derived.Laws.BitsLemmas
import Derived.Lib.Bytes
import Derived.Lib.SlBytesConst
namespace Go.Proofs.Ytnkbebdgkidbjaa.Flash
open Go.Proofs.Ytnkbebdgkidbjaa.QFlashPlays
open Go.RowKit Go.Proofs.YtnkbebdgkidbjaaW.PrintWords Go.Proofs.YtnkbebdgkidbjaaW.PrintLast Go.Proofs.YtnkbebdgkidbjaaW.PrintMore
attribute [local go_sem] max2_int min2_int max_two min_two   -- for this text's walks alone
set_option linter.unusedVariables false
set_option linter.unusedSimpArgs false
/-! ### FlashMakes -/
theorem nil26' (w : World) : (binOp .eql 26 (.pointer none) (.pointer none)).run Try.prog w = .ok (.bool true) w := by kernel_rfl
theorem nil30 (w : World) : (binOp .eql 30 (.pointer none) (.pointer none)).run Try.prog w = .ok (.bool true) w := by kernel_rfl
theorem nenil30 (w : World) : (binOp .neq 30 (.pointer none) (.pointer none)).run Try.prog w = .ok (.bool false) w := by kernel_rfl
theorem some30 (b : Nat) (w : World) : (binOp .eql 30 (.pointer (some ⟨b, 0, none⟩)) (.pointer none)).run Try.prog w = .ok (.bool false) w := by kernel_rfl
theorem nesome30 (b : Nat) (w : World) : (binOp .neq 30 (.pointer (some ⟨b, 0, none⟩)) (.pointer none)).run Try.prog w = .ok (.bool true) w := by kernel_rfl
theorem some26 (b : Nat) (w : World) : (binOp .eql 26 (.pointer (some ⟨b, 0, none⟩)) (.pointer none)).run Try.prog w = .ok (.bool false) w := by kernel_rfl
/-! ### Calls that a law is given -/
abbrev kF := Kd.pair (Kd.int .i64) (Kd.pair (Kd.int .i64) (Kd.int .i64))
abbrev FT := Int × (Int × Int)
abbrev OpT := Int × (Int × ((List Int) × ((List FT) × (Int × (Int × (List FT))))))
abbrev kOp : Kd OpT := Kd.pair (Kd.int .i64) (Kd.pair (Kd.int .i64) (Kd.pair (Kd.slice 5 (Kd.int .u8)) (Kd.pair (Kd.slice 85 kF) (Kd.pair (Kd.int .i64) (Kd.pair (Kd.int .i64) (Kd.slice 88 kF))))))
def s85 (x : FT) : Fa := ⟨x.1, x.2.1, x.2.2⟩
def s88 (x : FT) : Ft := ⟨x.1, x.2.1, x.2.2⟩
theorem C_map {α β : Type} {d : Kd α} {d' : Kd β} (g : α → β) (hs : d.sz = d'.sz) (hK : ∀ w x cs, d.K w x cs → d'.K w (g x) cs) {w : World} {A : Option Addr} {n : Nat} {xs : List α} (h : d.C w A n xs) : d'.C w A n (xs.map g) := by
  refine ⟨by rw [List.length_map]; exact h.1, h.2.1, fun hn => ?_⟩
  obtain ⟨ad, e, hc⟩ := h.2.2 hn
  refine ⟨ad, e, fun j p hj => ?_⟩
  rw [List.getElem?_map] at hj
  cases hx : xs[j]? with
  | none => rw [hx] at hj; cases hj
  | some x =>
    rw [hx] at hj
    injection hj with hj
    subst hj
    obtain ⟨c, h1, h2, h3⟩ := hc j x hx
    rw [← hs]
    exact ⟨c, h1, hK _ _ _ h2, h3⟩
theorem C_s85 {w : World} {A : Option Addr} {n : Nat} {xs : List FT} (h : kF.C w A n xs) : k85.C w A n (xs.map s85) := C_map s85 rfl (fun _ _ _ h => h) h
theorem C_s88 {w : World} {A : Option Addr} {n : Nat} {xs : List FT} (h : kF.C w A n xs) : k88.C w A n (xs.map s88) := C_map s88 rfl (fun _ _ _ h => h) h
/-- What a call holds. -/
structure Op where
  k : Int
  n : Int
  x : List Int
  fl : List Fa
  st : Int
  re : Int
  ft : List Ft
def opOf (o : OpT) : Op := ⟨o.1, o.2.1, o.2.2.1, o.2.2.2.1.map s85, o.2.2.2.2.1, o.2.2.2.2.2.1, o.2.2.2.2.2.2.map s88⟩
/-- A call's value: its slices are read. -/
structure OpV (w : World) (o : Op) (cs : List Value) : Prop where
  is : ∃ Ax cx Af cf Ac cc, cs = [.int .i64 o.k, .int .i64 o.n, .slice Ax o.x.length cx, .slice Af o.fl.length cf, .int .i64 o.st, .int .i64 o.re, .slice Ac o.ft.length cc] ∧
    (Kd.int .u8).C w Ax o.x.length o.x ∧ o.x.length ≤ cx ∧ k85.C w Af o.fl.length o.fl ∧ o.fl.length ≤ cf ∧ k88.C w Ac o.ft.length o.ft ∧ o.ft.length ≤ cc
theorem opV {w : World} {o : OpT} {cs : List Value} (h : kOp.K w o cs) : OpV w (opOf o) cs := by
  obtain ⟨k, n, x, fl, st, re, ft⟩ := o
  obtain ⟨_, _, rfl, rfl, ⟨_, _, rfl, rfl, ⟨_, _, rfl, ⟨Ax, cx, rfl, hx, hX⟩, ⟨_, _, rfl, ⟨Af, cf, rfl, hf, hF⟩, ⟨_, _, rfl, rfl, ⟨_, _, rfl, rfl, ⟨Ac, cc, rfl, hc, hC⟩⟩⟩⟩⟩⟩⟩ := h
  refine ⟨Ax, cx, Af, cf, Ac, cc, ?_, hX, hx, ?_, ?_, ?_, ?_⟩
  · show _ = [Value.int .i64 k, .int .i64 n, .slice Ax x.length cx, .slice Af (fl.map s85).length cf, .int .i64 st, .int .i64 re, .slice Ac (ft.map s88).length cc]
    rw [List.length_map, List.length_map]; rfl
  · show k85.C w Af (fl.map s85).length (fl.map s85)
    rw [List.length_map]; exact C_s85 hF
  · show (fl.map s85).length ≤ cf
    rw [List.length_map]; exact hf
  · show k88.C w Ac (ft.map s88).length (ft.map s88)
    rw [List.length_map]; exact C_s88 hC
  · show (ft.map s88).length ≤ cc
    rw [List.length_map]; exact hc
/-- The calls in memory. -/
theorem at_op {w : World} {A : Option Addr} {n : Nat} {xs : List OpT} (h : kOp.C w A n xs) (i : Nat) (hi : i < n) : ∃ ad o cs, A = some ad ∧ xs[i]? = some o ∧ OpV w (opOf o) cs ∧ ∀ j u, cs[j]? = some u → w.cell? (ad.add (i * 7 + j)) = some u := by
  have hl := h.1
  obtain ⟨ad, e, hc⟩ := h.2.2 (by omega)
  obtain ⟨o, ho⟩ : ∃ o, xs[i]? = some o := ⟨_, List.getElem?_eq_getElem (by omega)⟩
  obtain ⟨c, h1, h2, h3⟩ := hc i o ho
  exact ⟨ad, o, c, e, ho, opV h2, fun j u hu => h3 j u hu⟩
/-- What is known of a call. -/
structure Op.Fit (o : Op) : Prop where
  x1 : o.x.length ≤ 140737488351232
  xb : ∀ y ∈ o.x, 0 ≤ y ∧ y < 256
  f1 : o.fl.length * 24 ≤ 140737488351232
  c1 : o.ft.length * 24 ≤ 140737488351232
/-- A call that changes a device. -/
def Dv.does (d : Dv) (o : Op) : Dv × Int := if o.k = 1 then d.program o.n o.x else if o.k = 3 then d.erase o.n else if o.k = 4 then d.sync else if o.k = 6 then d.fail o.fl else (d, 1)
theorem does_ok {d : Dv} (ok : d.Ok) {o : Op} (h : o.Fit) : (d.does o).1.Ok := by
  unfold Dv.does
  split
  · exact program_ok ok _ h.xb
  · split
    · exact erase_ok ok _
    · split
      · exact sync_ok ok
      · split
        · exact fail_ok ok _
        · exact ok
theorem op_un {d : Dv} (k : Nat) (act : Dv → Dv) (n : Nat) (h : (d.count k).un.length ≤ n) (ha : (act (d.count k)).un.length ≤ n) : (d.op k act).1.un.length ≤ n := by
  unfold Dv.op
  split
  · exact ha
  · split
    · exact h
    · exact ha
theorem does_un (d : Dv) (o : Op) : (d.does o).1.un.length ≤ d.un.length + 1 := by
  unfold Dv.does
  split
  · unfold Dv.program
    split
    · exact Nat.le_succ _
    · split
      · exact Nat.le_succ _
      · refine op_un 2 _ _ (Nat.le_succ _) ?_
        show (if isFF o.x then d.un else d.un ++ [((o.n.toNat : Nat) : Int)]).length ≤ _
        split
        · exact Nat.le_succ _
        · rw [List.length_append]; exact Nat.le_refl _
  · split
    · unfold Dv.erase
      split
      · exact Nat.le_succ _
      · exact op_un 3 _ _ (Nat.le_succ _) (Nat.le_trans (List.length_filter_le _ _) (Nat.le_succ _))
    · split
      · exact op_un 4 _ _ (Nat.le_succ _) (Nat.zero_le _)
      · split
        · unfold Dv.fail
          split <;> exact Nat.le_succ _
        · exact Nat.le_succ _
/-! ### does -/
set_option maxHeartbeats 8000000 in
set_option maxRecDepth 100000 in
theorem does_walk {W w : World} {f : Owner} {db : Nat} {d : Dv} (h : DevX W.heap.size f w db d) (hW : Below W.heap.size W w) (ok : d.Ok) (hul : (d.un.length + 1) * 8 ≤ 140737488355328) {o : Op} {cs : List Value} (ho : OpV W o cs) (hf : o.Fit) :
    Calls Try.prog 22 #[.pointer (some ⟨db, 0, none⟩), .agg cs.toArray] w (fun e w' => e = .returned (.int .i64 (d.does o).2) ∧ DevA W.heap.size f w db (d.does o).1 w') := by
  obtain ⟨Ax, cx, Af, cf, Ac, cc, rfl, hX, hx, hF, hfc, hC, hc⟩ := ho.is
  obtain ⟨k, n, x, fl, st, re, ft⟩ := o
  obtain ⟨lx, hlx⟩ : ∃ lx, x.length = lx := ⟨_, rfl⟩
  obtain ⟨lf, hlf⟩ : ∃ lf, fl.length = lf := ⟨_, rfl⟩
  obtain ⟨lc, hlc⟩ : ∃ lc, ft.length = lc := ⟨_, rfl⟩
  have cells : ([.int .i64 k, .int .i64 n, .slice Ax x.length cx, .slice Af fl.length cf, .int .i64 st, .int .i64 re, .slice Ac ft.length cc] : List Value).toArray = #[.int .i64 k, .int .i64 n, .slice Ax lx cx, .slice Af lf cf, .int .i64 st, .int .i64 re, .slice Ac lc cc] := by rw [hlx, hlf, hlc]
  show Calls Try.prog 22 #[.pointer (some ⟨db, 0, none⟩), .agg ([.int .i64 k, .int .i64 n, .slice Ax x.length cx, .slice Af fl.length cf, .int .i64 st, .int .i64 re, .slice Ac ft.length cc] : List Value).toArray] w _
  rw [cells]
  obtain ⟨w1, hw1⟩ : ∃ w1, w.alloc (.cells #[.int .i64 k, .int .i64 n, .slice Ax lx cx, .slice Af lf cf, .int .i64 st, .int .i64 re, .slice Ac lc cc] 53) = w1 := ⟨_, rfl⟩
  have b1 : Below w.heap.size w w1 := by rw [← hw1]; exact below_alloc (Below.refl _ _) _
  have K1 : w1.heap[w.heap.size]? = some (.cells #[.int .i64 k, .int .i64 n, .slice Ax lx cx, .slice Af lf cf, .int .i64 st, .int .i64 re, .slice Ac lc cc] 53 (0, 0)) := by rw [← hw1]; exact blk_new w _
  have hx1 := h.below b1
  have m1 := Mv.of_below (B := W.heap.size) (o := (· = db)) (f := f) (f1 := f) b1 h.size.1 (fun _ _ => rfl)
  have hW1 : Below W.heap.size W w1 := hW.trans m1.below
  have KP : Aside0 (Calls Try.prog 34 #[.pointer (some ⟨db, 0, none⟩), .int .i64 n, .slice Ax lx cx] w1 (fun e w' => e = .returned (.int .i64 (d.program n x).2) ∧ DevA W.heap.size f w db (d.program n x).1 w')) := ⟨by
    rw [← hlx]
    refine (program_walk hx1 ok n hf.xb hul ⟨fun d2 w2 hA => ?_⟩).mono (fun e w' h => ⟨h.1, h.2.under m1⟩)
    obtain ⟨_, _, m2⟩ := hA
    exact Kd.C_below hX (hW1.trans m2.below)⟩
  have KE : Aside0 (Calls Try.prog 30 #[.pointer (some ⟨db, 0, none⟩), .int .i64 n] w1 (fun e w' => e = .returned (.int .i64 (d.erase n).2) ∧ DevA W.heap.size f w db (d.erase n).1 w')) :=
    ⟨(erase_full hx1 ok (by omega) n).mono (fun e w' h => ⟨h.1, h.2.under m1⟩)⟩
  have KS : Aside0 (Calls Try.prog 31 #[.pointer (some ⟨db, 0, none⟩)] w1 (fun e w' => e = .returned (.int .i64 d.sync.2) ∧ DevA W.heap.size f w db d.sync.1 w')) :=
    ⟨(sync_walk hx1 ok).mono (fun e w' h => ⟨h.1, h.2.under m1⟩)⟩
  have KF : Aside0 (Calls Try.prog 24 #[.pointer (some ⟨db, 0, none⟩), .slice Af lf cf] w1 (fun e w' => e = .returned (.int .i64 (d.fail fl).2) ∧ DevA W.heap.size f w db (d.fail fl).1 w')) := ⟨by
    rw [← hlf]
    exact (fail_walk hx1 ok (Kd.C_below hF hW1) hfc (by have := hf.f1; have e : fl.length * 24 ≤ 140737488351232 := this; omega)).mono (fun e w' h => ⟨h.1, h.2.under m1⟩)⟩
  have KN : Aside0 (DevA W.heap.size f w db d w1) := ⟨⟨f, hx1, m1⟩⟩
  have HD : Aside0 (d.does ⟨k, n, x, fl, st, re, ft⟩ = if k = 1 then d.program n x else if k = 3 then d.erase n else if k = 4 then d.sync else if k = 6 then d.fail fl else (d, 1)) := ⟨rfl⟩
  obtain ⟨r, hr⟩ : ∃ r, d.does ⟨k, n, x, fl, st, re, ft⟩ = r := ⟨_, rfl⟩
  rw [hr] at HD
  rw [hr]
  obtain ⟨Q, hQ⟩ : ∃ Q : Ending → World → Prop, (fun e w' => e = .returned (.int .i64 r.2) ∧ DevA W.heap.size f w db r.1 w') = Q := ⟨_, rfl⟩
  have HQ := Aside0.mk hQ
  rw [hQ]
  clear h hW ok hul ho hf hX hx hF hfc hC hc hlx hlf hlc cells b1 hx1 m1 hW1 hr hQ
  go_enter Try.func22, Try.ntmps22
  go_upto_region 1 with (fail)
  clear hw1
  generalize w.heap.size = bx at K1 ⊢
  have c0 : w1.cell? ⟨bx, 0, none⟩ = some (.int .i64 k) := blk_cell K1 0
  have c1 : w1.cell? ⟨bx, 1, none⟩ = some (.int .i64 n) := blk_cell K1 1
  have c2 : w1.cell? ⟨bx, 2, none⟩ = some (.slice Ax lx cx) := blk_cell K1 2
  have c3 : w1.cell? ⟨bx, 3, none⟩ = some (.slice Af lf cf) := blk_cell K1 3
  clear K1
  by_cases h1 : k = 1
  · have g1 : (k == 1) = true := beq_iff_eq.2 h1
    have HR : Aside0 (r = d.program n x) := ⟨by rw [HD.out, if_pos h1]⟩
    clear h1
    go_wp2_with (go_at_call 34; refine KP.out.mono ?_; rintro e w2 ⟨rfl, h2⟩; have S2 := Aside0.mk h2; clear h2)
    rw [← HQ.out, HR.out]
    exact ⟨rfl, S2.out⟩
  · have g1 : (k == 1) = false := beq_eq_false_iff_ne.2 h1
    by_cases h3 : k = 3
    · have g3 : (k == 3) = true := beq_iff_eq.2 h3
      have HR : Aside0 (r = d.erase n) := ⟨by rw [HD.out, if_neg h1, if_pos h3]⟩
      clear h1 h3
      go_wp2_with (go_at_call 30; refine KE.out.mono ?_; rintro e w2 ⟨rfl, h2⟩; have S2 := Aside0.mk h2; clear h2)
      rw [← HQ.out, HR.out]
      exact ⟨rfl, S2.out⟩
    · have g3 : (k == 3) = false := beq_eq_false_iff_ne.2 h3
      by_cases h4 : k = 4
      · have g4 : (k == 4) = true := beq_iff_eq.2 h4
        have HR : Aside0 (r = d.sync) := ⟨by rw [HD.out, if_neg h1, if_neg h3, if_pos h4]⟩
        clear h1 h3 h4
        go_wp2_with (go_at_call 31; refine KS.out.mono ?_; rintro e w2 ⟨rfl, h2⟩; have S2 := Aside0.mk h2; clear h2)
        rw [← HQ.out, HR.out]
        exact ⟨rfl, S2.out⟩
      · have g4 : (k == 4) = false := beq_eq_false_iff_ne.2 h4
        by_cases h6 : k = 6
        · have g6 : (k == 6) = true := beq_iff_eq.2 h6
          have HR : Aside0 (r = d.fail fl) := ⟨by rw [HD.out, if_neg h1, if_neg h3, if_neg h4, if_pos h6]⟩
          clear h1 h3 h4 h6
          go_wp2_with (go_at_call 24; refine KF.out.mono ?_; rintro e w2 ⟨rfl, h2⟩; have S2 := Aside0.mk h2; clear h2)
          rw [← HQ.out, HR.out]
          exact ⟨rfl, S2.out⟩
        · have g6 : (k == 6) = false := beq_eq_false_iff_ne.2 h6
          have HR : Aside0 (r = (d, 1)) := ⟨by rw [HD.out, if_neg h1, if_neg h3, if_neg h4, if_neg h6]⟩
          clear h1 h3 h4 h6
          go_wp2
          rw [← HQ.out, HR.out]
          exact ⟨rfl, KN.out⟩
theorem wf_u8' {x : Int} (h : (Lit.int .u8 x).wf = true) : 0 ≤ x ∧ x < 256 := by
  simp [Lit.wf, IntKind.min, IntKind.max, IntKind.bits, IntKind.signed] at h; omega
theorem fit_of {o : OpT} (h1 : o.2.2.1.length * 1 ≤ 140737488351232) (h2 : ∀ x ∈ o.2.2.1, (Lit.int .u8 x).wf = true) (h3 : o.2.2.2.1.length * 24 ≤ 140737488351232) (h4 : o.2.2.2.2.2.2.length * 24 ≤ 140737488351232) : (opOf o).Fit :=
  ⟨by show o.2.2.1.length ≤ _; omega, fun y hy => wf_u8' (h2 y hy), by show (o.2.2.2.1.map s85).length * 24 ≤ _; rw [List.length_map]; exact h3, by show (o.2.2.2.2.2.2.map s88).length * 24 ≤ _; rw [List.length_map]; exact h4⟩
theorem geo_cases (p s r a : Int) : (∃ p' s' r' : Nat, p = (p' : Int) ∧ s = (s' : Int) ∧ r = (r' : Int) ∧ Geo.Ok (p' : Int) (s' : Int) (r' : Int) a) ∨ chk p s r a = 20 := by
  rcases chk_cases p s r a with ⟨ok, _⟩ | ⟨_, hk⟩
  · have bd := Ok.bounds ok
    obtain ⟨p, rfl⟩ : ∃ p' : Nat, p = (p' : Int) := ⟨p.toNat, by omega⟩
    obtain ⟨s, rfl⟩ : ∃ s' : Nat, s = (s' : Int) := ⟨s.toNat, by omega⟩
    obtain ⟨r, rfl⟩ : ∃ r' : Nat, r = (r' : Int) := ⟨r.toNat, by omega⟩
    exact .inl ⟨p, s, r, rfl, rfl, rfl, ok⟩
  · exact .inr hk
end Go.Proofs.Ytnkbebdgkidbjaa.Flash
