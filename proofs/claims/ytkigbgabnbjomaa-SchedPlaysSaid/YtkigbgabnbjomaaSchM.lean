/- Picks of the document's runner.
   No condition. -/
import Derived.Test.YtkigbgabnbjomaaSchK
import Derived.Test.YtkigbgabnbjomaaSchL
import Derived.ArgAppend
import Derived.BigRegion
import Derived.Deep.QuietTactic
import Derived.BigQuiet
import Derived.Deep.RegionHeld3
import Derived.ChangeAlike
import Derived.RegionTactic
import Derived.Deep.DeepCutAuto
import Derived.Deep.CutBlock
import Derived.Deep.RegionLaw
import Derived.StillTailTactics
import Derived.WalkSpells
import Derived.Lib.SliceRun
namespace Go.Proofs.Ytkigbgabnbjomaa.Sched
open Go.Proofs.Ytkigbgabnbjomaa.PSchedPlays
open Go.RowKit Go.Proofs.YtkigbgabnbjomaaW.PrintWords Go.Proofs.YtkigbgabnbjomaaW.PrintLast Go.Proofs.YtkigbgabnbjomaaW.PrintMore
attribute [local go_sem] max2_int min2_int max_two min_two   -- for this text's walks alone
set_option linter.unusedVariables false
set_option linter.unusedSimpArgs false
/-! ### The document's Pick, Finish -/
/-- The document's runner at xb is x. -/
def DX (B : Nat) (f : Owner) (w : World) (xb : Nat) (x : X) (A : Option Addr) (c : Nat) : Prop := ∃ ev ga gt gw ca ct cw, DocG B f w xb x (.slice A x.n c) ev ga gt gw ca ct cw
def DAfter (B : Nat) (f : Owner) (w : World) (xb : Nat) (y : X) (A : Option Addr) (c : Nat) (w' : World) : Prop := ∃ f', DX B f' w' xb y A c ∧ Mv B (· = xb) f w f' w'
def DPicked (B : Nat) (f : Owner) (w : World) (xb : Nat) (x : X) (p : Int) (A : Option Addr) (c : Nat) (en : Ending) (w' : World) : Prop :=
  en = .returned (.tuple #[.int .i64 ((x.pick p).2.1 : Int), .bool (x.pick p).2.2]) ∧ DAfter B f w xb (x.pick p).1 A c w'
section
variable {B : Nat} {f : Owner} {w : World} {xb : Nat} {x : X} {A : Option Addr} {c : Nat}
theorem DX.mv (h : DX B f w xb x A c) {B' : Nat} {o : Nat → Prop} {f1 : Owner} {w1 : World} (m : Mv B' o f w f1 w1) (hn : ¬ o xb) : DX B f1 w1 xb x A c := by
  obtain ⟨ev, ga, gt, gw, ca, ct, cw, h⟩ := h
  exact ⟨ev, ga, gt, gw, ca, ct, cw, h.mv m hn⟩
theorem DX.below (h : DX B f w xb x A c) {w1 : World} (hb : Below w.heap.size w w1) : DX B f w1 xb x A c := by
  obtain ⟨ev, ga, gt, gw, ca, ct, cw, h⟩ := h
  exact ⟨ev, ga, gt, gw, ca, ct, cw, h.below hb⟩
theorem DX.size (h : DX B f w xb x A c) : B ≤ w.heap.size ∧ xb < w.heap.size ∧ f xb = xb := by
  obtain ⟨ev, ga, gt, gw, ca, ct, cw, h⟩ := h
  have h1 := blk_lt h.blk
  have h2 := h.base
  exact ⟨by omega, h1, h.own⟩
theorem DAfter.of_below (h : DX B f w xb x A c) {w1 : World} (hb : Below w.heap.size w w1) : DAfter B f w xb x A c w1 :=
  ⟨f, h.below hb, Mv.of_below hb h.size.1 (fun _ _ => rfl)⟩
end
theorem DocPicked.after {B : Nat} {f : Owner} {w : World} {xb : Nat} {y : X} {t : Nat} {A : Option Addr} {c ga gt gw ca ct cw : Nat} {en : Ending} {w' : World} (h : DocPicked B f w xb y t A c ga gt gw ca ct cw en w') :
    en = .returned (.tuple #[.int .i64 (t : Int), .bool true]) ∧ DAfter B f w xb y A c w' := by
  obtain ⟨h1, f', ev', h2, h3⟩ := h
  exact ⟨h1, f', ⟨ev', ga, gt, gw, ca, ct, cw, h2⟩, h3⟩
theorem docpick_yes {W w : World} {f : Owner} {xb : Nat} {x : X} {A : Option Addr} {c : Nat} {calls : List (List (List S26))} (h : DX W.heap.size f w xb x A c) (hI : Is calls x) (hC : (Kd.slice 22 (Kd.slice 26 k26)).C W A calls.length calls) (hW : Below W.heap.size W w) (ok : x.Ok) (p : Int) (hp : x.pickable p = true) :
    Calls Try.prog 30 #[.pointer (some ⟨xb, 0, none⟩), .int .i64 p] w (DPicked W.heap.size f w xb x p A c) := by
  obtain ⟨ev, ga, gt, gw, ca, ct, cw, h⟩ := h
  have e : x.pick p = (x.step (x.who p), x.who p, true) := by unfold X.pick; rw [if_pos hp]
  unfold DPicked
  rw [e]
  obtain ⟨d0, d1, wk, hd⟩ : ∃ d0 d1 wk, x.told (x.who p) = ⟨d0, d1, wk⟩ := ⟨_, _, _, rfl⟩
  by_cases hf : x.taken (x.who p) = 0
  · cases h1 : d1 with
    | true =>
      cases h0 : d0 with
      | true => exact (docstepFtt h hI hC hW ok p hp _ rfl hd h0 h1 hf).mono (fun _ _ k => k.after)
      | false => exact (docstepFtf h hI hC hW ok p hp _ rfl hd h0 h1 hf).mono (fun _ _ k => k.after)
    | false =>
      cases h0 : d0 with
      | true => exact (docstepFft h hI hC hW ok p hp _ rfl hd h0 h1 hf).mono (fun _ _ k => k.after)
      | false => exact (docstepFff h hI hC hW ok p hp _ rfl hd h0 h1 hf).mono (fun _ _ k => k.after)
  · cases h1 : d1 with
    | true =>
      cases h0 : d0 with
      | true => exact (docstepGtt h hI hC hW ok p hp _ rfl hd h0 h1 hf).mono (fun _ _ k => k.after)
      | false => exact (docstepGtf h hI hC hW ok p hp _ rfl hd h0 h1 hf).mono (fun _ _ k => k.after)
    | false =>
      cases h0 : d0 with
      | true => exact (docstepGft h hI hC hW ok p hp _ rfl hd h0 h1 hf).mono (fun _ _ k => k.after)
      | false => exact (docstepGff h hI hC hW ok p hp _ rfl hd h0 h1 hf).mono (fun _ _ k => k.after)
set_option maxHeartbeats 4000000 in
set_option maxRecDepth 100000 in
theorem docpick_no {W w : World} {f : Owner} {xb : Nat} {x : X} {A : Option Addr} {c : Nat} {calls : List (List (List S26))} (h : DX W.heap.size f w xb x A c) (hI : Is calls x) (hC : (Kd.slice 22 (Kd.slice 26 k26)).C W A calls.length calls) (hW : Below W.heap.size W w) (ok : x.Ok) (p : Int) (hp : ¬ x.pickable p = true) :
    Calls Try.prog 30 #[.pointer (some ⟨xb, 0, none⟩), .int .i64 p] w (DPicked W.heap.size f w xb x p A c) := by
  have H := Aside0.mk h
  have HR : Aside0 (Calls Try.prog 44 #[.pointer (some ⟨xb, 0, none⟩)] w (Made (Kd.int .i64) 3 w (ints x.ready))) := ⟨by
    obtain ⟨ev, ga, gt, gw, ca, ct, cw, h⟩ := h
    exact ready44 h hI hC hW ok.n16⟩
  obtain ⟨m, hm⟩ : ∃ m, x.ready.length = m := ⟨_, rfl⟩
  have HM := Aside0.mk hm
  have e : x.pick p = (x, 0, false) := by unfold X.pick; rw [if_neg hp]
  unfold DPicked
  rw [e]
  unfold X.pickable at hp
  have hcase : p < 0 ∨ (0 ≤ p ∧ 2147483647 < p) ∨ (0 ≤ p ∧ p ≤ 2147483647 ∧ m = 0) := by
    by_cases c1 : p < 0
    · exact .inl c1
    · by_cases c2 : p ≤ 2147483647
      · refine .inr (.inr ⟨by omega, c2, ?_⟩)
        by_cases c3 : m = 0
        · exact c3
        · exfalso
          apply hp
          simp only [Bool.and_eq_true, Bool.not_eq_true', beq_eq_false_iff_ne, ne_eq, decide_eq_true_eq]
          exact ⟨⟨by omega, c2⟩, by omega⟩
      · exact .inr (.inl ⟨by omega, by omega⟩)
  clear h hI hC hW ok hm hp e
  rcases hcase with c | ⟨c1, c2⟩ | ⟨c1, c2, c3⟩
  · have g1 : decide (p < 0) = true := decide_eq_true c
    go_enter Try.func30, Try.ntmps30
    go_wp2_with (go_at_call 44; refine HR.out.mono ?_; rintro e w1 ⟨v, rfl, hR, hb⟩; obtain ⟨A1, c1, hv⟩ := Kd.R_slice hR; rw [len_ints, HM.out] at hv; subst hv; have B1 := Aside0.mk hb; clear hR hb)
    go_ret2
    exact ⟨rfl, DAfter.of_below H.out B1.out⟩
  · have g1 : decide (p < 0) = false := decide_eq_false (by omega)
    have g2 : decide (2147483647 < p) = true := decide_eq_true c2
    go_enter Try.func30, Try.ntmps30
    go_wp2_with (go_at_call 44; refine HR.out.mono ?_; rintro e w1 ⟨v, rfl, hR, hb⟩; obtain ⟨A1, c1, hv⟩ := Kd.R_slice hR; rw [len_ints, HM.out] at hv; subst hv; have B1 := Aside0.mk hb; clear hR hb)
    go_ret2
    exact ⟨rfl, DAfter.of_below H.out B1.out⟩
  · have g1 : decide (p < 0) = false := decide_eq_false (by omega)
    have g2 : decide (2147483647 < p) = false := decide_eq_false (by omega)
    subst c3
    go_enter Try.func30, Try.ntmps30
    go_wp2_with (go_at_call 44; refine HR.out.mono ?_; rintro e w1 ⟨v, rfl, hR, hb⟩; obtain ⟨A1, c1, hv⟩ := Kd.R_slice hR; rw [len_ints, HM.out] at hv; subst hv; have B1 := Aside0.mk hb; clear hR hb)
    go_ret2
    exact ⟨rfl, DAfter.of_below H.out B1.out⟩
theorem docpick_walk {W w : World} {f : Owner} {xb : Nat} {x : X} {A : Option Addr} {c : Nat} {calls : List (List (List S26))} (h : DX W.heap.size f w xb x A c) (hI : Is calls x) (hC : (Kd.slice 22 (Kd.slice 26 k26)).C W A calls.length calls) (hW : Below W.heap.size W w) (ok : x.Ok) (p : Int) :
    Calls Try.prog 30 #[.pointer (some ⟨xb, 0, none⟩), .int .i64 p] w (DPicked W.heap.size f w xb x p A c) := by
  by_cases hp : x.pickable p = true
  · exact docpick_yes h hI hC hW ok p hp
  · exact docpick_no h hI hC hW ok p hp
/-- Behind moves of its own. -/
theorem DAfter.pick {W w : World} {f : Owner} {xb : Nat} {x : X} {A : Option Addr} {c : Nat} {calls : List (List (List S26))} {w1 : World} (h : DAfter W.heap.size f w xb x A c w1) (hI : Is calls x) (hC : (Kd.slice 22 (Kd.slice 26 k26)).C W A calls.length calls) (hW : Below W.heap.size W w) (ok : x.Ok) (p : Int) :
    Calls Try.prog 30 #[.pointer (some ⟨xb, 0, none⟩), .int .i64 p] w1 fun en w2 => en = .returned (.tuple #[.int .i64 ((x.pick p).2.1 : Int), .bool (x.pick p).2.2]) ∧ DAfter W.heap.size f w xb (x.pick p).1 A c w2 := by
  obtain ⟨f', h1, m1⟩ := h
  refine (docpick_walk h1 hI hC (hW.trans m1.below) ok p).mono ?_
  rintro e w2 ⟨he, f2, h2, m2⟩
  exact ⟨he, f2, h2, m1.trans m2⟩
theorem DAfter.ready {W w : World} {f : Owner} {xb : Nat} {x : X} {A : Option Addr} {c : Nat} {calls : List (List (List S26))} {w1 : World} (h : DAfter W.heap.size f w xb x A c w1) (hI : Is calls x) (hC : (Kd.slice 22 (Kd.slice 26 k26)).C W A calls.length calls) (hW : Below W.heap.size W w) (ok : x.Ok) :
    Calls Try.prog 44 #[.pointer (some ⟨xb, 0, none⟩)] w1 fun en w2 => ∃ A1 c1, en = .returned (.slice A1 x.ready.length c1) ∧ DAfter W.heap.size f w xb x A c w2 := by
  obtain ⟨f', h1, m1⟩ := h
  have h1' := h1
  obtain ⟨ev, ga, gt, gw, ca, ct, cw, h2⟩ := h1'
  refine (ready44 h2 hI hC (hW.trans m1.below) ok.n16).mono ?_
  rintro e w2 ⟨v, rfl, hR, hb⟩
  obtain ⟨A1, c1, hv⟩ := Kd.R_slice hR
  rw [len_ints] at hv
  obtain ⟨f3, h3, m3⟩ := DAfter.of_below h1 hb
  exact ⟨A1, c1, by rw [hv], f3, h3, m1.trans m3⟩
theorem DAfter.done {W w : World} {f : Owner} {xb : Nat} {x : X} {A : Option Addr} {c : Nat} {calls : List (List (List S26))} {w1 : World} (h : DAfter W.heap.size f w xb x A c w1) (hI : Is calls x) (hC : (Kd.slice 22 (Kd.slice 26 k26)).C W A calls.length calls) (hW : Below W.heap.size W w) (ok : x.Ok) :
    Calls Try.prog 45 #[.pointer (some ⟨xb, 0, none⟩)] w1 fun en w2 => en = .returned (.bool x.done) ∧ DAfter W.heap.size f w xb x A c w2 := by
  obtain ⟨f', h1, m1⟩ := h
  have h1' := h1
  obtain ⟨ev, ga, gt, gw, ca, ct, cw, h2⟩ := h1'
  refine (done45 h2 hI hC (hW.trans m1.below) ok.n16).mono ?_
  rintro e w2 ⟨rfl, ⟨q, rfl⟩⟩
  obtain ⟨f3, h3, m3⟩ := DAfter.of_below h1 (pw_below_drewN (Below.refl w1.heap.size w1) q)
  exact ⟨rfl, f3, h3, m1.trans m3⟩
theorem pickable0 (x : X) : x.pickable 0 = !(x.ready.length == 0) := by
  unfold X.pickable
  rfl
set_option maxHeartbeats 4000000 in
set_option maxRecDepth 100000 in
theorem docfin_walk {W w : World} {f : Owner} {xb : Nat} {x : X} {A : Option Addr} {c : Nat} {calls : List (List (List S26))} (h : DX W.heap.size f w xb x A c) (hI : Is calls x) (hC : (Kd.slice 22 (Kd.slice 26 k26)).C W A calls.length calls) (hW : Below W.heap.size W w) (ok : x.Ok) (most : Int) (hm : most ≤ 9223372036854775807) :
    Calls Try.prog 31 #[.pointer (some ⟨xb, 0, none⟩), .int .i64 most] w (fun en w' => en = .returned (.bool (x.fin most.toNat).done) ∧ DAfter W.heap.size f w xb (x.fin most.toNat) A c w') := by
  have S0 : Aside0 (DAfter W.heap.size f w xb (x.fin 0) A c w) := ⟨DAfter.of_below h (Below.refl _ _)⟩
  have KP := Aside0.mk (fun (w1 : World) (k : Nat) (S : DAfter W.heap.size f w xb (x.fin k) A c w1) => DAfter.pick S (Is.fin hI k) hC hW (fin_ok ok k) 0)
  have KR := Aside0.mk (fun (w1 : World) (k : Nat) (S : DAfter W.heap.size f w xb (x.fin k) A c w1) => DAfter.ready S (Is.fin hI k) hC hW (fin_ok ok k))
  have KD := Aside0.mk (fun (w1 : World) (k : Nat) (S : DAfter W.heap.size f w xb (x.fin k) A c w1) => DAfter.done S (Is.fin hI k) hC hW (fin_ok ok k))
  obtain ⟨mn, hmn⟩ : ∃ mn, most.toNat = mn := ⟨_, rfl⟩
  rw [hmn]
  have HMN := Aside0.mk hmn
  have HMX := Aside0.mk hm
  clear h hI hC hW ok hmn hm
  go_enter Try.func31, Try.ntmps31
  go_wp2
  go_loopw [5] (fun idx wr => ∃ k : Nat, k ≤ mn ∧ idx = .int .i64 (k : Int) ∧ Aside0 (DAfter W.heap.size f w xb (x.fin k) A c wr)) (fun idx _ => mn - (intOf idx).toNat)
  case atStart => exact ⟨0, Nat.zero_le _, rfl, S0⟩
  case round =>
    obtain ⟨k, hk, rfl, SK⟩ := hrel
    have hmn := HMN.out
    have hmx := HMX.out
    by_cases hlt : k < mn
    · have g1 : decide ((k : Int) < most) = true := decide_eq_true (by omega)
      have hkm : (k : Int) ≤ 9223372036854775806 := by omega
      have HP1 := Aside0.mk (fun w1 S => KP.out w1 k S)
      have HR1 := Aside0.mk (KR.out wr k SK.out)
      have HD1 := Aside0.mk (fun w1 S => KD.out w1 k S)
      have HPK := Aside0.mk (pickable0 (x.fin k))
      obtain ⟨m, hm⟩ : ∃ m, (x.fin k).ready.length = m := ⟨_, rfl⟩
      rw [hm] at HR1 HPK
      clear hm
      by_cases hm0 : m = 0
      · subst hm0
        have HSTOP : Aside0 (x.fin mn = x.fin k) := ⟨by
          obtain ⟨j, hj⟩ : ∃ j, mn = k + j := ⟨mn - k, by omega⟩
          rw [hj]; exact fin_stop (by rw [HPK.out]; rfl) j⟩
        clear hmn hmx
        go_wp2_with (first
          | (go_at_call 44; refine HR1.out.mono ?_; rintro e w2 ⟨A1, c1, rfl, hh⟩; have A2 := Aside0.mk hh; clear hh)
          | (go_at_call 45; refine (HD1.out _ A2.out).mono ?_; rintro e w3 ⟨rfl, hh⟩; have A3 := Aside0.mk hh; clear hh))
        go_ret
        exact ⟨by rw [HSTOP.out]; rfl, by rw [HSTOP.out]; exact A3.out⟩
      · have g2 : decide ((0 : Int) < (m : Int)) = true := decide_eq_true (by omega)
        clear hmn hmx
        go_wp2_with (first
          | (go_at_call 44; refine HR1.out.mono ?_; rintro e w2 ⟨A1, c1, rfl, hh⟩; have A2 := Aside0.mk hh; clear hh)
          | (go_at_call 30; refine (HP1.out _ A2.out).mono ?_; rintro e w3 ⟨rfl, hh⟩; have A3 := Aside0.mk hh; clear hh))
        go_roundw
        case rel => exact ⟨k + 1, by omega, by go_num, A3⟩
        case measure => simp [intOf]; omega
    · have hkl : k = mn := by omega
      subst hkl
      have g1 : decide ((k : Int) < most) = false := decide_eq_false (by omega)
      have HD1 := Aside0.mk (KD.out wr k SK.out)
      go_wp2_with (go_at_call 45; refine HD1.out.mono ?_; rintro e w3 ⟨rfl, hh⟩; have A3 := Aside0.mk hh; clear hh)
      go_ret
      exact ⟨rfl, A3.out⟩
end Go.Proofs.Ytkigbgabnbjomaa.Sched
