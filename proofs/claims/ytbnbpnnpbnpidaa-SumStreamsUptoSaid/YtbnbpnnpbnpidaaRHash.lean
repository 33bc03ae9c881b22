/- The walk of the document's hash.
   No condition. -/
import Derived.Test.YtbnbpnnpbnpidaaHasherTwo
import Derived.StillTailTactics
namespace Go.Proofs.Ytbnbpnnpbnpidaa.Hasher
open Go.Proofs.Ytbnbpnnpbnpidaa.QSumHashes Hash Crc
open Go.RowKit Go.Proofs.YtbnbpnnpbnpidaaW.PrintWords Go.Proofs.YtbnbpnnpbnpidaaW.PrintLast Go.Proofs.YtbnbpnnpbnpidaaW.PrintMore
set_option linter.unusedVariables false
set_option linter.unusedSimpArgs false
theorem rrol_eq (x n : Nat) (hx : x < 18446744073709551616) (hn : n < 64) : cellarref01_rol.f (x : Int) (n : Int) = some ((Hash.rol x n : Nat) : Int) := by
  unfold cellarref01_rol.f
  rw [if_pos (by omega), show (64 : Int) - (n : Int) = ((64 - n : Nat) : Int) by omega, cw64 (by omega) (by omega), if_pos (by omega), shl_nat _ _ (by omega), shr_nat _ _ (by omega), u64_or_nat _ _ (lt64 _) (Nat.lt_of_le_of_lt (Nat.div_le_self _ _) hx)]
  rfl
theorem rround_eq (a w : Nat) : cellarref01_round.f (a : Int) (w : Int) = some ((Hash.rnd a w : Nat) : Int) := by
  unfold cellarref01_round.f
  rw [show (14029467366897019727 : Int) = ((14029467366897019727 : Nat) : Int) from rfl, mulw, addw, show (31 : Int) = ((31 : Nat) : Int) from rfl, rrol_eq _ 31 (lt64 _) (by omega), Option.bind_some,
    show (11400714785074694791 : Int) = ((11400714785074694791 : Nat) : Int) from rfl, mulw]
  rfl
theorem rword_l0 (l : List Nat) (hl : Bytes l) (p n : Nat) (hn : p + n ≤ l.length) (h8 : n ≤ 8) (hll : l.length < 4611686018427387904) (m : Nat) : ∀ (k : Nat), m ≤ n → m < k →
    cellarref01_word.l0 k (ints l) (p : Int) ((num (((l.drop p).take n).drop m) : Nat) : Int) ((m : Int) - 1) = some ((num ((l.drop p).take n) : Nat) : Int) := by
  induction m with
  | zero =>
    intro k hm hk
    obtain ⟨k, rfl⟩ := Nat.exists_eq_add_of_lt hk
    simp only [Nat.zero_add, cellarref01_word.l0]
    rw [if_neg (by omega), List.drop_zero]
  | succ m ih =>
    intro k hm hk
    obtain ⟨k, rfl⟩ := Nat.exists_eq_add_of_lt (Nat.zero_lt_of_lt hk)
    simp only [Nat.zero_add, cellarref01_word.l0]
    have hb := bytes_drop hl p
    have hx : num (((l.drop p).take n).drop (m + 1)) < 256 ^ 7 := num_lt8 _ (bytes_drop (bytes_take hb n) _) 7 (by rw [List.length_drop, List.length_take]; omega)
    have hx : num (((l.drop p).take n).drop (m + 1)) < 72057594037927936 := hx
    have hc : l.getD (p + m) 0 < 256 := by
      rw [List.getD_eq_getElem?_getD, List.getElem?_eq_getElem (by omega)]; exact hl _ (List.getElem_mem _)
    have ew : wrap64 ((p : Int) + (m : Int)) = ((p + m : Nat) : Int) := by rw [cw64 (by omega) (by omega)]; omega
    rw [show (((m + 1 : Nat) : Int) - 1) = (m : Int) by omega, if_pos (by omega), ew, if_pos (by omega), if_pos (by rw [ints_length]; omega), rd_nat, w64lt (by omega), show (256 : Int) = ((256 : Nat) : Int) from rfl, mulw, Nat.mod_eq_of_lt (by omega),
      addw, Nat.mod_eq_of_lt (by omega), cw64 (n := (m : Int) - 1) (by omega) (by omega)]
    have hg : (l.drop p).getD m 0 = l.getD (p + m) 0 := by rw [List.getD_eq_getElem?_getD, List.getD_eq_getElem?_getD, List.getElem?_drop]
    have e : num (((l.drop p).take n).drop (m + 1)) * 256 + l.getD (p + m) 0 = num (((l.drop p).take n).drop m) := by
      rw [take_drop_succ (l.drop p) m n (by rw [List.length_drop]; omega) (by omega), hg]
      simp only [num]; omega
    rw [e]
    exact ih k (by omega) (by omega)
theorem rword_eq (l : List Nat) (hl : Bytes l) (p n : Nat) (hn : p + n ≤ l.length) (h8 : n ≤ 8) (hll : l.length < 4611686018427387904) (k : Nat) (hk : n < k) : cellarref01_word.f k (ints l) (p : Int) (n : Int) = some ((num ((l.drop p).take n) : Nat) : Int) := by
  unfold cellarref01_word.f
  have h := rword_l0 l hl p n hn h8 hll n k (Nat.le_refl _) hk
  rw [List.drop_of_length_le (by rw [List.length_take]; omega)] at h
  rw [cw64 (by omega) (by omega)]
  exact h
theorem rrol_any (y : Int) (x : Nat) (t : Int) (n : Nat) (hy : y = (x : Int)) (ht : t = (n : Int)) (hx : x < 18446744073709551616) (hn : n < 64) (w : World) : Calls Try.prog 45 #[.int .u64 y, .int .i64 t] w fun e w' => e = .returned (.int .u64 ((Hash.rol x n : Nat) : Int)) ∧ Drawn0 w w' := by
  subst hy; subst ht
  exact cellarref01_rol.calls _ _ _ w (rrol_eq x n hx hn)
theorem rrnd_any (t y : Int) (a v : Nat) (ht : t = (a : Int)) (hy : y = (v : Int)) (w : World) : Calls Try.prog 43 #[.int .u64 t, .int .u64 y] w fun e w' => e = .returned (.int .u64 ((Hash.rnd a v : Nat) : Int)) ∧ Drawn0 w w' := by
  subst ht; subst hy
  exact cellarref01_round.calls _ _ _ w (rround_eq a v)
theorem rword_any (A : Option Addr) (N c : Nat) (l : List Nat) (hN : l.length = N) (w : World) (hS : Src w A l) (hc : N ≤ c) (hl : Bytes l) (hll : N < 4611686018427387904) (p n : Nat) (t u : Int) (ht : t = (p : Int)) (hu : u = (n : Int)) (hn : p + n ≤ N) (h8 : n ≤ 8) :
    Calls Try.prog 44 #[.slice A N c, .int .i64 t, .int .i64 u] w fun e w' => e = .returned (.int .u64 ((num ((l.drop p).take n) : Nat) : Int)) ∧ Drawn0 w w' := by
  subst hN; subst ht; subst hu
  have h := cellarref01_word.calls 9 A c (ints l) (p : Int) (n : Int) _ w (by rw [ints_length]; exact C_of_src hS (by omega)) (by rw [ints_length]; exact hc) (rword_eq l hl p n hn h8 hll 9 (by omega))
  rw [ints_length] at h
  exact h
theorem quiet_of_drawn {P : Program} {f : FuncId} {args : Array Value} {w : World} {n : Nat} {v : Value} (h : Calls P f args (w.drewN n) fun e w' => e = .returned v ∧ Drawn0 (w.drewN n) w') : Calls P f args (w.drewN n) fun e w'' => e = .returned v ∧ ∃ m, w'' = w.drewN m :=
  Calls.quiet_of (h.mono fun _ _ ⟨h1, h2⟩ => ⟨h1, h2.out⟩)
/-- The end of the hash, by places of the whole. -/
theorem rend_more {seed : Nat} {l : List Nat} {X X1 B q j x v : Nat} (hX : X = Hash.begun seed l) (hX1 : X1 = (X + l.length) % 18446744073709551616) (hB : B = 32 * (l.length / 32)) (hj : j = 8 * q) (hk : B + j ≤ l.length) (hx : e8 q X1 (l.drop B) = x) (h8 : l.length - (B + j) < 8) (h4 : 4 ≤ l.length - (B + j)) (hv : num ((l.drop (B + j)).take 4) = v) :
    fin ((l.drop (B + j + 4)).foldl s1 (s4v x v)) = hashN seed l := by
  unfold hashN
  rw [← hX, ← hX1, ← hB]
  unfold ending
  have e1 : (l.drop B).length / 8 = q := by rw [List.length_drop]; omega
  simp only [e1]
  rw [hx, ← hj, List.drop_drop, if_pos (by rw [List.length_drop]; omega), if_pos (by rw [List.length_drop]; omega), hv, List.drop_drop]
theorem rend_less {seed : Nat} {l : List Nat} {X X1 B q j x : Nat} (hX : X = Hash.begun seed l) (hX1 : X1 = (X + l.length) % 18446744073709551616) (hB : B = 32 * (l.length / 32)) (hj : j = 8 * q) (hk : B + j ≤ l.length) (hx : e8 q X1 (l.drop B) = x) (h8 : l.length - (B + j) < 8) (h4 : ¬ 4 ≤ l.length - (B + j)) :
    fin ((l.drop (B + j)).foldl s1 x) = hashN seed l := by
  unfold hashN
  rw [← hX, ← hX1, ← hB]
  unfold ending
  have e1 : (l.drop B).length / 8 = q := by rw [List.length_drop]; omega
  simp only [e1]
  rw [hx, ← hj, List.drop_drop, if_neg (by rw [List.length_drop]; omega), if_neg (by rw [List.length_drop]; omega)]
set_option maxHeartbeats 4000000 in
set_option maxRecDepth 100000 in
theorem rhash_short (seed : Nat) (hs : seed < 18446744073709551616) (A : Option Addr) (c : Nat) (l : List Nat) (w : World) (hC : Src w A l) (hc : l.length ≤ c) (hl : Bytes l) (hn : l.length < 4611686018427387904) (h32 : l.length < 32) :
    Calls Try.prog 25 #[.int .u64 (seed : Int), .slice A l.length c] w fun e w' => e = .returned (.int .u64 ((hashN seed l : Nat) : Int)) ∧ Below w.heap.size w w' := by
  have HL := Aside0.mk hl
  have HN := Aside0.mk hn
  have HCC := Aside0.mk hc
  have HSEED := Aside0.mk hs
  obtain ⟨X, hX⟩ : ∃ X, X = Hash.begun seed l := ⟨_, rfl⟩
  obtain ⟨B, hB⟩ : ∃ B, B = 32 * (l.length / 32) := ⟨_, rfl⟩
  have HBL : Aside0 (B ≤ l.length) := ⟨by omega⟩
  obtain ⟨X1, hX1⟩ : ∃ X1, X1 = (X + l.length) % 18446744073709551616 := ⟨_, rfl⟩
  have HX1L : Aside0 (X1 < 18446744073709551616) := ⟨by rw [hX1]; exact lt64 _⟩
  have HX1V : Aside0 (IntKind.u64.wrap ((X : Int) + (l.length : Int)) = (X1 : Int)) := ⟨by rw [addw, hX1]⟩
  have hlw : IntKind.u64.wrap (l.length : Int) = (l.length : Int) := w64lt (by omega)
  have HX := Aside0.mk hX
  have HX1 := Aside0.mk hX1
  have HBB := Aside0.mk hB
  have HB0 : Aside0 (B = 0) := ⟨by omega⟩
  have X0 : Aside0 (IntKind.u64.wrap ((seed : Int) + 2870177450012600261) = (X : Int)) := ⟨by
    rw [show (2870177450012600261 : Int) = ((2870177450012600261 : Nat) : Int) from rfl, addw, hX]; unfold Hash.begun; rw [if_neg (by omega)]⟩
  have HSRC := Aside0.mk hC
  have HBEL := Aside0.mk (Below.refl w.heap.size w)
  have i32 : decide ((32 : Int) ≤ (l.length : Int)) = false := decide_eq_false (by omega)
  clear hl hn hc hs hX hB hX1 hC h32
  go_enter Try.func25, Try.ntmps25
  go_wp2

  go_loopw [5, 6] (fun x a wx => ∃ (q p n0 : Nat), Aside0 (p = B + 8 * q) ∧ p ≤ l.length ∧ x = .int .u64 ((e8 q X1 (l.drop B) : Nat) : Int) ∧ a = .int .i64 (p : Int) ∧ wx = w.drewN n0) (fun _ a _ => l.length - (intOf a).toNat)
  case atStart => exact ⟨0, B, 0, ⟨rfl⟩, HBL.out, by rw [X0.out, HX1V.out]; rfl, by first | rfl | (rw [HB0.out]; rfl), rfl⟩
  case round =>
  obtain ⟨q, p, n0, HJ, hj, rfl, rfl, rfl⟩ := hrel
  obtain ⟨x, hx⟩ : ∃ x, e8 q X1 (l.drop B) = x := ⟨_, rfl⟩
  have hxl : x < 18446744073709551616 := by rw [← hx]; exact e8_lt _ _ _ HX1L.out
  rw [hx]
  have HY := Aside0.mk hx
  have HXL := Aside0.mk hxl
  have hNN := HN.out
  have hsub : IntKind.i64.wrap ((l.length : Int) - (p : Int)) = ((l.length - p : Nat) : Int) := by rw [IntWalk.i64_in _ (by omega)]; omega
  clear hx hxl
  by_cases hlt : 8 ≤ l.length - p
  · obtain ⟨v, hv⟩ : ∃ v, num ((l.drop p).take 8) = v := ⟨_, rfl⟩
    have hnx : e8 (q + 1) X1 (l.drop B) = s8v x v := by simp only [e8]; rw [HY.out, List.drop_drop, ← HJ.out, hv]
    have hw := fun (wz : World) (hwz : Src wz A l) => rword_any A l.length c l rfl wz hwz HCC.out HL.out HN.out p 8 (p : Int) 8 rfl rfl (by omega) (by omega)
    rw [hv] at hw
    have HW := Aside0.mk hw
    have HNX := Aside0.mk hnx
    have i8 : (8 : Int) ≤ ((l.length - p : Nat) : Int) := by omega
    have hp8 : IntKind.i64.wrap ((p : Int) + 8) = ((p + 8 : Nat) : Int) := IntWalk.i64_in _ (by omega)
    clear hv hnx hw
    go_wp2_with (first
      | (go_at_call 44; refine Calls.mono (HW.out _ (show Src (World.drewN _ _) A l from HSRC.out)) ?_; rintro e w' ⟨rfl, ⟨m, rfl⟩⟩)
      | (go_at_call 43; refine (rrnd_any _ _ 0 v rfl rfl _).mono ?_; rintro e w' ⟨rfl, ⟨m, rfl⟩⟩)
      | (go_at_call 45; refine (rrol_any _ (x ^^^ Hash.rnd 0 v) _ 27 (x8_val HXL.out) rfl (xor64 HXL.out (rnd_lt _ _)) (by decide) _).mono ?_; rintro e w' ⟨rfl, ⟨m, rfl⟩⟩))
    go_roundw
    case rel => exact ⟨q + 1, p + 8, _, ⟨by have := HJ.out; omega⟩, by omega, by rw [s8_val, HNX.out], rfl, by (try simp only [World.drewN_drewN]); rfl⟩
    case measure => simp [intOf]; omega
  · by_cases h4 : 4 ≤ l.length - p
    · obtain ⟨v, hv⟩ : ∃ v, num ((l.drop p).take 4) = v := ⟨_, rfl⟩
      have hw := fun (wz : World) (hwz : Src wz A l) => rword_any A l.length c l rfl wz hwz HCC.out HL.out HN.out p 4 (p : Int) 4 rfl rfl (by omega) (by omega)
      rw [hv] at hw
      have HW := Aside0.mk hw
      obtain ⟨Z, hZ⟩ : ∃ Z, Z = s4v x v := ⟨_, rfl⟩
      have HZL : Aside0 (Z < 18446744073709551616) := ⟨by rw [hZ]; exact s4v_lt _ _⟩
      have HFIN : Aside0 (fin ((l.drop (p + 4)).foldl s1 Z) = hashN seed l) := ⟨by rw [hZ]; have := HJ.out; subst this; exact rend_more HX.out HX1.out HBB.out rfl hj HY.out (by omega) h4 hv⟩
      have HZ := Aside0.mk hZ
      have i8 : (4 : Int) ≤ ((l.length - p : Nat) : Int) := by omega
      have i7 : ((l.length - p : Nat) : Int) < 8 := by omega
      have hp4 : IntKind.i64.wrap ((p : Int) + 4) = ((p + 4 : Nat) : Int) := IntWalk.i64_in _ (by omega)
      have HP := Aside0.mk hp4
      clear hv hZ hw
      go_wp2_with (first
        | (go_at_call 44; refine Calls.mono (HW.out _ (show Src (World.drewN _ _) A l from HSRC.out)) ?_; rintro e w' ⟨rfl, ⟨m, rfl⟩⟩)
        | (go_at_call 45; refine (rrol_any _ (x ^^^ (v * 11400714785074694791 % 18446744073709551616)) _ 23 (x4_val HXL.out) rfl (xor64 HXL.out (lt64 _)) (by decide) _).mono ?_; rintro e w' ⟨rfl, ⟨m, rfl⟩⟩))

      have HM := Aside0.mk (show p + 4 ≤ l.length by omega)
      go_loopw [5, 6] (fun x a wx => ∃ r nn : Nat, p + 4 ≤ r ∧ r ≤ l.length ∧ a = .int .i64 (r : Int) ∧ x = .int .u64 (((((l.drop (p + 4)).take (r - (p + 4))).foldl s1 Z : Nat)) : Int) ∧ wx = w.drewN nn) (fun _ a _ => l.length - (intOf a).toNat)
      case atStart => exact ⟨p + 4, _, Nat.le_refl _, HM.out, by first | rfl | (refine congrArg _ ?_; exact HP.out), by rw [s4_val, ← HZ.out, Nat.sub_self]; rfl, by (try simp only [World.drewN_drewN]); rfl⟩
      case round =>
      clear HZ
      obtain ⟨k, nn, hk0, hk, rfl, rfl, rfl⟩ := hrel
      obtain ⟨x, hx⟩ : ∃ x, ((l.drop (p + 4)).take (k - (p + 4))).foldl s1 Z = x := ⟨_, rfl⟩
      rw [hx]
      have hxl : x < 18446744073709551616 := by rw [← hx]; exact foldl_lt _ _ HZL.out
      have hNN := HN.out
      by_cases hlt : k < l.length
      · obtain ⟨b, o, rfl, hcs⟩ := HSRC.out (by omega)
        have hcell := hcs k hlt
        clear hcs
        obtain ⟨ch, hch⟩ : ∃ ch, l.getD k 0 = ch := ⟨_, rfl⟩
        rw [hch] at hcell
        have hnx : ((l.drop (p + 4)).take (k + 1 - (p + 4))).foldl s1 Z = s1 x ch := by
          rw [show k + 1 - (p + 4) = (k - (p + 4)) + 1 by omega, List.take_add_one, List.foldl_append, hx, List.getElem?_drop, show p + 4 + (k - (p + 4)) = k by omega]
          exact snoc_fold s1 x l _ ch hlt hch
        have hcb : ch < 256 := by rw [← hch]; exact getD_byte HL.out _
        have hcw : IntKind.u64.wrap (ch : Int) = (ch : Int) := w64lt (by omega)
        have hk1 : IntKind.i64.wrap ((k : Int) + 1) = ((k + 1 : Nat) : Int) := IntWalk.i64_in _ (by omega)
        have b0 : (0 : Int) ≤ (k : Int) := by omega
        have b1 : (k : Int) < (l.length : Int) := by omega
        have b2 : (k : Int).toNat = k := by omega
        have HNX := Aside0.mk hnx
        have HXL := Aside0.mk hxl
        clear hx hch hnx hxl hcb
        go_wp2_with (go_at_call 45; refine (rrol_any _ (x ^^^ (ch * 2870177450012600261 % 18446744073709551616)) _ 11 (x1_val HXL.out) rfl (xor64 HXL.out (lt64 _)) (by decide) _).mono ?_; rintro e w' ⟨rfl, ⟨m, rfl⟩⟩)
        go_roundw
        case rel => exact ⟨k + 1, _, by omega, by omega, rfl, by rw [s1_val, HNX.out], by (try simp only [World.drewN_drewN]); rfl⟩
        case measure => simp [intOf]; omega
      · obtain rfl : k = l.length := by omega
        have hfin : fin x = hashN seed l := by rw [← hx, List.take_of_length_le (by rw [List.length_drop]; omega)]; exact HFIN.out
        have HF := Aside0.mk hfin
        have HXL := Aside0.mk hxl
        clear hx hfin hxl
        have hv := fin_val HXL.out _ _ rfl rfl
        rw [HF.out] at hv
        have HV := Aside0.mk hv
        clear hv
        go_wp2
        go_ret
        exact ⟨congrArg (fun z : Int => Ending.returned (.int .u64 z)) HV.out, pw_below_drewN HBEL.out _⟩

    · obtain ⟨Z, hZ⟩ : ∃ Z, Z = x := ⟨_, rfl⟩
      have HZL : Aside0 (Z < 18446744073709551616) := ⟨by rw [hZ]; exact HXL.out⟩
      have HFIN : Aside0 (fin ((l.drop p).foldl s1 Z) = hashN seed l) := ⟨by rw [hZ]; have := HJ.out; subst this; exact rend_less HX.out HX1.out HBB.out rfl hj HY.out (by omega) h4⟩
      have HZ := Aside0.mk hZ
      have i8 : ((l.length - p : Nat) : Int) < 4 := by omega
      have i7 : ((l.length - p : Nat) : Int) < 8 := by omega
      clear hZ
      go_wp2

      have HM := Aside0.mk (show p ≤ l.length by omega)
      go_loopw [5, 6] (fun x a wx => ∃ r nn : Nat, p ≤ r ∧ r ≤ l.length ∧ a = .int .i64 (r : Int) ∧ x = .int .u64 (((((l.drop (p)).take (r - (p))).foldl s1 Z : Nat)) : Int) ∧ wx = w.drewN nn) (fun _ a _ => l.length - (intOf a).toNat)
      case atStart => exact ⟨p, _, Nat.le_refl _, HM.out, by first | rfl | (refine congrArg _ ?_; exact HP.out), by rw [← HZ.out, Nat.sub_self]; rfl, by (try simp only [World.drewN_drewN]); rfl⟩
      case round =>
      clear HZ
      obtain ⟨k, nn, hk0, hk, rfl, rfl, rfl⟩ := hrel
      obtain ⟨x, hx⟩ : ∃ x, ((l.drop (p)).take (k - (p))).foldl s1 Z = x := ⟨_, rfl⟩
      rw [hx]
      have hxl : x < 18446744073709551616 := by rw [← hx]; exact foldl_lt _ _ HZL.out
      have hNN := HN.out
      by_cases hlt : k < l.length
      · obtain ⟨b, o, rfl, hcs⟩ := HSRC.out (by omega)
        have hcell := hcs k hlt
        clear hcs
        obtain ⟨ch, hch⟩ : ∃ ch, l.getD k 0 = ch := ⟨_, rfl⟩
        rw [hch] at hcell
        have hnx : ((l.drop (p)).take (k + 1 - (p))).foldl s1 Z = s1 x ch := by
          rw [show k + 1 - (p) = (k - (p)) + 1 by omega, List.take_add_one, List.foldl_append, hx, List.getElem?_drop, show p + (k - (p)) = k by omega]
          exact snoc_fold s1 x l _ ch hlt hch
        have hcb : ch < 256 := by rw [← hch]; exact getD_byte HL.out _
        have hcw : IntKind.u64.wrap (ch : Int) = (ch : Int) := w64lt (by omega)
        have hk1 : IntKind.i64.wrap ((k : Int) + 1) = ((k + 1 : Nat) : Int) := IntWalk.i64_in _ (by omega)
        have b0 : (0 : Int) ≤ (k : Int) := by omega
        have b1 : (k : Int) < (l.length : Int) := by omega
        have b2 : (k : Int).toNat = k := by omega
        have HNX := Aside0.mk hnx
        have HXL := Aside0.mk hxl
        clear hx hch hnx hxl hcb
        go_wp2_with (go_at_call 45; refine (rrol_any _ (x ^^^ (ch * 2870177450012600261 % 18446744073709551616)) _ 11 (x1_val HXL.out) rfl (xor64 HXL.out (lt64 _)) (by decide) _).mono ?_; rintro e w' ⟨rfl, ⟨m, rfl⟩⟩)
        go_roundw
        case rel => exact ⟨k + 1, _, by omega, by omega, rfl, by rw [s1_val, HNX.out], by (try simp only [World.drewN_drewN]); rfl⟩
        case measure => simp [intOf]; omega
      · obtain rfl : k = l.length := by omega
        have hfin : fin x = hashN seed l := by rw [← hx, List.take_of_length_le (by rw [List.length_drop]; omega)]; exact HFIN.out
        have HF := Aside0.mk hfin
        have HXL := Aside0.mk hxl
        clear hx hfin hxl
        have hv := fin_val HXL.out _ _ rfl rfl
        rw [HF.out] at hv
        have HV := Aside0.mk hv
        clear hv
        go_wp2
        go_ret
        exact ⟨congrArg (fun z : Int => Ending.returned (.int .u64 z)) HV.out, pw_below_drewN HBEL.out _⟩
theorem lcell {M : List Int} (h4 : M.length = 4) (i : Nat) (hi : i < 4) : (nums .u64 M).toArray[i]? = some (.int .u64 (M.getD i 0)) := by
  rw [List.getElem?_toArray, nums, List.getElem?_map, List.getElem?_eq_getElem (by omega), List.getD_eq_getElem?_getD, List.getElem?_eq_getElem (by omega)]; rfl
theorem lset (M : List Int) (i : Nat) (v : Int) : (nums .u64 M).toArray.setIfInBounds i (.int .u64 v) = (nums .u64 (M.set i v)).toArray := by
  rw [List.setIfInBounds_toArray, nums, nums, List.map_set]
theorem lanes0_ints (seed : Nat) : ints (lanes0 seed) = [IntKind.u64.wrap (IntKind.u64.wrap ((seed : Int) + 11400714785074694791) + 14029467366897019727), IntKind.u64.wrap ((seed : Int) + 14029467366897019727), (seed : Int), IntKind.u64.wrap ((seed : Int) - 11400714785074694791)] := by
  rw [show (11400714785074694791 : Int) = ((11400714785074694791 : Nat) : Int) from rfl, show (14029467366897019727 : Int) = ((14029467366897019727 : Nat) : Int) from rfl, addw, addw, addw, subw _ _ (by decide)]
  simp only [ints, lanes0, List.map_cons, List.map_nil]
set_option maxHeartbeats 4000000 in
set_option maxRecDepth 100000 in
theorem rhash_long (seed : Nat) (hs : seed < 18446744073709551616) (A : Option Addr) (c : Nat) (l : List Nat) (w : World) (hC : Src w A l) (hc : l.length ≤ c) (hl : Bytes l) (hn : l.length < 4611686018427387904) (h32 : 32 ≤ l.length) :
    Calls Try.prog 25 #[.int .u64 (seed : Int), .slice A l.length c] w fun e w' => e = .returned (.int .u64 ((hashN seed l : Nat) : Int)) ∧ Below w.heap.size w w' := by
  have HL := Aside0.mk hl
  have HN := Aside0.mk hn
  have HCC := Aside0.mk hc
  have HSEED := Aside0.mk hs
  obtain ⟨X, hX⟩ : ∃ X, X = Hash.begun seed l := ⟨_, rfl⟩
  obtain ⟨B, hB⟩ : ∃ B, B = 32 * (l.length / 32) := ⟨_, rfl⟩
  have HBL : Aside0 (B ≤ l.length) := ⟨by omega⟩
  obtain ⟨X1, hX1⟩ : ∃ X1, X1 = (X + l.length) % 18446744073709551616 := ⟨_, rfl⟩
  have HX1L : Aside0 (X1 < 18446744073709551616) := ⟨by rw [hX1]; exact lt64 _⟩
  have HX1V : Aside0 (IntKind.u64.wrap ((X : Int) + (l.length : Int)) = (X1 : Int)) := ⟨by rw [addw, hX1]⟩
  have hlw : IntKind.u64.wrap (l.length : Int) = (l.length : Int) := w64lt (by omega)
  have HX := Aside0.mk hX
  have HX1 := Aside0.mk hX1
  have HBB := Aside0.mk hB
  have i32 : decide ((32 : Int) ≤ (l.length : Int)) = true := decide_eq_true (by omega)
  have HSRC0 := Aside0.mk hC
  clear hl hn hc hs hX hB hX1 hC h32
  go_enter Try.func25, Try.ntmps25
  go_wp2
  obtain ⟨g, hg⟩ : ∃ g, g = w.heap.size := ⟨_, rfl⟩
  obtain ⟨w1, hw1⟩ : ∃ w1, w1 = w.alloc (Obj.cells #[.int .u64 (IntKind.u64.wrap (IntKind.u64.wrap ((seed : Int) + 11400714785074694791) + 14029467366897019727)), .int .u64 (IntKind.u64.wrap ((seed : Int) + 14029467366897019727)), .int .u64 (seed : Int), .int .u64 (IntKind.u64.wrap ((seed : Int) - 11400714785074694791))] 58) := ⟨_, rfl⟩
  rw [← hw1, ← hg]
  have HLB : Aside0 (w1.heap[g]? = some (.cells (nums .u64 (ints (lanesOf (lanes0 seed) 0 l))).toArray 58 (0, 0))) := ⟨by
    rw [hw1, hg, lanesOf, lanes0_ints]; exact blk_new w _⟩
  have HBW : Aside0 (Below w.heap.size w w1) := ⟨by rw [hw1]; exact below_alloc (Below.refl _ w) _⟩
  have HGS := Aside0.mk hg
  have HSRC1 : Aside0 (Src w1 A l) := ⟨HSRC0.out.below HBW.out⟩
  have HFAR : Aside0 (0 < l.length → ∀ ad, A = some ad → ad.block ≠ g) := ⟨fun h0 ad e => by have := src_lt HSRC0.out h0 ad e; omega⟩
  clear hg hw1
  go_loopw [6] (fun a wr => ∃ q p : Nat, Aside0 (p = 32 * q) ∧ p ≤ l.length ∧ a = .int .i64 (p : Int) ∧ Aside0 (wr.heap[g]? = some (.cells (nums .u64 (ints (lanesOf (lanes0 seed) q l))).toArray 58 (0, 0))) ∧ Aside0 (w1.grownBy wr (some g))) (fun a _ => l.length - (intOf a).toNat)
  case atStart => exact ⟨0, 0, ⟨rfl⟩, by omega, rfl, HLB, ⟨grown_refl _ _⟩⟩
  case round =>
  clear HLB
  obtain ⟨q, p, HJ, hj, rfl, HLB, HG⟩ := hrel
  have hNN := HN.out
  have hsub : IntKind.i64.wrap ((l.length : Int) - (p : Int)) = ((l.length - p : Nat) : Int) := by rw [IntWalk.i64_in _ (by omega)]; omega
  obtain ⟨L, hL⟩ : ∃ L, lanesOf (lanes0 seed) q l = L := ⟨_, rfl⟩
  have HL4 : Aside0 (L.length = 4) := ⟨by rw [← hL]; exact lanesOf_length _ rfl _ _⟩
  rw [hL] at HLB
  by_cases hlt : 32 ≤ l.length - p
  · have i33 : (32 : Int) ≤ ((l.length - p : Nat) : Int) := by omega
    have hp32 : IntKind.i64.wrap ((p : Int) + 32) = ((p + 32 : Nat) : Int) := IntWalk.i64_in _ (by omega)
    obtain ⟨R, hR⟩ : ∃ R : Nat → Int, R = fun i => ((Hash.rnd (L.getD i 0) (num (((l.drop p).drop (8 * i)).take 8)) : Nat) : Int) := ⟨_, rfl⟩
    have HNX : Aside0 (lanesAt (ints L) R 4 = ints (lanesOf (lanes0 seed) (q + 1) l)) := ⟨by rw [hR, lanesAt_stepL _ _ HL4.out]; simp only [lanesOf]; rw [hL, ← HJ.out]⟩
    have HR := Aside0.mk hR
    clear hR hL
    go_wp2
    go_loopw [8] (fun v wr => ∃ k : Nat, k ≤ 4 ∧ v = .int .i64 (k : Int) ∧ Aside0 (wr.heap[g]? = some (.cells (nums .u64 (lanesAt (ints L) R k)).toArray 58 (0, 0))) ∧ Aside0 (w1.grownBy wr (some g))) (fun v _ => 4 - (intOf v).toNat)
    case atStart => exact ⟨0, by omega, rfl, ⟨by rw [lanesAt_zero _ _ (by rw [ints_length]; exact HL4.out)]; exact HLB.out⟩, HG⟩
    case round =>
    clear HLB HG
    obtain ⟨k, hk, rfl, HLB, HG⟩ := hrel
    by_cases hk4 : k < 4
    · obtain ⟨lk, hlk⟩ : ∃ x, L.getD k 0 = x := ⟨_, rfl⟩
      obtain ⟨v, hv⟩ : ∃ v, num ((l.drop (p + 8 * k)).take 8) = v := ⟨_, rfl⟩
      have hRk : R k = ((Hash.rnd lk v : Nat) : Int) := by rw [HR.out]; show ((Hash.rnd _ _ : Nat) : Int) = _; rw [hlk, List.drop_drop, hv]
      have hcell : wr.cell? ⟨g, k, none⟩ = some (.int .u64 (lk : Int)) := by rw [blk_cell HLB.out, lcell (lanesAt_length _ _ _) k hk4, lanesAt_get _ _ _ hk4, ints_getD, hlk]
      have HPUT := Aside0.mk (blk_put HLB.out k (.int .u64 ((Hash.rnd lk v : Nat) : Int)) (cs' := (nums .u64 (lanesAt (ints L) R (k + 1))).toArray) (by rw [lset, ← hRk, lanesAt_set _ _ _ hk4]))
      have hfz := blk_frozen HLB.out k
      have HSR : Aside0 (Src wr A l) := ⟨fun h0 => grown_src HSRC1.out HG.out (HFAR.out h0) h0⟩
      have hw := fun (wz : World) (hwz : Src wz A l) => rword_any A l.length c l rfl wz hwz HCC.out HL.out HN.out (p + 8 * k) 8 (wrap64 ((p : Int) + 8 * (k : Int))) 8 (by rw [cw64 (by omega) (by omega)]; omega) rfl (by omega) (by omega)
      rw [hv] at hw
      have HW := Aside0.mk hw
      have b0 : (0 : Int) ≤ (k : Int) := by omega
      have b1 : (k : Int) < 4 := by omega
      have b2 : (k : Int).toNat = k := by omega
      have m8 : IntKind.i64.wrap (8 * (k : Int)) = ((8 * k : Nat) : Int) := IntWalk.i64_in _ (by omega)
      clear hlk hv hRk hw
      go_wp2
      refine start_ (n := 13) (S := fun w' => w'.cell? ⟨g, k, none⟩ = some (.int .u64 (lk : Int))) (ds := [12]) #[false, false, false, false, false, false, false, false, false, false, false, false, false] (by kernel_rfl) rfl rfl (hcell) (fun hHeld => ?_)
      refine pure_ (i := 0) (N := some 42) (v := ?_) (a' := ?_) #[true, false, false, false, false, false, false, false, false, false, false, false, false] rfl rfl (by kernel_rfl) (fun _ _ _ h => h) (Or.inl ⟨by rfl, ?_⟩) ?_ ?_
      rotate_left
      · intro w'
        go_simp
        with_reducible rfl
      rotate_left
      · simp only [Act.put, List.setIfInBounds_toArray, List.set_cons_zero, List.set_cons_succ, i64_w, i32_w]
        rfl
      refine pure_ (i := 1) (N := some 43) (v := ?_) (a' := ?_) #[true, true, false, false, false, false, false, false, false, false, false, false, false] rfl rfl (by kernel_rfl) (fun _ _ _ h => h) (Or.inl ⟨by rfl, ?_⟩) ?_ ?_
      rotate_left
      · intro w'
        go_simp
        with_reducible rfl
      rotate_left
      · simp only [Act.put, List.setIfInBounds_toArray, List.set_cons_zero, List.set_cons_succ, i64_w, i32_w]
        rfl
      refine pure_ (i := 2) (N := some 44) (v := ?_) (a' := ?_) #[true, true, true, false, false, false, false, false, false, false, false, false, false] rfl rfl (by kernel_rfl) (fun _ _ _ h => h) (Or.inl ⟨by rfl, ?_⟩) ?_ ?_
      rotate_left
      · intro w'
        go_simp
        with_reducible rfl
      rotate_left
      · simp only [Act.put, List.setIfInBounds_toArray, List.set_cons_zero, List.set_cons_succ, i64_w, i32_w]
        rfl
      refine take_ (i := 3) (N := some 45) (v := ?_) (a' := ?_) #[true, true, true, true, false, false, false, false, false, false, false, false, false] rfl rfl (by kernel_rfl) (fun _ _ _ h => h) (Or.inl ⟨by rfl, ?_⟩) hHeld ?_ ?_
      rotate_left
      · intro w' s0
        go_simp
        rfl
      rotate_left
      · simp only [Act.put, List.setIfInBounds_toArray, List.set_cons_zero, List.set_cons_succ, i64_w, i32_w]
        rfl
      refine pure_ (i := 4) (N := some 46) (v := ?_) (a' := ?_) #[true, true, true, true, true, false, false, false, false, false, false, false, false] rfl rfl (by kernel_rfl) (fun _ _ _ h => h) (Or.inl ⟨by rfl, ?_⟩) ?_ ?_
      rotate_left
      · intro w'
        go_simp
        with_reducible rfl
      rotate_left
      · simp only [Act.put, List.setIfInBounds_toArray, List.set_cons_zero, List.set_cons_succ, i64_w, i32_w]
        rfl
      refine pure_ (i := 5) (N := some 47) (v := ?_) (a' := ?_) #[true, true, true, true, true, true, false, false, false, false, false, false, false] rfl rfl (by kernel_rfl) (fun _ _ _ h => h) (Or.inl ⟨by rfl, ?_⟩) ?_ ?_
      rotate_left
      · intro w'
        go_simp
        with_reducible rfl
      rotate_left
      · simp only [Act.put, List.setIfInBounds_toArray, List.set_cons_zero, List.set_cons_succ, i64_w, i32_w]
        rfl
      refine pure_ (i := 6) (N := some 48) (v := ?_) (a' := ?_) #[true, true, true, true, true, true, true, false, false, false, false, false, false] rfl rfl (by kernel_rfl) (fun _ _ _ h => h) (Or.inl ⟨by rfl, ?_⟩) ?_ ?_
      rotate_left
      · intro w'
        go_simp
        with_reducible rfl
      rotate_left
      · simp only [Act.put, List.setIfInBounds_toArray, List.set_cons_zero, List.set_cons_succ, i64_w, i32_w]
        rfl
      refine pure_ (i := 7) (N := some 49) (v := ?_) (a' := ?_) #[true, true, true, true, true, true, true, true, false, false, false, false, false] rfl rfl (by kernel_rfl) (fun _ _ _ h => h) (Or.inl ⟨by rfl, ?_⟩) ?_ ?_
      rotate_left
      · intro w'
        go_simp
        with_reducible rfl
      rotate_left
      · simp only [Act.put, List.setIfInBounds_toArray, List.set_cons_zero, List.set_cons_succ, i64_w, i32_w]
        rfl
      refine pure_ (i := 8) (N := some 50) (v := ?_) (a' := ?_) #[true, true, true, true, true, true, true, true, true, false, false, false, false] rfl rfl (by kernel_rfl) (fun _ _ _ h => h) (Or.inl ⟨by rfl, ?_⟩) ?_ ?_
      rotate_left
      · intro w'
        go_simp
        with_reducible rfl
      rotate_left
      · simp only [Act.put, List.setIfInBounds_toArray, List.set_cons_zero, List.set_cons_succ, i64_w, i32_w]
        rfl
      refine one_ (i := 9) (N := some 51) #[true, true, true, true, true, true, true, true, true, true, false, false, false] rfl rfl (by kernel_rfl) (by decide) (fun K hK => ?_)
      refine goes_ Try.func44 (by kernel_rfl) rfl #[.slice A l.length c, .int .i64 (wrap64 ((p : Int) + 8 * (k : Int))), .int .i64 8] (by rfl) rfl rfl (by (try simp only [List.map_toArray, List.map_cons, List.map_nil]); first | done | rfl) ?_
      refine (HW.out _ (show Src (World.drew _) A l from HSR.out)).mono ?_
      rintro e w' ⟨rfl, ⟨m1, rfl⟩⟩
      refine ⟨_, rfl, ?_⟩
      refine hK.out _ _ (hHeld) (fun hHeld => ?_)
      clear hK K
      refine norm_ (a' := ?_) ?_ ?_
      rotate_left
      · show Act.put _ (some 51) _ = _
        simp only [Act.put, List.setIfInBounds_toArray, List.set_cons_zero, List.set_cons_succ, i64_w, i32_w]
        rfl
      refine one_ (i := 10) (N := some 52) #[true, true, true, true, true, true, true, true, true, true, true, false, false] rfl rfl (by kernel_rfl) (by decide) (fun K hK => ?_)
      refine goes_ Try.func43 (by kernel_rfl) rfl #[.int .u64 (lk : Int), .int .u64 (v : Int)] (by rfl) rfl rfl (by (try simp only [List.map_toArray, List.map_cons, List.map_nil]); first | done | rfl) ?_
      refine (rrnd_any _ _ lk v rfl rfl _).mono ?_
      rintro e w' ⟨rfl, ⟨m2, rfl⟩⟩
      refine ⟨_, rfl, ?_⟩
      refine hK.out _ _ (hHeld) (fun hHeld => ?_)
      clear hK K
      refine norm_ (a' := ?_) ?_ ?_
      rotate_left
      · show Act.put _ (some 52) _ = _
        simp only [Act.put, List.setIfInBounds_toArray, List.set_cons_zero, List.set_cons_succ, i64_w, i32_w]
        rfl
      refine pure_ (i := 11) (N := some 53) (v := ?_) (a' := ?_) #[true, true, true, true, true, true, true, true, true, true, true, true, false] rfl rfl (by kernel_rfl) (fun _ _ _ h => h) (Or.inl ⟨by rfl, ?_⟩) ?_ ?_
      rotate_left
      · intro w'
        go_simp
        with_reducible rfl
      rotate_left
      · simp only [Act.put, List.setIfInBounds_toArray, List.set_cons_zero, List.set_cons_succ, i64_w, i32_w]
        rfl
      refine last_ (i := 12) (N := none) #[true, true, true, true, true, true, true, true, true, true, true, true, true] rfl rfl (by kernel_rfl) (by decide) (fun K hK => ?_)
      refine skip_ (w1 := ?_) (by rfl) rfl ?_ ?_
      rotate_left
      · go_simp
        rfl
      refine hK.out _ _ ?_
      clear hK K
      refine done_ (by kernel_rfl) ?_
      try go_wp2
      go_roundw
      case rel => exact ⟨k + 1, by omega, by go_num, ⟨HPUT.out⟩, ⟨grown_set (grown_drewN HG.out _) _ _⟩⟩
      case measure => simp [intOf]; omega
    · obtain rfl : k = 4 := by omega
      rw [HNX.out] at HLB
      go_wp2
      go_roundw
      case rel => exact ⟨q + 1, p + 32, ⟨by have := HJ.out; omega⟩, by omega, rfl, HLB, HG⟩
      case measure => simp [intOf]; omega
  · have i33 : decide ((32 : Int) ≤ ((l.length - p : Nat) : Int)) = false := decide_eq_false (by omega)
    obtain rfl : B = p := by have := HJ.out; have := HBB.out; omega
    have hq : q = l.length / 32 := by have := HJ.out; have := HBB.out; omega
    have hlt4 : ∀ x ∈ L, x < 18446744073709551616 := by rw [← hL]; exact lanesOf_lt _ (lanes0_lt seed HSEED.out) _ _
    have hXL : lsum L = X := by rw [HX.out]; unfold Hash.begun; rw [if_pos (by have := of_decide_eq_true i32; omega), ← hq, hL]
    obtain ⟨a, b, d, e, rfl⟩ := lanes_four HL4.out
    have H0 : wr.cell? ⟨g, 0, none⟩ = some (.int .u64 (a : Int)) := blk_cell HLB.out 0
    have H1 : wr.cell? ⟨g, 1, none⟩ = some (.int .u64 (b : Int)) := blk_cell HLB.out 1
    have H2 : wr.cell? ⟨g, 2, none⟩ = some (.int .u64 (d : Int)) := blk_cell HLB.out 2
    have H3 : wr.cell? ⟨g, 3, none⟩ = some (.int .u64 (e : Int)) := blk_cell HLB.out 3
    have HA := Aside0.mk (hlt4 a (by simp))
    have HBb := Aside0.mk (hlt4 b (by simp))
    have HD := Aside0.mk (hlt4 d (by simp))
    have HE := Aside0.mk (hlt4 e (by simp))
    have hBel : Below w.heap.size w wr := Below.grown HBW.out HG.out HBW.out.size (fun k hk => by injection hk with hk; have := HGS.out; omega)
    have HBEL := Aside0.mk hBel
    have HSRC := Aside0.mk (HSRC0.out.below hBel)
    obtain ⟨Q, hQ⟩ : ∃ Q, Q = lpart [a, b, d, e] 4 := ⟨_, rfl⟩
    have hQ0 : Q < 18446744073709551616 := by rw [hQ]; exact lpart_lt _ _
    have hQV : IntKind.u64.wrap (IntKind.u64.wrap (IntKind.u64.wrap (((Hash.rol a 1 : Nat) : Int) + ((Hash.rol b 7 : Nat) : Int)) + ((Hash.rol d 12 : Nat) : Int)) + ((Hash.rol e 18 : Nat) : Int)) = (Q : Int) := by
      have h1 : lpart [a, b, d, e] 1 = Hash.rol a 1 := by rw [← lpart_step _ 0 a 1 rfl rfl]; show (0 + Hash.rol a 1) % 18446744073709551616 = _; rw [Nat.zero_add, Nat.mod_eq_of_lt (rol_lt _ _ HA.out)]
      rw [addw, addw, addw, hQ, ← h1, lpart_step _ 1 b 7 rfl rfl, lpart_step _ 2 d 12 rfl rfl, lpart_step _ 3 e 18 rfl rfl]
    have HQV := Aside0.mk hQV
    obtain ⟨F, hF0, hF1, hF2, hF3, hF4⟩ := chain_ex lfold Q a b d e
    have HFIN : Aside0 (((F 4 : Nat) : Int) = (X : Int)) := ⟨by rw [← hXL, lsum_eq, ← hQ, hF4]⟩
    have G0 : Aside0 (F 0 < 18446744073709551616 ∧ lfold (F 0) a = F 1) := ⟨by rw [hF0]; exact hQ0, by rw [hF0, hF1]⟩
    have G1 : Aside0 (F 1 < 18446744073709551616 ∧ lfold (F 1) b = F 2) := ⟨by rw [hF1]; exact lfold_lt _ _, by rw [hF1, hF2]⟩
    have G2 : Aside0 (F 2 < 18446744073709551616 ∧ lfold (F 2) d = F 3) := ⟨by rw [hF2]; exact lfold_lt _ _, by rw [hF2, hF3]⟩
    have G3 : Aside0 (F 3 < 18446744073709551616 ∧ lfold (F 3) e = F 4) := ⟨by rw [hF3]; exact lfold_lt _ _, by rw [hF3, hF4]⟩
    have HF0 := Aside0.mk hF0
    clear hL hq hlt4 hXL hBel hQ hQ0 hQV hF0 hF1 hF2 hF3 hF4 HLB HG
    go_wp2
    refine start_ (n := 16) (S := fun w' => w'.cell? ⟨g, 0, none⟩ = some (.int .u64 (a : Int)) ∧ w'.cell? ⟨g, 1, none⟩ = some (.int .u64 (b : Int)) ∧ w'.cell? ⟨g, 2, none⟩ = some (.int .u64 (d : Int)) ∧ w'.cell? ⟨g, 3, none⟩ = some (.int .u64 (e : Int))) (ds := []) #[false, false, false, false, false, false, false, false, false, false, false, false, false, false, false, false] (by kernel_rfl) rfl rfl (⟨H0, H1, H2, H3⟩) (fun hHeld => ?_)
    refine pure_ (i := 0) (N := some 56) (v := ?_) (a' := ?_) #[true, false, false, false, false, false, false, false, false, false, false, false, false, false, false, false] rfl rfl (by kernel_rfl) (fun _ _ _ h => h) (Or.inl ⟨by rfl, ?_⟩) ?_ ?_
    rotate_left
    · intro w'
      go_simp
      with_reducible rfl
    rotate_left
    · simp only [Act.put, List.setIfInBounds_toArray, List.set_cons_zero, List.set_cons_succ, i64_w, i32_w]
      rfl
    refine pure_ (i := 3) (N := some 59) (v := ?_) (a' := ?_) #[true, false, false, true, false, false, false, false, false, false, false, false, false, false, false, false] rfl rfl (by kernel_rfl) (fun _ _ _ h => h) (Or.inl ⟨by rfl, ?_⟩) ?_ ?_
    rotate_left
    · intro w'
      go_simp
      with_reducible rfl
    rotate_left
    · simp only [Act.put, List.setIfInBounds_toArray, List.set_cons_zero, List.set_cons_succ, i64_w, i32_w]
      rfl
    refine pure_ (i := 7) (N := some 63) (v := ?_) (a' := ?_) #[true, false, false, true, false, false, false, true, false, false, false, false, false, false, false, false] rfl rfl (by kernel_rfl) (fun _ _ _ h => h) (Or.inl ⟨by rfl, ?_⟩) ?_ ?_
    rotate_left
    · intro w'
      go_simp
      with_reducible rfl
    rotate_left
    · simp only [Act.put, List.setIfInBounds_toArray, List.set_cons_zero, List.set_cons_succ, i64_w, i32_w]
      rfl
    refine pure_ (i := 11) (N := some 67) (v := ?_) (a' := ?_) #[true, false, false, true, false, false, false, true, false, false, false, true, false, false, false, false] rfl rfl (by kernel_rfl) (fun _ _ _ h => h) (Or.inl ⟨by rfl, ?_⟩) ?_ ?_
    rotate_left
    · intro w'
      go_simp
      with_reducible rfl
    rotate_left
    · simp only [Act.put, List.setIfInBounds_toArray, List.set_cons_zero, List.set_cons_succ, i64_w, i32_w]
      rfl
    refine take_ (i := 1) (N := some 57) (v := ?_) (a' := ?_) #[true, true, false, true, false, false, false, true, false, false, false, true, false, false, false, false] rfl rfl (by kernel_rfl) (fun _ _ _ h => h) (Or.inl ⟨by rfl, ?_⟩) hHeld ?_ ?_
    rotate_left
    · intro w' s0
      obtain ⟨q0, q1, q2, q3⟩ := s0
      go_simp
      rfl
    rotate_left
    · simp only [Act.put, List.setIfInBounds_toArray, List.set_cons_zero, List.set_cons_succ, i64_w, i32_w]
      rfl
    refine take_ (i := 4) (N := some 60) (v := ?_) (a' := ?_) #[true, true, false, true, true, false, false, true, false, false, false, true, false, false, false, false] rfl rfl (by kernel_rfl) (fun _ _ _ h => h) (Or.inl ⟨by rfl, ?_⟩) hHeld ?_ ?_
    rotate_left
    · intro w' s0
      obtain ⟨q0, q1, q2, q3⟩ := s0
      go_simp
      rfl
    rotate_left
    · simp only [Act.put, List.setIfInBounds_toArray, List.set_cons_zero, List.set_cons_succ, i64_w, i32_w]
      rfl
    refine take_ (i := 8) (N := some 64) (v := ?_) (a' := ?_) #[true, true, false, true, true, false, false, true, true, false, false, true, false, false, false, false] rfl rfl (by kernel_rfl) (fun _ _ _ h => h) (Or.inl ⟨by rfl, ?_⟩) hHeld ?_ ?_
    rotate_left
    · intro w' s0
      obtain ⟨q0, q1, q2, q3⟩ := s0
      go_simp
      rfl
    rotate_left
    · simp only [Act.put, List.setIfInBounds_toArray, List.set_cons_zero, List.set_cons_succ, i64_w, i32_w]
      rfl
    refine take_ (i := 12) (N := some 68) (v := ?_) (a' := ?_) #[true, true, false, true, true, false, false, true, true, false, false, true, true, false, false, false] rfl rfl (by kernel_rfl) (fun _ _ _ h => h) (Or.inl ⟨by rfl, ?_⟩) hHeld ?_ ?_
    rotate_left
    · intro w' s0
      obtain ⟨q0, q1, q2, q3⟩ := s0
      go_simp
      rfl
    rotate_left
    · simp only [Act.put, List.setIfInBounds_toArray, List.set_cons_zero, List.set_cons_succ, i64_w, i32_w]
      rfl
    refine one_ (i := 2) (N := some 58) #[true, true, true, true, true, false, false, true, true, false, false, true, true, false, false, false] rfl rfl (by kernel_rfl) (by decide) (fun K hK => ?_)
    refine goes_ Try.func45 (by kernel_rfl) rfl #[.int .u64 (a : Int), .int .i64 1] (by rfl) rfl rfl (by (try simp only [List.map_toArray, List.map_cons, List.map_nil]); first | done | rfl) ?_
    refine (rrol_any _ a _ 1 rfl rfl HA.out (by decide) _).mono ?_
    rintro e0 w0 ⟨rfl, ⟨m2, rfl⟩⟩
    refine ⟨_, rfl, ?_⟩
    refine hK.out _ _ (hHeld) (fun hHeld => ?_)
    clear hK K
    refine norm_ (a' := ?_) ?_ ?_
    rotate_left
    · show Act.put _ (some 58) _ = _
      simp only [Act.put, List.setIfInBounds_toArray, List.set_cons_zero, List.set_cons_succ, i64_w, i32_w]
      rfl
    refine one_ (i := 5) (N := some 61) #[true, true, true, true, true, true, false, true, true, false, false, true, true, false, false, false] rfl rfl (by kernel_rfl) (by decide) (fun K hK => ?_)
    refine goes_ Try.func45 (by kernel_rfl) rfl #[.int .u64 (b : Int), .int .i64 7] (by rfl) rfl rfl (by (try simp only [List.map_toArray, List.map_cons, List.map_nil]); first | done | rfl) ?_
    refine (rrol_any _ b _ 7 rfl rfl HBb.out (by decide) _).mono ?_
    rintro e0 w0 ⟨rfl, ⟨m5, rfl⟩⟩
    refine ⟨_, rfl, ?_⟩
    refine hK.out _ _ (hHeld) (fun hHeld => ?_)
    clear hK K
    refine norm_ (a' := ?_) ?_ ?_
    rotate_left
    · show Act.put _ (some 61) _ = _
      simp only [Act.put, List.setIfInBounds_toArray, List.set_cons_zero, List.set_cons_succ, i64_w, i32_w]
      rfl
    refine pure_ (i := 6) (N := some 62) (v := ?_) (a' := ?_) #[true, true, true, true, true, true, true, true, true, false, false, true, true, false, false, false] rfl rfl (by kernel_rfl) (fun _ _ _ h => h) (Or.inl ⟨by rfl, ?_⟩) ?_ ?_
    rotate_left
    · intro w'
      go_simp
      with_reducible rfl
    rotate_left
    · simp only [Act.put, List.setIfInBounds_toArray, List.set_cons_zero, List.set_cons_succ, i64_w, i32_w]
      rfl
    refine one_ (i := 9) (N := some 65) #[true, true, true, true, true, true, true, true, true, true, false, true, true, false, false, false] rfl rfl (by kernel_rfl) (by decide) (fun K hK => ?_)
    refine goes_ Try.func45 (by kernel_rfl) rfl #[.int .u64 (d : Int), .int .i64 12] (by rfl) rfl rfl (by (try simp only [List.map_toArray, List.map_cons, List.map_nil]); first | done | rfl) ?_
    refine (rrol_any _ d _ 12 rfl rfl HD.out (by decide) _).mono ?_
    rintro e0 w0 ⟨rfl, ⟨m9, rfl⟩⟩
    refine ⟨_, rfl, ?_⟩
    refine hK.out _ _ (hHeld) (fun hHeld => ?_)
    clear hK K
    refine norm_ (a' := ?_) ?_ ?_
    rotate_left
    · show Act.put _ (some 65) _ = _
      simp only [Act.put, List.setIfInBounds_toArray, List.set_cons_zero, List.set_cons_succ, i64_w, i32_w]
      rfl
    refine pure_ (i := 10) (N := some 66) (v := ?_) (a' := ?_) #[true, true, true, true, true, true, true, true, true, true, true, true, true, false, false, false] rfl rfl (by kernel_rfl) (fun _ _ _ h => h) (Or.inl ⟨by rfl, ?_⟩) ?_ ?_
    rotate_left
    · intro w'
      go_simp
      with_reducible rfl
    rotate_left
    · simp only [Act.put, List.setIfInBounds_toArray, List.set_cons_zero, List.set_cons_succ, i64_w, i32_w]
      rfl
    refine one_ (i := 13) (N := some 69) #[true, true, true, true, true, true, true, true, true, true, true, true, true, true, false, false] rfl rfl (by kernel_rfl) (by decide) (fun K hK => ?_)
    refine goes_ Try.func45 (by kernel_rfl) rfl #[.int .u64 (e : Int), .int .i64 18] (by rfl) rfl rfl (by (try simp only [List.map_toArray, List.map_cons, List.map_nil]); first | done | rfl) ?_
    refine (rrol_any _ e _ 18 rfl rfl HE.out (by decide) _).mono ?_
    rintro e0 w0 ⟨rfl, ⟨m13, rfl⟩⟩
    refine ⟨_, rfl, ?_⟩
    refine hK.out _ _ (hHeld) (fun hHeld => ?_)
    clear hK K
    refine norm_ (a' := ?_) ?_ ?_
    rotate_left
    · show Act.put _ (some 69) _ = _
      simp only [Act.put, List.setIfInBounds_toArray, List.set_cons_zero, List.set_cons_succ, i64_w, i32_w]
      rfl
    refine pure_ (i := 14) (N := some 70) (v := ?_) (a' := ?_) #[true, true, true, true, true, true, true, true, true, true, true, true, true, true, true, false] rfl rfl (by kernel_rfl) (fun _ _ _ h => h) (Or.inl ⟨by rfl, ?_⟩) ?_ ?_
    rotate_left
    · intro w'
      go_simp
      with_reducible rfl
    rotate_left
    · simp only [Act.put, List.setIfInBounds_toArray, List.set_cons_zero, List.set_cons_succ, i64_w, i32_w]
      rfl
    refine pure_ (i := 15) (N := some 5) (v := ?_) (a' := ?_) #[true, true, true, true, true, true, true, true, true, true, true, true, true, true, true, true] rfl rfl (by kernel_rfl) (fun _ _ _ h => h) (Or.inl ⟨by rfl, ?_⟩) ?_ ?_
    rotate_left
    · intro w'
      go_simp
      with_reducible rfl
    rotate_left
    · simp only [Act.put, List.setIfInBounds_toArray, List.set_cons_zero, List.set_cons_succ, i64_w, i32_w]
      rfl
    refine done_ (by kernel_rfl) ?_
    try go_wp2
    go_loopw [5, 9] (fun o i wx => ∃ k nn : Nat, k ≤ 4 ∧ i = .int .i64 (k : Int) ∧ o = .int .u64 ((F k : Nat) : Int) ∧ wx = wr.drewN nn) (fun _ i _ => 4 - (intOf i).toNat)
    case atStart => exact ⟨0, 1 + (m2 + m5 + m9 + m13), by omega, rfl, by rw [HQV.out, HF0.out], by simp only [World.drewN_drewN]; show (World.drewN wr 1).drewN _ = _; rw [World.drewN_drewN]⟩
    case round =>
    obtain ⟨k, nn, hk, rfl, rfl, rfl⟩ := hrel
    rcases (show k = 0 ∨ k = 1 ∨ k = 2 ∨ k = 3 ∨ k = 4 by omega) with rfl | rfl | rfl | rfl | rfl
    · go_wp2_with (go_at_call 43; refine (rrnd_any _ _ 0 a rfl rfl _).mono ?_; rintro e w' ⟨rfl, ⟨m, rfl⟩⟩)
      go_roundw
      case rel => exact ⟨1, _, by omega, by go_num, by rw [lfold_val G0.out.1, G0.out.2], by (try simp only [World.drewN_drewN]); rfl⟩
      case measure => simp [intOf]
    · go_wp2_with (go_at_call 43; refine (rrnd_any _ _ 0 b rfl rfl _).mono ?_; rintro e w' ⟨rfl, ⟨m, rfl⟩⟩)
      go_roundw
      case rel => exact ⟨2, _, by omega, by go_num, by rw [lfold_val G1.out.1, G1.out.2], by (try simp only [World.drewN_drewN]); rfl⟩
      case measure => simp [intOf]
    · go_wp2_with (go_at_call 43; refine (rrnd_any _ _ 0 d rfl rfl _).mono ?_; rintro e w' ⟨rfl, ⟨m, rfl⟩⟩)
      go_roundw
      case rel => exact ⟨3, _, by omega, by go_num, by rw [lfold_val G2.out.1, G2.out.2], by (try simp only [World.drewN_drewN]); rfl⟩
      case measure => simp [intOf]
    · go_wp2_with (go_at_call 43; refine (rrnd_any _ _ 0 e rfl rfl _).mono ?_; rintro e w' ⟨rfl, ⟨m, rfl⟩⟩)
      go_roundw
      case rel => exact ⟨4, _, by omega, by go_num, by rw [lfold_val G3.out.1, G3.out.2], by (try simp only [World.drewN_drewN]); rfl⟩
      case measure => simp [intOf]
    · rw [HFIN.out, show ((4 : Nat) : Int) = 4 from rfl]
      clear G0 G1 G2 G3 H0 H1 H2 H3 HQV HF0
      go_wp2
    
      go_loopw [5, 6] (fun x a wx => ∃ (q p n0 : Nat), Aside0 (p = B + 8 * q) ∧ p ≤ l.length ∧ x = .int .u64 ((e8 q X1 (l.drop B) : Nat) : Int) ∧ a = .int .i64 (p : Int) ∧ wx = wr.drewN n0) (fun _ a _ => l.length - (intOf a).toNat)
      case atStart => exact ⟨0, B, _, ⟨rfl⟩, HBL.out, by rw [HX1V.out]; rfl, by first | rfl | (rw [HB0.out]; rfl), rfl⟩
      case round =>
      obtain ⟨q, p, n0, HJ, hj, rfl, rfl, rfl⟩ := hrel
      obtain ⟨x, hx⟩ : ∃ x, e8 q X1 (l.drop B) = x := ⟨_, rfl⟩
      have hxl : x < 18446744073709551616 := by rw [← hx]; exact e8_lt _ _ _ HX1L.out
      rw [hx]
      have HY := Aside0.mk hx
      have HXL := Aside0.mk hxl
      have hNN := HN.out
      have hsub : IntKind.i64.wrap ((l.length : Int) - (p : Int)) = ((l.length - p : Nat) : Int) := by rw [IntWalk.i64_in _ (by omega)]; omega
      clear hx hxl
      by_cases hlt : 8 ≤ l.length - p
      · obtain ⟨v, hv⟩ : ∃ v, num ((l.drop p).take 8) = v := ⟨_, rfl⟩
        have hnx : e8 (q + 1) X1 (l.drop B) = s8v x v := by simp only [e8]; rw [HY.out, List.drop_drop, ← HJ.out, hv]
        have hw := fun (wz : World) (hwz : Src wz A l) => rword_any A l.length c l rfl wz hwz HCC.out HL.out HN.out p 8 (p : Int) 8 rfl rfl (by omega) (by omega)
        rw [hv] at hw
        have HW := Aside0.mk hw
        have HNX := Aside0.mk hnx
        have i8 : (8 : Int) ≤ ((l.length - p : Nat) : Int) := by omega
        have hp8 : IntKind.i64.wrap ((p : Int) + 8) = ((p + 8 : Nat) : Int) := IntWalk.i64_in _ (by omega)
        clear hv hnx hw
        go_wp2_with (first
          | (go_at_call 44; refine Calls.mono (HW.out _ (show Src (World.drewN _ _) A l from HSRC.out)) ?_; rintro e w' ⟨rfl, ⟨m, rfl⟩⟩)
          | (go_at_call 43; refine (rrnd_any _ _ 0 v rfl rfl _).mono ?_; rintro e w' ⟨rfl, ⟨m, rfl⟩⟩)
          | (go_at_call 45; refine (rrol_any _ (x ^^^ Hash.rnd 0 v) _ 27 (x8_val HXL.out) rfl (xor64 HXL.out (rnd_lt _ _)) (by decide) _).mono ?_; rintro e w' ⟨rfl, ⟨m, rfl⟩⟩))
        go_roundw
        case rel => exact ⟨q + 1, p + 8, _, ⟨by have := HJ.out; omega⟩, by omega, by rw [s8_val, HNX.out], rfl, by (try simp only [World.drewN_drewN]); rfl⟩
        case measure => simp [intOf]; omega
      · by_cases h4 : 4 ≤ l.length - p
        · obtain ⟨v, hv⟩ : ∃ v, num ((l.drop p).take 4) = v := ⟨_, rfl⟩
          have hw := fun (wz : World) (hwz : Src wz A l) => rword_any A l.length c l rfl wz hwz HCC.out HL.out HN.out p 4 (p : Int) 4 rfl rfl (by omega) (by omega)
          rw [hv] at hw
          have HW := Aside0.mk hw
          obtain ⟨Z, hZ⟩ : ∃ Z, Z = s4v x v := ⟨_, rfl⟩
          have HZL : Aside0 (Z < 18446744073709551616) := ⟨by rw [hZ]; exact s4v_lt _ _⟩
          have HFIN : Aside0 (fin ((l.drop (p + 4)).foldl s1 Z) = hashN seed l) := ⟨by rw [hZ]; have := HJ.out; subst this; exact rend_more HX.out HX1.out HBB.out rfl hj HY.out (by omega) h4 hv⟩
          have HZ := Aside0.mk hZ
          have i8 : (4 : Int) ≤ ((l.length - p : Nat) : Int) := by omega
          have i7 : ((l.length - p : Nat) : Int) < 8 := by omega
          have hp4 : IntKind.i64.wrap ((p : Int) + 4) = ((p + 4 : Nat) : Int) := IntWalk.i64_in _ (by omega)
          have HP := Aside0.mk hp4
          clear hv hZ hw
          go_wp2_with (first
            | (go_at_call 44; refine Calls.mono (HW.out _ (show Src (World.drewN _ _) A l from HSRC.out)) ?_; rintro e w' ⟨rfl, ⟨m, rfl⟩⟩)
            | (go_at_call 45; refine (rrol_any _ (x ^^^ (v * 11400714785074694791 % 18446744073709551616)) _ 23 (x4_val HXL.out) rfl (xor64 HXL.out (lt64 _)) (by decide) _).mono ?_; rintro e w' ⟨rfl, ⟨m, rfl⟩⟩))
    
          have HM := Aside0.mk (show p + 4 ≤ l.length by omega)
          go_loopw [5, 6] (fun x a wx => ∃ r nn : Nat, p + 4 ≤ r ∧ r ≤ l.length ∧ a = .int .i64 (r : Int) ∧ x = .int .u64 (((((l.drop (p + 4)).take (r - (p + 4))).foldl s1 Z : Nat)) : Int) ∧ wx = wr.drewN nn) (fun _ a _ => l.length - (intOf a).toNat)
          case atStart => exact ⟨p + 4, _, Nat.le_refl _, HM.out, by first | rfl | (refine congrArg _ ?_; exact HP.out), by rw [s4_val, ← HZ.out, Nat.sub_self]; rfl, by (try simp only [World.drewN_drewN]); rfl⟩
          case round =>
          clear HZ
          obtain ⟨k, nn, hk0, hk, rfl, rfl, rfl⟩ := hrel
          obtain ⟨x, hx⟩ : ∃ x, ((l.drop (p + 4)).take (k - (p + 4))).foldl s1 Z = x := ⟨_, rfl⟩
          rw [hx]
          have hxl : x < 18446744073709551616 := by rw [← hx]; exact foldl_lt _ _ HZL.out
          have hNN := HN.out
          by_cases hlt : k < l.length
          · obtain ⟨b, o, rfl, hcs⟩ := HSRC.out (by omega)
            have hcell := hcs k hlt
            clear hcs
            obtain ⟨ch, hch⟩ : ∃ ch, l.getD k 0 = ch := ⟨_, rfl⟩
            rw [hch] at hcell
            have hnx : ((l.drop (p + 4)).take (k + 1 - (p + 4))).foldl s1 Z = s1 x ch := by
              rw [show k + 1 - (p + 4) = (k - (p + 4)) + 1 by omega, List.take_add_one, List.foldl_append, hx, List.getElem?_drop, show p + 4 + (k - (p + 4)) = k by omega]
              exact snoc_fold s1 x l _ ch hlt hch
            have hcb : ch < 256 := by rw [← hch]; exact getD_byte HL.out _
            have hcw : IntKind.u64.wrap (ch : Int) = (ch : Int) := w64lt (by omega)
            have hk1 : IntKind.i64.wrap ((k : Int) + 1) = ((k + 1 : Nat) : Int) := IntWalk.i64_in _ (by omega)
            have b0 : (0 : Int) ≤ (k : Int) := by omega
            have b1 : (k : Int) < (l.length : Int) := by omega
            have b2 : (k : Int).toNat = k := by omega
            have HNX := Aside0.mk hnx
            have HXL := Aside0.mk hxl
            clear hx hch hnx hxl hcb
            go_wp2_with (go_at_call 45; refine (rrol_any _ (x ^^^ (ch * 2870177450012600261 % 18446744073709551616)) _ 11 (x1_val HXL.out) rfl (xor64 HXL.out (lt64 _)) (by decide) _).mono ?_; rintro e w' ⟨rfl, ⟨m, rfl⟩⟩)
            go_roundw
            case rel => exact ⟨k + 1, _, by omega, by omega, rfl, by rw [s1_val, HNX.out], by (try simp only [World.drewN_drewN]); rfl⟩
            case measure => simp [intOf]; omega
          · obtain rfl : k = l.length := by omega
            have hfin : fin x = hashN seed l := by rw [← hx, List.take_of_length_le (by rw [List.length_drop]; omega)]; exact HFIN.out
            have HF := Aside0.mk hfin
            have HXL := Aside0.mk hxl
            clear hx hfin hxl
            have hv := fin_val HXL.out _ _ rfl rfl
            rw [HF.out] at hv
            have HV := Aside0.mk hv
            clear hv
            go_wp2
            go_ret
            exact ⟨congrArg (fun z : Int => Ending.returned (.int .u64 z)) HV.out, pw_below_drewN (HBEL.out) _⟩
    
        · obtain ⟨Z, hZ⟩ : ∃ Z, Z = x := ⟨_, rfl⟩
          have HZL : Aside0 (Z < 18446744073709551616) := ⟨by rw [hZ]; exact HXL.out⟩
          have HFIN : Aside0 (fin ((l.drop p).foldl s1 Z) = hashN seed l) := ⟨by rw [hZ]; have := HJ.out; subst this; exact rend_less HX.out HX1.out HBB.out rfl hj HY.out (by omega) h4⟩
          have HZ := Aside0.mk hZ
          have i8 : ((l.length - p : Nat) : Int) < 4 := by omega
          have i7 : ((l.length - p : Nat) : Int) < 8 := by omega
          clear hZ
          go_wp2
    
          have HM := Aside0.mk (show p ≤ l.length by omega)
          go_loopw [5, 6] (fun x a wx => ∃ r nn : Nat, p ≤ r ∧ r ≤ l.length ∧ a = .int .i64 (r : Int) ∧ x = .int .u64 (((((l.drop (p)).take (r - (p))).foldl s1 Z : Nat)) : Int) ∧ wx = wr.drewN nn) (fun _ a _ => l.length - (intOf a).toNat)
          case atStart => exact ⟨p, _, Nat.le_refl _, HM.out, by first | rfl | (refine congrArg _ ?_; exact HP.out), by rw [← HZ.out, Nat.sub_self]; rfl, by (try simp only [World.drewN_drewN]); rfl⟩
          case round =>
          clear HZ
          obtain ⟨k, nn, hk0, hk, rfl, rfl, rfl⟩ := hrel
          obtain ⟨x, hx⟩ : ∃ x, ((l.drop (p)).take (k - (p))).foldl s1 Z = x := ⟨_, rfl⟩
          rw [hx]
          have hxl : x < 18446744073709551616 := by rw [← hx]; exact foldl_lt _ _ HZL.out
          have hNN := HN.out
          by_cases hlt : k < l.length
          · obtain ⟨b, o, rfl, hcs⟩ := HSRC.out (by omega)
            have hcell := hcs k hlt
            clear hcs
            obtain ⟨ch, hch⟩ : ∃ ch, l.getD k 0 = ch := ⟨_, rfl⟩
            rw [hch] at hcell
            have hnx : ((l.drop (p)).take (k + 1 - (p))).foldl s1 Z = s1 x ch := by
              rw [show k + 1 - (p) = (k - (p)) + 1 by omega, List.take_add_one, List.foldl_append, hx, List.getElem?_drop, show p + (k - (p)) = k by omega]
              exact snoc_fold s1 x l _ ch hlt hch
            have hcb : ch < 256 := by rw [← hch]; exact getD_byte HL.out _
            have hcw : IntKind.u64.wrap (ch : Int) = (ch : Int) := w64lt (by omega)
            have hk1 : IntKind.i64.wrap ((k : Int) + 1) = ((k + 1 : Nat) : Int) := IntWalk.i64_in _ (by omega)
            have b0 : (0 : Int) ≤ (k : Int) := by omega
            have b1 : (k : Int) < (l.length : Int) := by omega
            have b2 : (k : Int).toNat = k := by omega
            have HNX := Aside0.mk hnx
            have HXL := Aside0.mk hxl
            clear hx hch hnx hxl hcb
            go_wp2_with (go_at_call 45; refine (rrol_any _ (x ^^^ (ch * 2870177450012600261 % 18446744073709551616)) _ 11 (x1_val HXL.out) rfl (xor64 HXL.out (lt64 _)) (by decide) _).mono ?_; rintro e w' ⟨rfl, ⟨m, rfl⟩⟩)
            go_roundw
            case rel => exact ⟨k + 1, _, by omega, by omega, rfl, by rw [s1_val, HNX.out], by (try simp only [World.drewN_drewN]); rfl⟩
            case measure => simp [intOf]; omega
          · obtain rfl : k = l.length := by omega
            have hfin : fin x = hashN seed l := by rw [← hx, List.take_of_length_le (by rw [List.length_drop]; omega)]; exact HFIN.out
            have HF := Aside0.mk hfin
            have HXL := Aside0.mk hxl
            clear hx hfin hxl
            have hv := fin_val HXL.out _ _ rfl rfl
            rw [HF.out] at hv
            have HV := Aside0.mk hv
            clear hv
            go_wp2
            go_ret
            exact ⟨congrArg (fun z : Int => Ending.returned (.int .u64 z)) HV.out, pw_below_drewN (HBEL.out) _⟩

theorem rhash_walk (seed : Nat) (hs : seed < 18446744073709551616) (A : Option Addr) (c : Nat) (l : List Nat) (w : World) (hC : Src w A l) (hc : l.length ≤ c) (hl : Bytes l) (hn : l.length < 4611686018427387904) :
    Calls Try.prog 25 #[.int .u64 (seed : Int), .slice A l.length c] w fun e w' => e = .returned (.int .u64 ((hashN seed l : Nat) : Int)) ∧ Below w.heap.size w w' := by
  by_cases h : l.length < 32
  · exact rhash_short seed hs A c l w hC hc hl hn h
  · exact rhash_long seed hs A c l w hC hc hl hn (by omega)
end Go.Proofs.Ytbnbpnnpbnpidaa.Hasher
