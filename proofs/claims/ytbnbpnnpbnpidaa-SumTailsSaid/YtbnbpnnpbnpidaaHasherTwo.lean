/- The walks over a Hasher: its sum, its length; the hash of bytes; lives; joined.
   No condition. -/
import Derived.Test.YtbnbpnnpbnpidaaHasherOne
import Derived.Lib.SlBytesConst
import Derived.Deep.DeepAppendRoom
namespace Go.Proofs.Ytbnbpnnpbnpidaa.Hasher
open Go.Proofs.Ytbnbpnnpbnpidaa.QSumHashes Hash Crc
set_option linter.unusedVariables false
set_option linter.unusedSimpArgs false
open Go.RowKit Go.Proofs.YtbnbpnnpbnpidaaW.PrintWords Go.Proofs.YtbnbpnnpbnpidaaW.PrintLast Go.Proofs.YtbnbpnnpbnpidaaW.PrintMore
theorem rol_walk (x : Nat) (t : Int) (n : Nat) (ht : t = (n : Int)) (hx : x < 18446744073709551616) (hn : n < 64) (w : World) : Calls Try.prog 49 #[.int .u64 (x : Int), .int .i64 t] w fun e w' => e = .returned (.int .u64 ((Hash.rol x n : Nat) : Int)) ∧ w = w' := by
  subst ht
  exact bits_RotateLeft64.still _ _ _ w (rol_eq x n hx hn)
theorem rnd_walk (a v : Nat) (t : Int) (ht : t = (a : Int)) (w : World) : Calls Try.prog 50 #[.int .u64 t, .int .u64 (v : Int)] w fun e w' => e = .returned (.int .u64 ((Hash.rnd a v : Nat) : Int)) ∧ w = w' := by
  subst ht
  exact sum_round.still _ _ _ w (round_eq a v)
theorem lsum_eq (a b c d : Nat) : lsum [a, b, c, d] = lfold (lfold (lfold (lfold (lpart [a, b, c, d] 4) a) b) c) d := by
  unfold lsum
  rw [List.foldl_cons, List.foldl_cons, List.foldl_cons, List.foldl_cons, List.foldl_nil]
theorem lpart_step (l : List Nat) (i x t : Nat) (hx : l.getD i 0 = x) (ht : turn i = t) : (lpart l i + Hash.rol x t) % 18446744073709551616 = lpart l (i + 1) := by subst hx; subst ht; rfl
theorem chain_ex (f : Nat → Nat → Nat) (q a b c d : Nat) : ∃ F : Nat → Nat, F 0 = q ∧ F 1 = f q a ∧ F 2 = f (f q a) b ∧ F 3 = f (f (f q a) b) c ∧ F 4 = f (f (f (f q a) b) c) d :=
  ⟨fun k => match k with | 0 => q | 1 => f q a | 2 => f (f q a) b | 3 => f (f (f q a) b) c | _ => f (f (f (f q a) b) c) d, rfl, rfl, rfl, rfl, rfl⟩
theorem lfold_lt (o v : Nat) : lfold o v < 18446744073709551616 := lt64 _
theorem lpart_lt (l : List Nat) (i : Nat) : lpart l i < 18446744073709551616 := by
  cases i with
  | zero => exact Nat.zero_lt_of_lt (by decide : 0 < 18446744073709551616)
  | succ i => exact lt64 _
theorem lfold_val {o v : Nat} (ho : o < 18446744073709551616) : IntKind.u64.wrap (IntKind.u64.wrap (Go.bits .xor .u64 (o : Int) ((Hash.rnd 0 v : Nat) : Int) * 11400714785074694791) + 9650029242287828579) = ((lfold o v : Nat) : Int) := by
  rw [u64_xor_nat _ _ ho (rnd_lt _ _), show (11400714785074694791 : Int) = ((11400714785074694791 : Nat) : Int) from rfl, mulw, show (9650029242287828579 : Int) = ((9650029242287828579 : Nat) : Int) from rfl, addw]; rfl
set_option maxHeartbeats 4000000 in
set_option maxRecDepth 100000 in
theorem lanesSum_walk (g : Nat) (seed kept total : Int) (a b c d : Nat) (left : List Int) (ha : a < 18446744073709551616) (hb : b < 18446744073709551616) (hc : c < 18446744073709551616) (hd : d < 18446744073709551616) (w : World) (hB : HB w g seed (ints [a, b, c, d]) left kept total) :
    Calls Try.prog 48 #[.pointer (some ⟨g, 0, none⟩)] w fun e w' => e = .returned (.int .u64 ((lsum [a, b, c, d] : Nat) : Int)) ∧ w = w' := by
  have H0 : w.cell? ⟨g, 1, none⟩ = some (.int .u64 (a : Int)) := blk_cell hB 1
  have H1 : w.cell? ⟨g, 2, none⟩ = some (.int .u64 (b : Int)) := blk_cell hB 2
  have H2 : w.cell? ⟨g, 3, none⟩ = some (.int .u64 (c : Int)) := blk_cell hB 3
  have H3 : w.cell? ⟨g, 4, none⟩ = some (.int .u64 (d : Int)) := blk_cell hB 4
  have HA := Aside0.mk ha
  have HBb := Aside0.mk hb
  have HC := Aside0.mk hc
  have HD := Aside0.mk hd
  clear hB ha hb hc hd
  have t0 : ∀ w, (Instr.index 69 (.agg #[.int .i64 1, .int .i64 7, .int .i64 12, .int .i64 18]) (.int .i64 0)).run Try.prog w = .ok (.int .i64 1) w := fun _ => by kernel_rfl
  have t1 : ∀ w, (Instr.index 69 (.agg #[.int .i64 1, .int .i64 7, .int .i64 12, .int .i64 18]) (.int .i64 1)).run Try.prog w = .ok (.int .i64 7) w := fun _ => by kernel_rfl
  have t2 : ∀ w, (Instr.index 69 (.agg #[.int .i64 1, .int .i64 7, .int .i64 12, .int .i64 18]) (.int .i64 2)).run Try.prog w = .ok (.int .i64 12) w := fun _ => by kernel_rfl
  have t3 : ∀ w, (Instr.index 69 (.agg #[.int .i64 1, .int .i64 7, .int .i64 12, .int .i64 18]) (.int .i64 3)).run Try.prog w = .ok (.int .i64 18) w := fun _ => by kernel_rfl
  go_enter Try.func48, Try.ntmps48
  go_wp2
  go_loop [3, 9] (fun o i => ∃ k : Nat, k ≤ 4 ∧ i = .int .i64 k ∧ o = .int .u64 ((lpart [a, b, c, d] k : Nat) : Int)) (fun _ i => 4 - (intOf i).toNat)
  case atStart => exact ⟨0, by omega, rfl, rfl⟩
  case round =>
    obtain ⟨k, hk, rfl, rfl⟩ := hrel
    rcases (show k = 0 ∨ k = 1 ∨ k = 2 ∨ k = 3 ∨ k = 4 by omega) with rfl | rfl | rfl | rfl | rfl
    · go_wp2_with (go_at_call 49; refine (rol_walk a _ 1 rfl HA.out (by decide) _).mono ?_; rintro e w' ⟨rfl, rfl⟩)
      go_round
      case rel => exact ⟨1, by omega, by go_num, by rw [addw, lpart_step _ 0 a 1 rfl rfl]⟩
      case measure => simp [intOf]
    · go_wp2_with (go_at_call 49; refine (rol_walk b _ 7 rfl HBb.out (by decide) _).mono ?_; rintro e w' ⟨rfl, rfl⟩)
      go_round
      case rel => exact ⟨2, by omega, by go_num, by rw [addw, lpart_step _ 1 b 7 rfl rfl]⟩
      case measure => simp [intOf]
    · go_wp2_with (go_at_call 49; refine (rol_walk c _ 12 rfl HC.out (by decide) _).mono ?_; rintro e w' ⟨rfl, rfl⟩)
      go_round
      case rel => exact ⟨3, by omega, by go_num, by rw [addw, lpart_step _ 2 c 12 rfl rfl]⟩
      case measure => simp [intOf]
    · go_wp2_with (go_at_call 49; refine (rol_walk d _ 18 rfl HD.out (by decide) _).mono ?_; rintro e w' ⟨rfl, rfl⟩)
      go_round
      case rel => exact ⟨4, by omega, by go_num, by rw [addw, lpart_step _ 3 d 18 rfl rfl]⟩
      case measure => simp [intOf]
    · have s0 : ∀ w, (Instr.index 58 (.agg #[.int .u64 (a : Int), .int .u64 (b : Int), .int .u64 (c : Int), .int .u64 (d : Int)]) (.int .i64 0)).run Try.prog w = .ok (.int .u64 (a : Int)) w := fun _ => by kernel_rfl
      have s1 : ∀ w, (Instr.index 58 (.agg #[.int .u64 (a : Int), .int .u64 (b : Int), .int .u64 (c : Int), .int .u64 (d : Int)]) (.int .i64 1)).run Try.prog w = .ok (.int .u64 (b : Int)) w := fun _ => by kernel_rfl
      have s2 : ∀ w, (Instr.index 58 (.agg #[.int .u64 (a : Int), .int .u64 (b : Int), .int .u64 (c : Int), .int .u64 (d : Int)]) (.int .i64 2)).run Try.prog w = .ok (.int .u64 (c : Int)) w := fun _ => by kernel_rfl
      have s3 : ∀ w, (Instr.index 58 (.agg #[.int .u64 (a : Int), .int .u64 (b : Int), .int .u64 (c : Int), .int .u64 (d : Int)]) (.int .i64 3)).run Try.prog w = .ok (.int .u64 (d : Int)) w := fun _ => by kernel_rfl
      obtain ⟨q, hq⟩ : ∃ q, q = lpart [a, b, c, d] 4 := ⟨_, rfl⟩
      have hq0 : q < 18446744073709551616 := by rw [hq]; exact lpart_lt _ _
      rw [← hq]
      have HQ := Aside0.mk hq
      have HQ0 := Aside0.mk hq0
      clear hq hq0 t0 t1 t2 t3
      obtain ⟨F, hF0, hF1, hF2, hF3, hF4⟩ := chain_ex lfold q a b c d
      have hfin : ((F 4 : Nat) : Int) = ((lsum [a, b, c, d] : Nat) : Int) := by rw [lsum_eq, ← HQ.out, hF4]
      have HFIN := Aside0.mk hfin
      have G0 : Aside0 (F 0 < 18446744073709551616 ∧ lfold (F 0) a = F 1) := ⟨by rw [hF0]; exact HQ0.out, by rw [hF0, hF1]⟩
      have G1 : Aside0 (F 1 < 18446744073709551616 ∧ lfold (F 1) b = F 2) := ⟨by rw [hF1]; exact lfold_lt _ _, by rw [hF1, hF2]⟩
      have G2 : Aside0 (F 2 < 18446744073709551616 ∧ lfold (F 2) c = F 3) := ⟨by rw [hF2]; exact lfold_lt _ _, by rw [hF2, hF3]⟩
      have G3 : Aside0 (F 3 < 18446744073709551616 ∧ lfold (F 3) d = F 4) := ⟨by rw [hF3]; exact lfold_lt _ _, by rw [hF3, hF4]⟩
      rw [← hF0]
      clear hfin hF0 hF1 hF2 hF3 hF4 HQ HQ0
      go_wp2
      clear H0 H1 H2 H3
      go_loop [3, 28] (fun o i => ∃ k : Nat, k ≤ 4 ∧ i = .int .i64 k ∧ o = .int .u64 ((F k : Nat) : Int)) (fun _ i => 4 - (intOf i).toNat)
      case atStart => exact ⟨0, by omega, rfl, rfl⟩
      case round =>
      obtain ⟨k, hk, rfl, rfl⟩ := hrel
      rcases (show k = 0 ∨ k = 1 ∨ k = 2 ∨ k = 3 ∨ k = 4 by omega) with rfl | rfl | rfl | rfl | rfl
      · go_wp2_with (go_at_call 50; refine (rnd_walk 0 a _ rfl _).mono ?_; rintro e w' ⟨rfl, rfl⟩)
        go_round
        case rel => exact ⟨1, by omega, by go_num, by rw [lfold_val G0.out.1, G0.out.2]⟩
        case measure => simp [intOf]
      · go_wp2_with (go_at_call 50; refine (rnd_walk 0 b _ rfl _).mono ?_; rintro e w' ⟨rfl, rfl⟩)
        go_round
        case rel => exact ⟨2, by omega, by go_num, by rw [lfold_val G1.out.1, G1.out.2]⟩
        case measure => simp [intOf]
      · go_wp2_with (go_at_call 50; refine (rnd_walk 0 c _ rfl _).mono ?_; rintro e w' ⟨rfl, rfl⟩)
        go_round
        case rel => exact ⟨3, by omega, by go_num, by rw [lfold_val G2.out.1, G2.out.2]⟩
        case measure => simp [intOf]
      · go_wp2_with (go_at_call 50; refine (rnd_walk 0 d _ rfl _).mono ?_; rintro e w' ⟨rfl, rfl⟩)
        go_round
        case rel => exact ⟨4, by omega, by go_num, by rw [lfold_val G3.out.1, G3.out.2]⟩
        case measure => simp [intOf]
      · go_wp2
        go_ret
        exact ⟨congrArg (fun z : Int => Ending.returned (.int .u64 z)) HFIN.out, rfl⟩
end Go.Proofs.Ytbnbpnnpbnpidaa.Hasher
namespace Go.Proofs.Ytbnbpnnpbnpidaa.Hasher
open Go.Proofs.Ytbnbpnnpbnpidaa.QSumHashes Hash Crc
set_option linter.unusedVariables false
set_option linter.unusedSimpArgs false
open Go.RowKit Go.Proofs.YtbnbpnnpbnpidaaW.PrintWords Go.Proofs.YtbnbpnnpbnpidaaW.PrintLast Go.Proofs.YtbnbpnnpbnpidaaW.PrintMore
theorem rol_any (y : Int) (x : Nat) (t : Int) (n : Nat) (hy : y = (x : Int)) (ht : t = (n : Int)) (hx : x < 18446744073709551616) (hn : n < 64) (w : World) : Calls Try.prog 49 #[.int .u64 y, .int .i64 t] w fun e w' => e = .returned (.int .u64 ((Hash.rol x n : Nat) : Int)) ∧ w = w' := by
  subst hy
  exact rol_walk x t n ht hx hn w
theorem s8_val (x v : Nat) : IntKind.u64.wrap (IntKind.u64.wrap (((Hash.rol (x ^^^ Hash.rnd 0 v) 27 : Nat) : Int) * 11400714785074694791) + 9650029242287828579) = ((s8v x v : Nat) : Int) := by
  rw [show (11400714785074694791 : Int) = ((11400714785074694791 : Nat) : Int) from rfl, mulw, show (9650029242287828579 : Int) = ((9650029242287828579 : Nat) : Int) from rfl, addw]; rfl
theorem s4_val (x v : Nat) : IntKind.u64.wrap (IntKind.u64.wrap (((Hash.rol (x ^^^ (v * 11400714785074694791 % 18446744073709551616)) 23 : Nat) : Int) * 14029467366897019727) + 1609587929392839161) = ((s4v x v : Nat) : Int) := by
  rw [show (14029467366897019727 : Int) = ((14029467366897019727 : Nat) : Int) from rfl, mulw, show (1609587929392839161 : Int) = ((1609587929392839161 : Nat) : Int) from rfl, addw]; rfl
theorem s1_val (x c : Nat) : IntKind.u64.wrap (((Hash.rol (x ^^^ (c * 2870177450012600261 % 18446744073709551616)) 11 : Nat) : Int) * 11400714785074694791) = ((s1 x c : Nat) : Int) := by
  rw [show (11400714785074694791 : Int) = ((11400714785074694791 : Nat) : Int) from rfl, mulw]; rfl
theorem s8v_lt (x v : Nat) : s8v x v < 18446744073709551616 := by unfold s8v; exact lt64 _
theorem s4v_lt (x v : Nat) : s4v x v < 18446744073709551616 := by unfold s4v; exact lt64 _
theorem s1_lt (x v : Nat) : s1 x v < 18446744073709551616 := by unfold s1; exact lt64 _
theorem e8_lt (q x : Nat) (b : List Nat) (hx : x < 18446744073709551616) : e8 q x b < 18446744073709551616 := by
  cases q with
  | zero => exact hx
  | succ q => exact s8v_lt _ _
theorem xor64 {a b : Nat} (ha : a < 18446744073709551616) (hb : b < 18446744073709551616) : a ^^^ b < 18446744073709551616 := Nat.xor_lt_two_pow (n := 64) ha hb
theorem x8_val {x v : Nat} (hx : x < 18446744073709551616) : Go.bits .xor .u64 (x : Int) ((Hash.rnd 0 v : Nat) : Int) = ((x ^^^ Hash.rnd 0 v : Nat) : Int) := u64_xor_nat _ _ hx (rnd_lt _ _)
theorem x4_val {x v : Nat} (hx : x < 18446744073709551616) : Go.bits .xor .u64 (x : Int) (IntKind.u64.wrap ((v : Int) * 11400714785074694791)) = ((x ^^^ (v * 11400714785074694791 % 18446744073709551616) : Nat) : Int) := by
  rw [show (11400714785074694791 : Int) = ((11400714785074694791 : Nat) : Int) from rfl, mulw, u64_xor_nat _ _ hx (lt64 _)]
theorem x1_val {x c : Nat} (hx : x < 18446744073709551616) : Go.bits .xor .u64 (x : Int) (IntKind.u64.wrap ((c : Int) * 2870177450012600261)) = ((x ^^^ (c * 2870177450012600261 % 18446744073709551616) : Nat) : Int) := by
  rw [show (2870177450012600261 : Int) = ((2870177450012600261 : Nat) : Int) from rfl, mulw, u64_xor_nat _ _ hx (lt64 _)]
theorem fin_val {x : Nat} (hx : x < 18446744073709551616) (y z : Int) (hy : y = IntKind.u64.wrap (Go.bits .xor .u64 (x : Int) ((x : Int) / 8589934592) * 14029467366897019727)) (hz : z = IntKind.u64.wrap (Go.bits .xor .u64 y (y / 536870912) * 1609587929392839161)) :
    Go.bits .xor .u64 z (z / 4294967296) = ((fin x : Nat) : Int) := by
  rw [show (8589934592 : Int) = ((8589934592 : Nat) : Int) from rfl, ← Int.natCast_ediv, u64_xor_nat _ _ hx (by omega), show (14029467366897019727 : Int) = ((14029467366897019727 : Nat) : Int) from rfl, mulw] at hy
  subst hy
  rw [show (536870912 : Int) = ((536870912 : Nat) : Int) from rfl, ← Int.natCast_ediv, u64_xor_nat _ _ (lt64 _) (Nat.lt_of_le_of_lt (Nat.div_le_self _ _) (lt64 _)), show (1609587929392839161 : Int) = ((1609587929392839161 : Nat) : Int) from rfl, mulw] at hz
  subst hz
  rw [show (4294967296 : Int) = ((4294967296 : Nat) : Int) from rfl, ← Int.natCast_ediv, u64_xor_nat _ _ (lt64 _) (Nat.lt_of_le_of_lt (Nat.div_le_self _ _) (lt64 _))]
  rfl
/-- A word of what is left. -/
theorem word_walk {w : World} {g seed : Nat} {lanes left : List Nat} {kept total : Int} (hB : HB w g (seed : Int) (ints lanes) (ints left) kept total) (h4 : lanes.length = 4) (h32 : left.length = 32) (hb : Bytes left) (j m c n : Nat) (t : Int) (ht : t = (n : Int)) (hj : j + m ≤ 32) (hn : n ≤ m) (h8 : n ≤ 8) (hc : m ≤ c) :
    Calls Try.prog 51 #[.slice (some ⟨g, 5 + j, none⟩) m c, .int .i64 t] w fun e w' => e = .returned (.int .u64 ((num ((left.drop j).take n) : Nat) : Int)) ∧ w = w' := by
  subst ht
  have hr := HB.reads (by rw [ints_length, h4]) (by rw [ints_length, h32]) hB j (by omega) m (by omega)
  rw [ints_drop, ints_take] at hr
  have hl : (ints ((left.drop j).take m)).length = m := by rw [ints_length, List.length_take, List.length_drop]; omega
  have h := sum_word.still 9 (some ⟨g, 5 + j, none⟩) c (ints ((left.drop j).take m)) (n : Int) ((num (((left.drop j).take m).take n) : Nat) : Int) w (by rw [hl]; exact hr) (by omega)
    (word_eq _ (bytes_take (bytes_drop hb _) _) n (by rw [List.length_take, List.length_drop]; omega) h8 9 (by omega))
  rw [hl, List.take_take, Nat.min_eq_left hn] at h
  exact h
end Go.Proofs.Ytbnbpnnpbnpidaa.Hasher
namespace Go.Proofs.Ytbnbpnnpbnpidaa.Hasher
open Go.Proofs.Ytbnbpnnpbnpidaa.QSumHashes Hash Crc
set_option linter.unusedVariables false
set_option linter.unusedSimpArgs false
open Go.RowKit Go.Proofs.YtbnbpnnpbnpidaaW.PrintWords Go.Proofs.YtbnbpnnpbnpidaaW.PrintLast Go.Proofs.YtbnbpnnpbnpidaaW.PrintMore
theorem lanes_four {l : List Nat} (h : l.length = 4) : ∃ a b c d, l = [a, b, c, d] := by
  match l, h with
  | [a, b, c, d], _ => exact ⟨a, b, c, d, rfl⟩
theorem stepL_lt (l b : List Nat) : ∀ x ∈ stepL l b, x < 18446744073709551616 := by
  intro x hx
  obtain ⟨i, _, rfl⟩ := List.mem_map.1 hx
  exact rnd_lt _ _
theorem lanesOf_lt (l : List Nat) (hl : ∀ x ∈ l, x < 18446744073709551616) (q : Nat) (b : List Nat) : ∀ x ∈ lanesOf l q b, x < 18446744073709551616 := by
  cases q with
  | zero => exact hl
  | succ q => exact stepL_lt _ _
theorem lanes0_lt (seed : Nat) (hs : seed < 18446744073709551616) : ∀ x ∈ lanes0 seed, x < 18446744073709551616 := by
  intro x hx
  simp only [lanes0, List.mem_cons, List.not_mem_nil, or_false] at hx
  rcases hx with h | h | h | h
  · rw [h]; exact lt64 _
  · rw [h]; exact lt64 _
  · rw [h]; exact hs
  · rw [h]; exact lt64 _
theorem begun_lt (seed : Nat) (all : List Nat) : Hash.begun seed all < 18446744073709551616 := by
  unfold Hash.begun
  by_cases h : 32 ≤ all.length
  · rw [if_pos h]
    obtain ⟨a, b, c, d, e⟩ := lanes_four (lanesOf_length (lanes0 seed) rfl (all.length / 32) all)
    rw [e, lsum_eq]; exact lfold_lt _ _
  · rw [if_neg h]; exact lt64 _
theorem snoc_fold (f : Nat → Nat → Nat) (x : Nat) (l : List Nat) (i ch : Nat) (hi : i < l.length) (hc : l.getD i 0 = ch) : (l[i]?.toList).foldl f x = f x ch := by
  rw [List.getD_eq_getElem?_getD, List.getElem?_eq_getElem hi] at hc
  rw [List.getElem?_eq_getElem hi, ← hc]; rfl
theorem foldl_lt (l : List Nat) : ∀ z, z < 18446744073709551616 → l.foldl s1 z < 18446744073709551616 := by
  induction l with
  | nil => exact fun z hz => hz
  | cons c l ih => exact fun z _ => ih _ (s1_lt _ _)
theorem getD_byte {l : List Nat} (h : Bytes l) (i : Nat) : l.getD i 0 < 256 := by
  rw [List.getD_eq_getElem?_getD]
  cases e : l[i]? with
  | none => exact Nat.zero_lt_of_lt (by decide : 0 < 256)
  | some b => exact h b (List.mem_of_getElem? e)
theorem e8_take (q x kept : Nat) (left : List Nat) (h : 8 * q ≤ kept) : e8 q x (left.take kept) = e8 q x left := by
  induction q with
  | zero => rfl
  | succ q ih =>
    simp only [e8]
    rw [ih (by omega), List.drop_take, List.take_take, Nat.min_eq_left (by omega)]
theorem hash_more {seed : Nat} {all lanes left : List Nat} {kept X X1 q j x v : Nat} (hS : St seed all lanes left kept) (hX : X = Hash.begun seed all) (hX1 : X1 = (X + all.length) % 18446744073709551616) (hj : j = 8 * q) (hk : j ≤ kept) (hx : e8 q X1 left = x) (h8 : kept - j < 8) (h4 : 4 ≤ kept - j) (hv : num ((left.drop j).take 4) = v) :
    fin (((left.drop (j + 4)).take (kept - j - 4)).foldl s1 (s4v x v)) = hashN seed all := by
  have hkl : kept < 32 := by have := hS.hk; omega
  unfold hashN
  rw [← hS.hr, ← hX, ← hX1]
  unfold ending
  have e1 : (left.take kept).length = kept := by rw [List.length_take, hS.l32]; omega
  have e2 : kept / 8 = q := by omega
  simp only [e1, e2]
  rw [e8_take q X1 kept left (by omega), hx, ← hj]
  have e3 : (left.take kept).drop j = (left.drop j).take (kept - j) := List.drop_take
  have e4 : ((left.drop j).take (kept - j)).length = kept - j := by rw [List.length_take, List.length_drop, hS.l32]; omega
  rw [e3, e4, if_pos h4, if_pos h4, List.take_take, Nat.min_eq_left h4, hv, List.drop_take, List.drop_drop]
theorem hash_less {seed : Nat} {all lanes left : List Nat} {kept X X1 q j x : Nat} (hS : St seed all lanes left kept) (hX : X = Hash.begun seed all) (hX1 : X1 = (X + all.length) % 18446744073709551616) (hj : j = 8 * q) (hk : j ≤ kept) (hx : e8 q X1 left = x) (h8 : kept - j < 8) (h4 : ¬ 4 ≤ kept - j) :
    fin (((left.drop j).take (kept - j)).foldl s1 x) = hashN seed all := by
  have hkl : kept < 32 := by have := hS.hk; omega
  unfold hashN
  rw [← hS.hr, ← hX, ← hX1]
  unfold ending
  have e1 : (left.take kept).length = kept := by rw [List.length_take, hS.l32]; omega
  have e2 : kept / 8 = q := by omega
  simp only [e1, e2]
  rw [e8_take q X1 kept left (by omega), hx, ← hj]
  have e3 : (left.take kept).drop j = (left.drop j).take (kept - j) := List.drop_take
  have e4 : ((left.drop j).take (kept - j)).length = kept - j := by rw [List.length_take, List.length_drop, hS.l32]; omega
  rw [e3, e4, if_neg h4, if_neg h4]
set_option maxHeartbeats 4000000 in
set_option maxRecDepth 100000 in
theorem sum_walk (g seed : Nat) (hs : seed < 18446744073709551616) (all : List Nat) (w : World) (hH : HAt w g seed all) (hn : all.length < 4611686018427387904) :
    Calls Try.prog 32 #[.pointer (some ⟨g, 0, none⟩)] w fun e w' => e = .returned (.int .u64 ((hashN seed all : Nat) : Int)) ∧ Drawn0 w w' := by
  obtain ⟨lanes, left, kept, hS, hB⟩ := hH
  obtain ⟨X, hX⟩ : ∃ X, X = Hash.begun seed all := ⟨_, rfl⟩
  have hc0 := hB.seed_cell
  have hc38 := blk_cell hB 38
  rw [hc_total (by rw [ints_length, hS.l4]) (by rw [ints_length, hS.l32])] at hc38
  have hc37 := blk_cell hB 37
  rw [hc_kept (by rw [ints_length, hS.l4]) (by rw [ints_length, hS.l32])] at hc37
  have HS := Aside0.mk hS
  have HB1 := Aside0.mk hB
  have HX := Aside0.mk hX
  have hls : 32 ≤ all.length → ∀ wz, HB wz g (seed : Int) (ints lanes) (ints left) (kept : Int) (all.length : Int) → Calls Try.prog 48 #[.pointer (some ⟨g, 0, none⟩)] wz fun e w' => e = .returned (.int .u64 (X : Int)) ∧ wz = w' := by
    intro h32 wz hwz
    obtain ⟨a, b, c, d, rfl⟩ := lanes_four hS.l4
    have hlt : ∀ x ∈ [a, b, c, d], x < 18446744073709551616 := by rw [hS.hl]; exact lanesOf_lt _ (lanes0_lt seed hs) _ _
    have h := lanesSum_walk g seed kept all.length a b c d (ints left) (hlt a (by simp)) (hlt b (by simp)) (hlt c (by simp)) (hlt d (by simp)) wz hwz
    have e : lsum [a, b, c, d] = X := by rw [hX]; unfold Hash.begun; rw [if_pos h32, ← hS.hl]
    rw [e] at h
    exact h
  have HLS := Aside0.mk hls
  have k0 : (0 : Int) ≤ (kept : Int) := by omega
  have k1 : (kept : Int) < 32 := by have := hS.hk; omega
  have k2 : (kept : Int).toNat = kept := by omega
  have k4 : (kept : Int) ≤ 32 := by omega
  have l0 : (0 : Int) ≤ (all.length : Int) := by omega
  have x0 : ¬ (32 ≤ all.length) → IntKind.u64.wrap ((seed : Int) + 2870177450012600261) = (X : Int) := by
    intro h
    rw [show (2870177450012600261 : Int) = ((2870177450012600261 : Nat) : Int) from rfl, addw, hX]; unfold Hash.begun; rw [if_neg h]
  have X0 := Aside0.mk x0
  clear hS hB hX hls x0
  obtain ⟨X1, hX1⟩ : ∃ X1, X1 = (X + all.length) % 18446744073709551616 := ⟨_, rfl⟩
  have hX1v : IntKind.u64.wrap ((X : Int) + (all.length : Int)) = (X1 : Int) := by rw [addw, hX1]
  have hX1l : X1 < 18446744073709551616 := by rw [hX1]; exact lt64 _
  have HX1 := Aside0.mk hX1
  have HX1V := Aside0.mk hX1v
  have HX1L := Aside0.mk hX1l
  clear hX1 hX1v hX1l
  by_cases h32 : 32 ≤ all.length
  all_goals
    have h32i : decide ((32 : Int) ≤ (all.length : Int)) = decide (32 ≤ all.length) := by congr 1; exact propext (by omega)
    first
      | (rw [decide_eq_true h32] at h32i)
      | (rw [decide_eq_false h32] at h32i)
    go_enter Try.func32, Try.ntmps32
    go_wp2_with (go_at_call 48; refine (HLS.out h32 _ HB1.out).mono ?_; rintro e w' ⟨rfl, rfl⟩)
    go_quiet (fail)
    go_wp2
    go_loop [3, 4] (fun x b => ∃ (q j : Nat), Aside0 (j = 8 * q) ∧ j ≤ kept ∧ x = .int .u64 ((e8 q X1 left : Nat) : Int) ∧ b = .slice (some ⟨g, 5 + j, none⟩) (kept - j) (32 - j)) (fun _ b => sliceLen b)
    case atStart => exact ⟨0, 0, ⟨rfl⟩, by omega, (by first | (rw [HX1V.out]; rfl) | (rw [X0.out h32, HX1V.out]; rfl)), by simp⟩
    case round =>
    obtain ⟨q, j, HJ, hj, rfl, rfl⟩ := hrel
    obtain ⟨x, hx⟩ : ∃ x, e8 q X1 left = x := ⟨_, rfl⟩
    have hxl : x < 18446744073709551616 := by rw [← hx]; exact e8_lt _ _ _ HX1L.out
    rw [hx]
    have HY := Aside0.mk hx
    have HXL := Aside0.mk hxl
    clear hx hxl
    by_cases hlt : 8 ≤ kept - j
    · obtain ⟨v, hv⟩ : ∃ v, num ((left.drop j).take 8) = v := ⟨_, rfl⟩
      have hnx : e8 (q + 1) X1 left = s8v x v := by simp only [e8]; rw [HY.out, ← HJ.out, hv]
      have hw := fun (wz : World) (hwz : HB wz g (seed : Int) (ints lanes) (ints left) (kept : Int) (all.length : Int)) => word_walk (w := wz) hwz HS.out.l4 HS.out.l32 HS.out.bl j (kept - j) (32 - j) 8 8 rfl (by omega) (by omega) (by omega) (by omega)
      rw [hv] at hw
      have HW := Aside0.mk hw
      have HNX := Aside0.mk hnx
      have c8 : ¬ (32 - j = 8) := by omega
      have c9 : 8 ≤ 32 - j := by omega
      have i8 : (8 : Int) ≤ ((kept - j : Nat) : Int) := by omega
      clear hv hnx hw
      go_wp2_with (first
        | (go_at_call 51; refine (HW.out (w.drewN nq) HB1.out).mono ?_; rintro e w' ⟨rfl, rfl⟩)
        | (go_at_call 50; refine (rnd_walk 0 v _ rfl _).mono ?_; rintro e w' ⟨rfl, rfl⟩)
        | (go_at_call 49; refine (rol_any _ (x ^^^ Hash.rnd 0 v) _ 27 (x8_val HXL.out) rfl (xor64 HXL.out (rnd_lt _ _)) (by decide) _).mono ?_; rintro e w' ⟨rfl, rfl⟩))
      go_round
      case rel => exact ⟨q + 1, j + 8, ⟨by have := HJ.out; omega⟩, by omega, by rw [s8_val, HNX.out], by rw [Nat.sub_sub, Nat.sub_sub, Nat.add_assoc]⟩
      case measure => simp [sliceLen]; omega
    · by_cases h4 : 4 ≤ kept - j
      · obtain ⟨v, hv⟩ : ∃ v, num ((left.drop j).take 4) = v := ⟨_, rfl⟩
        have hw := fun (wz : World) (hwz : HB wz g (seed : Int) (ints lanes) (ints left) (kept : Int) (all.length : Int)) => word_walk (w := wz) hwz HS.out.l4 HS.out.l32 HS.out.bl j (kept - j) (32 - j) 4 4 rfl (by omega) (by omega) (by omega) (by omega)
        rw [hv] at hw
        have HW := Aside0.mk hw
        obtain ⟨Z, hZ⟩ : ∃ Z, Z = s4v x v := ⟨_, rfl⟩
        have HZL : Aside0 (Z < 18446744073709551616) := ⟨by rw [hZ]; exact s4v_lt _ _⟩
        have HFIN : Aside0 (fin (((left.drop (j + 4)).take (kept - j - 4)).foldl s1 Z) = hashN seed all) := ⟨by rw [hZ]; exact hash_more HS.out HX.out HX1.out HJ.out hj HY.out (by omega) h4 hv⟩
        have HZ := Aside0.mk hZ
        have c8 : ¬ (32 - j = 4) := by omega
        have c9 : 4 ≤ 32 - j := by omega
        have i8 : (4 : Int) ≤ ((kept - j : Nat) : Int) := by omega
        have i7 : ((kept - j : Nat) : Int) < 8 := by omega
        clear hv hZ hw
        go_wp2_with (first
          | (go_at_call 51; refine (HW.out (w.drewN nq) HB1.out).mono ?_; rintro e w' ⟨rfl, rfl⟩)
          | (go_at_call 49; refine (rol_any _ (x ^^^ (v * 11400714785074694791 % 18446744073709551616)) _ 23 (x4_val HXL.out) rfl (xor64 HXL.out (lt64 _)) (by decide) _).mono ?_; rintro e w' ⟨rfl, rfl⟩))

        have hm2 : kept - j - 4 < 8 := by omega
        have hcl : ∀ i, i < kept - j - 4 → w.cell? ⟨g, 5 + j + 4 + i, none⟩ = some (.int .u8 ((left.getD (j + 4 + i) 0 : Nat) : Int)) := fun i hi => by
          have := blk_cell HB1.out (5 + (j + 4 + i))
          rw [hc_left (by rw [ints_length, HS.out.l4]) (by rw [ints_length, HS.out.l32]) (j + 4 + i) (by omega), ints_getD] at this
          rw [show 5 + j + 4 + i = 5 + (j + 4 + i) by omega]; exact this
        have HCL := Aside0.mk hcl
        clear hcl
        go_loop [3, 6, 63] (fun x _ i => ∃ k : Nat, k ≤ kept - j - 4 ∧ i = .int .i64 k ∧ x = .int .u64 (((((left.drop (j + 4)).take k).foldl s1 Z : Nat)) : Int)) (fun _ _ i => kept - j - 4 - (intOf i).toNat)
        case atStart => exact ⟨0, by omega, rfl, by rw [s4_val, ← HZ.out]; rfl⟩
        case round =>
        clear HZ
        obtain ⟨k, hk, rfl, rfl⟩ := hrel
        obtain ⟨x, hx⟩ : ∃ x, ((left.drop (j + 4)).take k).foldl s1 Z = x := ⟨_, rfl⟩
        rw [hx]
        have hxl : x < 18446744073709551616 := by rw [← hx]; exact foldl_lt _ _ HZL.out
        by_cases hlt : k < kept - j - 4
        · have hcell := HCL.out k hlt
          obtain ⟨ch, hch⟩ : ∃ ch, left.getD (j + 4 + k) 0 = ch := ⟨_, rfl⟩
          rw [hch] at hcell
          have hnx : ((left.drop (j + 4)).take (k + 1)).foldl s1 Z = s1 x ch := by
            rw [List.take_add_one, List.foldl_append, hx, List.getElem?_drop]
            exact snoc_fold s1 x left _ ch (by have := HS.out.l32; omega) hch
          have hcb : ch < 256 := by rw [← hch]; exact getD_byte HS.out.bl _
          have hcw : IntKind.u64.wrap (ch : Int) = (ch : Int) := w64lt (by omega)
          have HNX := Aside0.mk hnx
          have HXL := Aside0.mk hxl
          clear hx hch hnx hxl hcb
          go_wp2_with (go_at_call 49; refine (rol_any _ (x ^^^ (ch * 2870177450012600261 % 18446744073709551616)) _ 11 (x1_val HXL.out) rfl (xor64 HXL.out (lt64 _)) (by decide) _).mono ?_; rintro e w' ⟨rfl, rfl⟩)
          go_round
          case rel => exact ⟨k + 1, by omega, by go_num, by rw [s1_val, HNX.out]⟩
          case measure => simp [intOf]; omega
        · obtain rfl : k = kept - j - 4 := by omega
          have hfin : fin x = hashN seed all := by rw [← hx]; exact HFIN.out
          have HF := Aside0.mk hfin
          have HXL := Aside0.mk hxl
          clear hx hfin hxl
          have hv := fin_val HXL.out _ _ rfl rfl
          rw [HF.out] at hv
          have HV := Aside0.mk hv
          clear hv
          go_wp2
          go_ret
          exact ⟨congrArg (fun z : Int => Ending.returned (.int .u64 z)) HV.out, ⟨nq, rfl⟩⟩

      · obtain ⟨Z, hZ⟩ : ∃ Z, Z = x := ⟨_, rfl⟩
        have HZL : Aside0 (Z < 18446744073709551616) := ⟨by rw [hZ]; exact HXL.out⟩
        have HFIN : Aside0 (fin (((left.drop j).take (kept - j)).foldl s1 Z) = hashN seed all) := ⟨by rw [hZ]; exact hash_less HS.out HX.out HX1.out HJ.out hj HY.out (by omega) h4⟩
        have HZ := Aside0.mk hZ
        have i8 : ((kept - j : Nat) : Int) < 4 := by omega
        have i7 : ((kept - j : Nat) : Int) < 8 := by omega
        clear hZ
        go_wp2

        have hm2 : kept - j < 8 := by omega
        have hcl : ∀ i, i < kept - j → w.cell? ⟨g, 5 + j + i, none⟩ = some (.int .u8 ((left.getD (j + i) 0 : Nat) : Int)) := fun i hi => by
          have := blk_cell HB1.out (5 + (j + i))
          rw [hc_left (by rw [ints_length, HS.out.l4]) (by rw [ints_length, HS.out.l32]) (j + i) (by omega), ints_getD] at this
          rw [show 5 + j + i = 5 + (j + i) by omega]; exact this
        have HCL := Aside0.mk hcl
        clear hcl
        go_loop [3, 6, 63] (fun x _ i => ∃ k : Nat, k ≤ kept - j ∧ i = .int .i64 k ∧ x = .int .u64 (((((left.drop (j)).take k).foldl s1 Z : Nat)) : Int)) (fun _ _ i => kept - j - (intOf i).toNat)
        case atStart => exact ⟨0, by omega, rfl, by rw [← HZ.out]; rfl⟩
        case round =>
        clear HZ
        obtain ⟨k, hk, rfl, rfl⟩ := hrel
        obtain ⟨x, hx⟩ : ∃ x, ((left.drop (j)).take k).foldl s1 Z = x := ⟨_, rfl⟩
        rw [hx]
        have hxl : x < 18446744073709551616 := by rw [← hx]; exact foldl_lt _ _ HZL.out
        by_cases hlt : k < kept - j
        · have hcell := HCL.out k hlt
          obtain ⟨ch, hch⟩ : ∃ ch, left.getD (j + k) 0 = ch := ⟨_, rfl⟩
          rw [hch] at hcell
          have hnx : ((left.drop (j)).take (k + 1)).foldl s1 Z = s1 x ch := by
            rw [List.take_add_one, List.foldl_append, hx, List.getElem?_drop]
            exact snoc_fold s1 x left _ ch (by have := HS.out.l32; omega) hch
          have hcb : ch < 256 := by rw [← hch]; exact getD_byte HS.out.bl _
          have hcw : IntKind.u64.wrap (ch : Int) = (ch : Int) := w64lt (by omega)
          have HNX := Aside0.mk hnx
          have HXL := Aside0.mk hxl
          clear hx hch hnx hxl hcb
          go_wp2_with (go_at_call 49; refine (rol_any _ (x ^^^ (ch * 2870177450012600261 % 18446744073709551616)) _ 11 (x1_val HXL.out) rfl (xor64 HXL.out (lt64 _)) (by decide) _).mono ?_; rintro e w' ⟨rfl, rfl⟩)
          go_round
          case rel => exact ⟨k + 1, by omega, by go_num, by rw [s1_val, HNX.out]⟩
          case measure => simp [intOf]; omega
        · obtain rfl : k = kept - j := by omega
          have hfin : fin x = hashN seed all := by rw [← hx]; exact HFIN.out
          have HF := Aside0.mk hfin
          have HXL := Aside0.mk hxl
          clear hx hfin hxl
          have hv := fin_val HXL.out _ _ rfl rfl
          rw [HF.out] at hv
          have HV := Aside0.mk hv
          clear hv
          go_wp2
          go_ret
          exact ⟨congrArg (fun z : Int => Ending.returned (.int .u64 z)) HV.out, ⟨nq, rfl⟩⟩

end Go.Proofs.Ytbnbpnnpbnpidaa.Hasher
namespace Go.Proofs.Ytbnbpnnpbnpidaa.Hasher
open Go.Proofs.Ytbnbpnnpbnpidaa.QSumHashes Hash Crc
set_option linter.unusedVariables false
set_option linter.unusedSimpArgs false
open Go.RowKit Go.Proofs.YtbnbpnnpbnpidaaW.PrintWords Go.Proofs.YtbnbpnnpbnpidaaW.PrintLast Go.Proofs.YtbnbpnnpbnpidaaW.PrintMore
theorem subw (a b : Nat) (hb : b ≤ 18446744073709551616) : IntKind.u64.wrap ((a : Int) - (b : Int)) = (((a + 18446744073709551616 - b) % 18446744073709551616 : Nat) : Int) := by rw [IntKind.wrap_u64]; omega
theorem hat_new (w : World) (seed : Nat) : Calls Try.prog 29 #[.int .u64 (seed : Int)] w fun e w' => e = .returned (.pointer (some ⟨w.heap.size, 0, none⟩)) ∧ HAt w' w.heap.size seed [] ∧ Below w.heap.size w w' := by
  refine (newHasher_walk seed w).mono ?_
  rintro e w' ⟨h1, h2, h3⟩
  refine ⟨h1, ⟨lanes0 seed, List.replicate 32 0, 0, St.zero seed, ?_⟩, h3⟩
  have e1 : ints (lanes0 seed) = [IntKind.u64.wrap (IntKind.u64.wrap ((seed : Int) + 11400714785074694791) + 14029467366897019727), IntKind.u64.wrap ((seed : Int) + 14029467366897019727), (seed : Int), IntKind.u64.wrap ((seed : Int) - 11400714785074694791)] := by
    rw [show (11400714785074694791 : Int) = ((11400714785074694791 : Nat) : Int) from rfl, show (14029467366897019727 : Int) = ((14029467366897019727 : Nat) : Int) from rfl, addw, addw, addw, subw _ _ (by decide)]
    simp only [ints, lanes0, List.map_cons, List.map_nil]
  have e2 : ints (List.replicate 32 0) = zeros32 := by simp [ints, zeros32]
  rw [e1, e2]
  exact h2
theorem HAt.below {w w' : World} {g seed : Nat} {all : List Nat} (h : HAt w g seed all) (hb : Below w.heap.size w w') : HAt w' g seed all := by
  obtain ⟨lanes, left, kept, hS, hB⟩ := h
  exact ⟨lanes, left, kept, hS, blk_below hB hb⟩
theorem HAt.lt {w : World} {g seed : Nat} {all : List Nat} (h : HAt w g seed all) : g < w.heap.size := by
  obtain ⟨lanes, left, kept, hS, hB⟩ := h
  exact blk_lt hB
theorem src_lt {w : World} {A : Option Addr} {l : List Nat} (h : Src w A l) (h0 : 0 < l.length) : ∀ ad, A = some ad → ad.block < w.heap.size := by
  obtain ⟨b, o, rfl, hc⟩ := h h0
  intro ad e
  injection e with e
  subst e
  exact World.block_lt_of_cell? w _ (hc 0 h0)
theorem Src.below {w w' : World} {A : Option Addr} {l : List Nat} (h : Src w A l) (hb : Below w.heap.size w w') : Src w' A l := by
  intro h0
  obtain ⟨b, o, e, hc⟩ := h h0
  exact ⟨b, o, e, fun j hj => pw_cell_below hb (hc j hj)⟩
set_option maxHeartbeats 1000000 in
set_option maxRecDepth 100000 in
theorem hash_walk (seed : Nat) (hs : seed < 18446744073709551616) (A : Option Addr) (c : Nat) (l : List Nat) (w : World) (hC : Src w A l) (hc : l.length ≤ c) (hl : Bytes l) (hn : l.length < 4611686018427387904) :
    Calls Try.prog 24 #[.int .u64 (seed : Int), .slice A l.length c] w fun e w' => e = .returned (.int .u64 ((hashN seed l : Nat) : Int)) ∧ Below w.heap.size w w' := by
  have HC := Aside0.mk hC
  have HL := Aside0.mk hl
  have HN := Aside0.mk hn
  have HS := Aside0.mk hs
  clear hC hl hn hs
  go_enter Try.func24, Try.ntmps24
  go_wp2_with (first
    | (go_at_call 29; refine (hat_new w seed).mono ?_; rintro e w1 ⟨rfl, hH, hb1⟩; have HH1 := Aside0.mk hH; have HB1 := Aside0.mk hb1; clear hH hb1)
    | (go_at_call 31; refine (write_walk w.heap.size seed [] l A c w1 HH1.out (HC.out.below HB1.out) hc (fun h0 ad e => by have := src_lt HC.out h0 ad e; omega) HL.out (by have := HN.out; simpa using this)).mono ?_; rintro e w2 ⟨rfl, hH, hg⟩; have HH2 := Aside0.mk hH; have HG2 := Aside0.mk hg; clear hH hg)
    | (go_at_call 32; refine (sum_walk w.heap.size seed HS.out ([] ++ l) w2 HH2.out (by have := HN.out; simpa using this)).mono ?_; rintro e w3 ⟨rfl, ⟨n3, rfl⟩⟩))
  go_ret
  exact ⟨rfl, pw_below_drewN (Below.grown HB1.out HG2.out HB1.out.size (fun k hk => by injection hk with hk; omega)) n3⟩
set_option maxHeartbeats 1000000 in
set_option maxRecDepth 100000 in
theorem len_walk (g seed : Nat) (all : List Nat) (w : World) (hH : HAt w g seed all) :
    Calls Try.prog 33 #[.pointer (some ⟨g, 0, none⟩)] w fun e w' => e = .returned (.int .u64 (all.length : Int)) ∧ w = w' := by
  obtain ⟨lanes, left, kept, hS, hB⟩ := hH
  have hc38 := blk_cell hB 38
  rw [hc_total (by rw [ints_length, hS.l4]) (by rw [ints_length, hS.l32])] at hc38
  clear hS hB
  go_enter Try.func33, Try.ntmps33
  go_wp2
  go_ret
  exact ⟨rfl, rfl⟩
end Go.Proofs.Ytbnbpnnpbnpidaa.Hasher
namespace Go.Proofs.Ytbnbpnnpbnpidaa.QSumHashes
open Go.RowKit Go.Proofs.YtbnbpnnpbnpidaaW.PrintWords Go.Proofs.YtbnbpnnpbnpidaaW.PrintLast Go.Proofs.YtbnbpnnpbnpidaaW.PrintMore
set_option linter.unusedVariables false
set_option linter.unusedSimpArgs false
open Crc

theorem up_fuel {α : Type} {f : Nat → Option α} (h : ∀ k, LeO (f k) (f (k + 1))) {n : Nat} {x : α} (hx : f n = some x) : ∀ m, n ≤ m → f m = some x := by
  intro m hm
  obtain ⟨d, rfl⟩ := Nat.exists_eq_add_of_le hm
  clear hm
  induction d with
  | zero => exact hx
  | succ d ih => exact h _ _ ih

theorem shifted_l0 (m : Nat) : ∀ (k i x : Nat), x < 4294967296 → i + m = 8 → m < k → sum_shifted.l0 k (x : Int) 8 (i : Int) = some ((csteps m x : Nat) : Int) := by
  induction m with
  | zero =>
    intro k i x hx hi hk
    obtain ⟨k, rfl⟩ := Nat.exists_eq_add_of_lt hk
    simp only [Nat.zero_add, sum_shifted.l0]
    rw [if_neg (by omega)]; rfl
  | succ m ih =>
    intro k i x hx hi hk
    obtain ⟨k, rfl⟩ := Nat.exists_eq_add_of_lt (Nat.zero_lt_of_lt hk)
    simp only [Nat.zero_add, sum_shifted.l0]
    rw [if_pos (by omega), cw64 (by omega) (by omega), show ((i : Int) + 1) = ((i + 1 : Nat) : Int) from rfl, show (1 : Int) = ((1 : Nat) : Int) from rfl, u32_and_nat x 1 hx (by decide), Nat.and_one_is_mod,
      show ((x : Int) / 2) = ((x / 2 : Nat) : Int) from rfl, show (2197175160 : Int) = ((2197175160 : Nat) : Int) from rfl, u32_xor_nat (x / 2) 2197175160 (by omega) (by decide)]
    have hc : csteps (m + 1) x = csteps m (cstep x) := rfl
    have hl := cstep_lt hx
    rw [hc]
    by_cases c : x % 2 = 1
    · rw [if_pos (by omega)]
      have e : cstep x = x / 2 ^^^ 2197175160 := if_pos c
      rw [e] at hl ⊢
      exact ih k (i + 1) _ hl (by omega) (by omega)
    · rw [if_neg (by omega)]
      have e : cstep x = x / 2 := if_neg c
      rw [e] at hl ⊢
      exact ih k (i + 1) _ hl (by omega) (by omega)
theorem shifted_eq (k x : Nat) (hx : x < 4294967296) (hk : 8 < k) : sum_shifted.f k (x : Int) 8 = some ((csteps 8 x : Nat) : Int) := shifted_l0 8 k 0 x hx rfl hk

theorem extend_l0 (bs : List Nat) : ∀ (pre : List Nat) (k x : Nat), x < 4294967296 → Bytes bs → pre.length + bs.length < 4611686018427387904 → bs.length + 9 < k →
    sum_Extend.l0 k (x : Int) (ints (pre ++ bs)) ((pre.length + bs.length : Nat) : Int) (pre.length : Int) = some ((4294967295 ^^^ reg x bs : Nat) : Int) := by
  induction bs with
  | nil =>
    intro pre k x hx hb hl hk
    obtain ⟨k, rfl⟩ := Nat.exists_eq_add_of_lt (Nat.zero_lt_of_lt hk)
    simp only [Nat.zero_add, sum_Extend.l0]
    rw [if_neg (by simp)]
    exact congrArg some (u32_xor_nat 4294967295 x (by decide) hx)
  | cons b bs ih =>
    intro pre k x hx hb hl hk
    have hb0 := hb b (by simp)
    have hbs : Bytes bs := fun y hy => hb y (by simp [hy])
    simp only [List.length_cons] at hl hk ⊢
    obtain ⟨k, rfl⟩ := Nat.exists_eq_add_of_lt (Nat.zero_lt_of_lt hk)
    simp only [Nat.zero_add, sum_Extend.l0]
    rw [if_pos (by omega), if_pos (by omega), if_pos (by rw [ints_length, List.length_append, List.length_cons]; omega), rd_ints, show ((b : Int) % 4294967296) = (b : Int) by omega, u32_xor_nat x b hx (by omega),
      shifted_eq k (x ^^^ b) (xor32 hx (by omega)) (by omega), Option.bind_some, cw64 (by omega) (by omega)]
    have h := ih (pre ++ [b]) k (csteps 8 (x ^^^ b)) (csteps_lt 8 (xor32 hx (by omega))) hbs (by simp only [List.length_append, List.length_cons, List.length_nil]; omega) (by omega)
    rw [List.append_assoc, List.singleton_append, List.length_append, List.length_singleton] at h
    rw [show ((pre.length : Int) + 1) = ((pre.length + 1 : Nat) : Int) from rfl, show pre.length + (bs.length + 1) = pre.length + 1 + bs.length by omega]
    exact h
theorem extend_eq (k s : Nat) (bs : List Nat) (hs : s < 4294967296) (hb : Bytes bs) (hl : bs.length < 4611686018427387904) (hk : bs.length + 9 < k) :
    sum_Extend.f k (s : Int) (ints bs) = some ((ext s bs : Nat) : Int) := by
  unfold sum_Extend.f
  rw [show (4294967295 : Int) = ((4294967295 : Nat) : Int) from rfl, u32_xor_nat 4294967295 s (by decide) hs, ints_length]
  have h := extend_l0 bs [] k (4294967295 ^^^ s) (xor32 (by decide) hs) hb (by simpa using hl) hk
  simp only [List.nil_append, List.length_nil, Nat.zero_add] at h
  exact h
theorem crc_eq (k : Nat) (bs : List Nat) (hb : Bytes bs) (hl : bs.length < 4611686018427387904) (hk : bs.length + 9 < k) : sum_Crc.f k (ints bs) = some ((ext 0 bs : Nat) : Int) := by
  unfold sum_Crc.f
  rw [show (0 : Int) = ((0 : Nat) : Int) from rfl, extend_eq k 0 bs (by decide) hb hl hk]; rfl


end Go.Proofs.Ytbnbpnnpbnpidaa.QSumHashes
namespace Go.Proofs.Ytbnbpnnpbnpidaa.Hasher
open Go.Proofs.Ytbnbpnnpbnpidaa.QSumHashes Hash Crc
set_option linter.unusedVariables false
set_option linter.unusedSimpArgs false
open Go.RowKit Go.Proofs.YtbnbpnnpbnpidaaW.PrintWords Go.Proofs.YtbnbpnnpbnpidaaW.PrintLast Go.Proofs.YtbnbpnnpbnpidaaW.PrintMore
theorem src_of_block {w : World} {g t : Nat} {fz : Nat × Nat} {l : List Nat} (h : w.heap[g]? = some (.cells (nums .u8 (ints l)).toArray t fz)) : Src w (some ⟨g, 0, none⟩) l := by
  intro _
  refine ⟨g, 0, rfl, fun j hj => ?_⟩
  rw [cell_of_row w g (0 + j) _ t fz h, List.getElem?_toArray, Nat.zero_add, nums, ints, List.getElem?_map, List.getElem?_map, List.getElem?_eq_getElem hj, List.getD_eq_getElem?_getD, List.getElem?_eq_getElem hj]
  rfl
theorem C_of_src {w : World} {A : Option Addr} {l : List Nat} (h : Src w A l) (hl : l.length ≤ 9223372036854775807) : Kd.C (Kd.int .u8) w A l.length (ints l) := by
  refine ⟨ints_length _, hl, fun h0 => ?_⟩
  obtain ⟨b, o, rfl, hc⟩ := h h0
  refine ⟨_, rfl, fun j p hp => ⟨[.int .u8 p], rfl, rfl, fun i u hu => ?_⟩⟩
  obtain ⟨rfl, rfl⟩ : i = 0 ∧ u = .int .u8 p := by
    cases i with
    | zero => exact ⟨rfl, by simpa using hu.symm⟩
    | succ i => simp at hu
  have hj : j < l.length := by have := (List.getElem?_eq_some_iff.1 hp).1; rwa [ints_length] at this
  have hsz : j * (Kd.int .u8).sz + 0 = j := Nat.mul_one j
  rw [hsz, addr_add, hc j hj]
  rw [ints, List.getElem?_map, List.getElem?_eq_getElem hj] at hp
  rw [List.getD_eq_getElem?_getD, List.getElem?_eq_getElem hj]
  injection hp with hp
  rw [← hp]; rfl
def digits : List Nat := [49, 50, 51, 52, 53, 54, 55, 56, 57]
def abc : List Nat := [97, 98, 99]
set_option maxHeartbeats 1000000 in
set_option maxRecDepth 100000 in
theorem lives_walk (w : World) : Calls Try.prog 18 #[] w fun e w' => e = .returned (.bool true) ∧ Below w.heap.size w w' := by
  have kc := fun (w : World) (C : Array Value) (n c : Nat) => Lib.run_convert_bytes_const (P := Try.prog) w 23 5 C n c Try.underlying23 Try.underlying5
  have hcrc : ∀ wz : World, (wz.heap[w.heap.size]? = some (.cells (nums .u8 (ints digits)).toArray 5 (9, 10))) → Calls Try.prog 19 #[.slice (some ⟨w.heap.size, 0, none⟩) 9 9] wz fun e w' => e = .returned (.int .u32 3808858755) ∧ Below wz.heap.size wz w' := fun wz hz =>
    (sum_Crc.calls 100 _ 9 (ints digits) 3808858755 wz (by rw [ints_length]; exact C_of_src (src_of_block hz) (by decide)) (by decide) (by
      have := crc_eq 100 digits (by simp [Bytes, digits]) (by decide) (by decide)
      rw [show ext 0 digits = 3808858755 from crc_digits] at this
      exact this)).mono (fun _ _ ⟨h1, n, h2⟩ => ⟨h1, by rw [h2]; exact pw_below_drewN (Below.refl _ _) n⟩)
  have hhash : ∀ (g : Nat) (wz : World), (wz.heap[g]? = some (.cells (nums .u8 (ints abc)).toArray 5 (3, 4))) → Calls Try.prog 24 #[.int .u64 0, .slice (some ⟨g, 0, none⟩) 3 3] wz fun e w' => e = .returned (.int .u64 4952883123889572249) ∧ Below wz.heap.size wz w' := fun g wz hz => by
    have := hash_walk 0 (by decide) (some ⟨g, 0, none⟩) 3 abc wz (src_of_block hz) (by decide) (by simp [Bytes, abc]) (by decide)
    rw [show hashN 0 abc = 4952883123889572249 from hash_abc] at this
    exact this
  have HC := Aside0.mk hcrc
  have HH := Aside0.mk hhash
  clear hcrc hhash
  go_enter Try.func18, Try.ntmps18
  go_wp2_with (first
    | (go_at_call 19; refine (HC.out _ (blk_new _ _)).mono ?_; rintro e w1 ⟨rfl, hb1⟩; have HB1 := Aside0.mk hb1; clear hb1)
    | (go_at_call 24; refine (HH.out _ _ (blk_new _ _)).mono ?_; rintro e w2 ⟨rfl, hb2⟩; have HB2 := Aside0.mk hb2; clear hb2))
  go_ret
  exact ⟨rfl, below_step (below_alloc (below_step (below_alloc (Below.refl _ w) _) HB1.out) _) HB2.out⟩
end Go.Proofs.Ytbnbpnnpbnpidaa.Hasher
namespace Go.Proofs.Ytbnbpnnpbnpidaa.Hasher
open Go.Proofs.Ytbnbpnnpbnpidaa.QSumHashes Hash Crc
set_option linter.unusedVariables false
set_option linter.unusedSimpArgs false
open Go.RowKit Go.Proofs.YtbnbpnnpbnpidaaW.PrintWords Go.Proofs.YtbnbpnnpbnpidaaW.PrintLast Go.Proofs.YtbnbpnnpbnpidaaW.PrintMore
theorem cells_of_C {k : IntKind} {w : World} {A : Option Addr} {n : Nat} {l : List Int} (h : Kd.C (Kd.int k) w A n l) (h0 : 0 < l.length) : ∃ ad, A = some ad ∧ ∀ j v, (nums k l)[j]? = some v → w.cell? (ad.add j) = some v := by
  obtain ⟨hl, _, hr⟩ := h
  obtain ⟨ad, rfl, hs⟩ := hr (by omega)
  refine ⟨ad, rfl, fun j v hj => ?_⟩
  rw [nums, List.getElem?_map] at hj
  obtain ⟨p, hp, rfl⟩ := Option.map_eq_some_iff.1 hj
  obtain ⟨c, _, hK, hcc⟩ := hs j p hp
  have hK' : c = [Value.int k p] := hK
  subst hK'
  have := hcc 0 (.int k p) rfl
  have e : j * (Kd.int k).sz + 0 = j := Nat.mul_one j
  rw [e] at this
  exact this
theorem run_append_of_nil {P : Program} (w : World) (base : Nat) (t ty e : TypeId) (i : TypeInfo) (size : Nat) (ht : P.underlying t = some (.slice e)) (hi : P.info? e = some i)
    (v : Value) (n : Nat) (xs : List Value) (hown : w.ownsRow base e size v n xs) (c : Nat) : (Builtin.append_ #[t, t] ty #[v, .slice none 0 c]).run P w = .ok v w := by
  rcases hown.2 with ⟨rfl, rfl⟩ | ⟨g, cap, cur, rfl, _, _, hnc, _⟩
  · simp [Builtin.append_, run_underlying ht, sizeOf, typeInfo, hi, Builtin.lenOf, Builtin.firstCells]
  · simp [Builtin.append_, run_underlying ht, sizeOf, typeInfo, hi, Builtin.lenOf, Builtin.firstCells, hnc, storeCells]
/-- append of a row that is read, where there is room. -/
theorem append_room {P : Program} {w : World} {ops : Array Oper} {rest : List Oper} {o : Oper} {a : Act} {Q : Exit → Act → World → Prop} (hgd : o.guard = none) (s x : Operand) (t : TypeId)
    (ho : o.op = .call { callee := .builtin .append, args := #[s, x], argTypes := #[t, t] })
    (base : Nat) (e : TypeId) (i : TypeInfo) (ht : P.underlying t = some (.slice e)) (hi : P.info? e = some i) (hsize : i.size = 1)
    (g n cap : Nat) (xs : List Value) (hs : a.eval s = .slice (some ⟨g, 0, none⟩) n cap) (hown : w.ownsRow base e 1 (.slice (some ⟨g, 0, none⟩) n cap) n xs)
    (k : IntKind) (A : Option Addr) (m c : Nat) (l : List Int) (hx : a.eval x = .slice A m c) (hm : l.length = m) (hr : Kd.C (Kd.int k) w A m l) (hroom : n + m ≤ cap)
    (h : ∀ w', w'.ownsRow base e 1 (.slice (some ⟨g, 0, none⟩) (n + m) cap) (n + m) (xs ++ nums k l) → w.grownBy w' (some g) → wpList P ops Q rest (a.put o.dst (.slice (some ⟨g, 0, none⟩) (n + m) cap)) w') :
    wpList P ops Q (o :: rest) a w := by
  subst hm
  rcases Nat.eq_zero_or_pos l.length with h0 | h0
  · obtain rfl : l = [] := List.eq_nil_of_length_eq_zero h0
    rcases A with _ | ad
    · refine wpList_plain hgd fun K hK => ?_
      have hrun := run_append_of_nil w base t o.type e i 1 ht hi _ n xs hown c
      unfold Oper.wp
      have hx' : a.eval x = .slice none 0 c := hx
      simp [execOp, ho, resolve, invoke, builtin, hs, hx', hrun, Result.andThen]
      have := h w (by simpa [nums] using hown) ⟨rfl, rfl, rfl, Nat.le_refl _, fun _ _ _ => rfl⟩
      exact hK _ _ (by simpa using this)
    · exact wpList_append_own_spare w hgd s x t ho base e i 1 ht hi hsize g n cap xs hs hown ad 0 c (nums k []) hx (by simp [nums]) (fun j u hu => by simp [nums] at hu) (fun u hu => by simp [nums] at hu) (by simpa using hroom) (by simpa using h)
  · obtain ⟨ad, rfl, hcell⟩ := cells_of_C hr h0
    exact wpList_append_own_spare w hgd s x t ho base e i 1 ht hi hsize g n cap xs hs hown ad l.length c (nums k l) hx (by rw [nums_length, Nat.mul_one]) hcell (fun u hu => by obtain ⟨y, _, rfl⟩ := List.mem_map.1 hu; rfl) hroom h
theorem make_room (n : Int) (h0 : 0 ≤ n) (h : n ≤ 281474976710656) (W : World) : (Instr.makeSlice 23 (.int .i64 0) (.int .i64 n)).run Try.prog W = .ok (.slice (some ⟨W.heap.size, 0, none⟩) 0 n.toNat) (W.alloc (.cells (nums .u8 (List.replicate n.toNat 0)).toArray 5)) := by
  obtain ⟨i0, hi, hz0, hz1, hz2⟩ := info_parts (show (Try.prog.info? 5).map (fun i => (i.zero, i.size, i.bytes)) = some (some (.int .u8 0), 1, 1) by kernel_rfl)
  have := run_make (P := Try.prog) W 23 5 i0 (.int .u8 0) Try.underlying23 hi hz0 .i64 .i64 0 n (by omega) (by omega) (by rw [hz2]; omega) (by omega)
  rw [this, hz1]
  congr 3
  apply Array.toList_inj.1
  simp [madeCells, nums, Value.cells]
  rw [List.eq_replicate_iff]
  refine ⟨by simp, fun b hb => ?_⟩
  obtain ⟨x, _, rfl⟩ := List.mem_map.1 hb
  simp [Nat.mod_one]
set_option maxHeartbeats 2000000 in
set_option maxRecDepth 100000 in
theorem joined_walk (A B : Option Addr) (c d : Nat) (x y : List Int) (w : World) (hA : Kd.C (Kd.int .u8) w A x.length x) (hc : x.length ≤ c) (hB : Kd.C (Kd.int .u8) w B y.length y) (hd : y.length ≤ d) (hxy : x.length + y.length ≤ 281474976710656) :
    Calls Try.prog 17 #[.slice A x.length c, .slice B y.length d] w fun e w' => ∃ v, e = .returned v ∧ w'.ownsRow w.heap.size 5 1 v (x.length + y.length) (nums .u8 (x ++ y)) ∧ Below w.heap.size w w' := by
  obtain ⟨i0, hi, hz0, hz1, hz2⟩ := info_parts (show (Try.prog.info? 5).map (fun i => (i.zero, i.size, i.bytes)) = some (some (.int .u8 0), 1, 1) by kernel_rfl)
  have hmk := make_room ((x.length : Int) + (y.length : Int)) (by omega) (by omega)
  have htn : ((x.length : Int) + (y.length : Int)).toNat = x.length + y.length := by omega
  rw [htn] at hmk
  have s1 : (x.length : Int) + (y.length : Int) ≤ 281474976710656 := by omega
  have s0 : (0 : Int) ≤ (x.length : Int) := by omega
  have s2 : (0 : Int) ≤ (y.length : Int) := by omega
  have HA := Aside0.mk hA
  have HB := Aside0.mk hB
  have HI := Aside0.mk hi
  have HZ := Aside0.mk hz1
  have HXY := Aside0.mk hxy
  clear hA hB hi hz0 hz1 hz2 hxy htn
  go_enter Try.func17, Try.ntmps17
  have hown : (w.alloc (.cells (nums .u8 (List.replicate (x.length + y.length) 0)).toArray 5)).ownsRow w.heap.size 5 1 (.slice (some ⟨w.heap.size, 0, none⟩) 0 (x.length + y.length)) 0 [] :=
    World.ownsRow_made w _ _ (Nat.le_refl _) (by have := HXY.out; unfold maxLen; omega) (by rw [List.size_toArray, nums_length, List.length_replicate, Nat.mul_one])
  have HO := Aside0.mk hown
  clear hown
  go_wp2_with (first
    | ((with_reducible refine gate_dst (N := 14) rfl ?_); (refine append_room rfl (.tmp 12) (.tmp 13) 23 rfl w.heap.size 5 i0 Try.underlying23 HI.out HZ.out w.heap.size 0 (x.length + y.length) [] rfl HO.out .u8 A x.length c x rfl rfl (Kd.C_alloc HA.out _) (by omega) ?_);
       intro w1 ho1 hg1; rw [Nat.zero_add, List.nil_append] at ho1; have HO1 := Aside0.mk ho1; have HG1 := Aside0.mk (Below.grown (below_alloc (Below.refl _ w) _) hg1 (by simp) (fun k hk => by injection hk with hk; omega)); clear ho1 hg1)
    | ((with_reducible refine gate_dst (N := 17) rfl ?_); (refine append_room rfl (.tmp 15) (.tmp 16) 23 rfl w.heap.size 5 i0 Try.underlying23 HI.out HZ.out w.heap.size x.length (x.length + y.length) (nums .u8 x) (by first | rfl | simp [go_sem]) HO1.out .u8 B y.length d y rfl rfl (Kd.C_below HB.out HG1.out) (by omega) ?_);
       intro w2 ho2 hg2; have HO2 := Aside0.mk ho2; have HG2 := Aside0.mk (Below.grown HG1.out hg2 HG1.out.size (fun k hk => by injection hk with hk; omega)); clear ho2 hg2))
  go_ret
  exact ⟨_, rfl, by rw [show nums .u8 (x ++ y) = nums .u8 x ++ nums .u8 y by simp [nums]]; exact HO2.out, HG2.out⟩
end Go.Proofs.Ytbnbpnnpbnpidaa.Hasher
namespace Go.Proofs.Ytbnbpnnpbnpidaa.Hasher
open Go.Proofs.Ytbnbpnnpbnpidaa.QSumHashes Hash Crc
set_option linter.unusedVariables false
set_option linter.unusedSimpArgs false
open Go.RowKit Go.Proofs.YtbnbpnnpbnpidaaW.PrintWords Go.Proofs.YtbnbpnnpbnpidaaW.PrintLast Go.Proofs.YtbnbpnnpbnpidaaW.PrintMore
theorem nats_of (l : List Int) (h : ∀ x ∈ l, 0 ≤ x ∧ x < 256) : ∃ b : List Nat, l = ints b ∧ Bytes b ∧ l.map Int.toNat = b := by
  refine ⟨l.map Int.toNat, ?_, ?_, rfl⟩
  · unfold ints
    rw [List.map_map]
    refine (List.map_id l).symm.trans (List.map_congr_left fun x hx => ?_)
    have := h x hx
    simp only [Function.comp, id]; omega
  · intro b hb
    obtain ⟨x, hx, rfl⟩ := List.mem_map.1 hb
    have := h x hx
    omega
theorem hash_ints (a0 : Int) (h0 : 0 ≤ a0) (h1 : a0 < 18446744073709551616) (A : Option Addr) (c : Nat) (l : List Int) (w : World) (hC : Kd.C (Kd.int .u8) w A l.length l) (hc : l.length ≤ c) (hl : ∀ x ∈ l, 0 ≤ x ∧ x < 256) (hn : l.length < 4611686018427387904) :
    Calls Try.prog 24 #[.int .u64 a0, .slice A l.length c] w fun e w' => e = .returned (.int .u64 ((hashN a0.toNat (l.map Int.toNat) : Nat) : Int)) ∧ Below w.heap.size w w' := by
  obtain ⟨b, rfl, hb, hm⟩ := nats_of l hl
  rw [hm]
  rw [ints_length] at *
  obtain ⟨n, rfl⟩ := Int.eq_ofNat_of_zero_le h0
  rw [Int.toNat_natCast]
  exact hash_walk n (by omega) A c b w (src_of_C hC) hc hb hn
end Go.Proofs.Ytbnbpnnpbnpidaa.Hasher
