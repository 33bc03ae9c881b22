/- The call of SumStreams: true, whatever the arguments; and the facts that it rests on.
   No condition. -/
import Derived.Test.YtbnbpnnpbnpidaaRHash
import Derived.Test.YtbnbpnnpbnpidaaSame
namespace Go.Proofs.Ytbnbpnnpbnpidaa.RSumStreams
open Go.Proofs.Ytbnbpnnpbnpidaa.QSumHashes Hash Crc Hasher
open Go.RowKit Go.Proofs.YtbnbpnnpbnpidaaW.PrintWords Go.Proofs.YtbnbpnnpbnpidaaW.PrintLast Go.Proofs.YtbnbpnnpbnpidaaW.PrintMore
set_option linter.unusedVariables false
set_option linter.unusedSimpArgs false
theorem hcells_one (seed : Int) (lanes left : List Int) (kept total : Int) : (hcells seed lanes left kept total).toArray.all (·.oneCell') = true := by
  rw [List.all_toArray, List.all_eq_true]
  intro v hv
  unfold hcells at hv
  simp only [List.mem_cons, List.mem_append, List.not_mem_nil, or_false] at hv
  rcases hv with rfl | h | h | rfl | rfl
  · rfl
  · obtain ⟨x, _, rfl⟩ := List.mem_map.1 h; rfl
  · obtain ⟨x, _, rfl⟩ := List.mem_map.1 h; rfl
  · rfl
  · rfl
set_option maxHeartbeats 1000000 in
set_option maxRecDepth 100000 in
theorem copy_walk (g seed : Nat) (all : List Nat) (w : World) (hH : HAt w g seed all) :
    Calls Try.prog 30 #[.pointer (some ⟨g, 0, none⟩)] w fun e w' => e = .returned (.pointer (some ⟨w.heap.size, 0, none⟩)) ∧ HAt w' w.heap.size seed all ∧ Below w.heap.size w w' := by
  obtain ⟨lanes, left, kept, hS, hB⟩ := hH
  have h1 := hcells_one (seed : Int) (ints lanes) (ints left) (kept : Int) (all.length : Int)
  have h2 : (hcells (seed : Int) (ints lanes) (ints left) (kept : Int) (all.length : Int)).toArray.size = 39 := by rw [List.size_toArray, hcells_length (by rw [ints_length, hS.l4]) (by rw [ints_length, hS.l32])]
  have hfin : ∀ w', w'.heap[w.heap.size]? = some (.cells (hcells (seed : Int) (ints lanes) (ints left) (kept : Int) (all.length : Int)).toArray 65 (0, 0)) → HAt w' w.heap.size seed all := fun w' h => ⟨lanes, left, kept, hS, h⟩
  unfold HB at hB
  obtain ⟨cs, hcs⟩ : ∃ cs, (hcells (seed : Int) (ints lanes) (ints left) (kept : Int) (all.length : Int)).toArray = cs := ⟨_, rfl⟩
  rw [hcs] at h1 h2 hB
  rw [hcs] at hfin
  have HB1 := Aside0.mk hB
  have H1 := Aside0.mk h1
  have H2 := Aside0.mk h2
  have HFIN := Aside0.mk hfin
  clear hS hB hcs h1 h2 hfin lanes left kept
  go_enter Try.func30, Try.ntmps30
  go_wp2_with (first
    | (refine wpList_load_row rfl 65 (.tmp 7) rfl g rfl 65 cs (0, 0) _ HB1.out Try.underlying65 rfl (by rw [H2.out]; kernel_rfl) ?_)
    | (refine wpList_store_row rfl 65 (.tmp 3) (.tmp 8) rfl w.heap.size cs rfl rfl 65 _ (heap_alloc_new _ _) (by rw [H2.out]; kernel_rfl) (by rw [H2.out]; rfl) H1.out ?_))
  go_ret
  exact ⟨rfl, HFIN.out _ (setRow_heap _ _ _ _ _ _ (heap_alloc_new _ _)), Below.grown (below_alloc (Below.refl _ w) _) ⟨rfl, rfl, rfl, by simp, fun k _ hk => setRow_other _ _ k _ (fun e => hk (by rw [e]))⟩ (by simp) (fun k hk => by injection hk with hk; omega)⟩
theorem own_src {w : World} {base n : Nat} {e : TypeId} {v : Value} {l : List Nat} (h : w.ownsRow base e 1 v n (nums .u8 (ints l))) : ∃ A c, v = .slice A n c ∧ l.length = n ∧ n ≤ c ∧ Src w A l := by
  obtain ⟨hl, h2⟩ := h
  rw [nums_length, ints_length, Nat.mul_one] at hl
  rcases h2 with ⟨rfl, h0⟩ | ⟨g, cap, cur, rfl, _, hg, hn, _, _, ht⟩
  · subst h0
    exact ⟨none, 0, rfl, hl, Nat.le_refl _, fun h => absurd h (by omega)⟩
  · refine ⟨_, _, rfl, hl, hn, fun _ => ⟨g, 0, rfl, fun j hj => ?_⟩⟩
    rw [cell_of_row w g (0 + j) _ e _ hg, Nat.zero_add]
    have h3 : (cur.toList.take (n * 1))[j]? = some (.int .u8 ((l.getD j 0 : Nat) : Int)) := by
      rw [ht, nums, ints, List.getElem?_map, List.getElem?_map, List.getElem?_eq_getElem hj, List.getD_eq_getElem?_getD, List.getElem?_eq_getElem hj]; rfl
    rw [List.getElem?_take_of_lt (by omega)] at h3
    rw [← Array.getElem?_toList]; exact h3
abbrev Row3 := (Kd.pair (Kd.slice 5 (Kd.int .u8)) (Kd.pair Kd.bool Kd.bool) : Kd (List Int × (Bool × Bool)))
abbrev RA (w : World) (b : Nat) (v : Value) (l : List Nat) : Prop := (Kd.int .u8).R 5 w b (fun _ => True) v (ints l)
theorem ra_write {w w1 : World} {g b : Nat} {v : Value} {l : List Nat} (h : RA w b v l) (hH : ∃ cs, w.heap[g]? = some (.cells cs 65 (0, 0))) (hg : w.grownBy w1 (some g)) : RA w1 b v l := by
  obtain ⟨cs, hb⟩ := hH
  exact Kd.R_mono (Kd.R_grown (Kd.R_types h hb (by intro q hq; simp [Kd.int, Kd.scalar] at hq; omega)) hg (fun k hk e => hk.2 (by injection e))) (fun _ _ => trivial)
theorem hat_block {w : World} {g seed : Nat} {all : List Nat} (h : HAt w g seed all) : ∃ cs, w.heap[g]? = some (.cells cs 65 (0, 0)) := by
  obtain ⟨lanes, left, kept, hS, hB⟩ := h
  exact ⟨_, hB⟩
theorem hat_grown {w w1 : World} {g seed : Nat} {all : List Nat} {row : Option Nat} (h : HAt w g seed all) (hg : w.grownBy w1 row) (hne : some g ≠ row) : HAt w1 g seed all := by
  obtain ⟨lanes, left, kept, hS, hB⟩ := h
  exact ⟨lanes, left, kept, hS, blk_grown hB hg hne⟩
theorem ra_src {w : World} {b : Nat} {v : Value} {l : List Nat} (h : RA w b v l) : ∃ A c, v = .slice A l.length c ∧ l.length ≤ c ∧ Src w A l := by
  obtain ⟨A, c, rfl, hc, hC⟩ := Kd.R_reads h
  rw [ints_length] at hC hc
  exact ⟨A, c, by rw [ints_length], hc, src_of_C hC⟩
theorem ra_ne {w : World} {b g : Nat} {v : Value} {l : List Nat} (h : RA w b v l) (hH : ∃ cs, w.heap[g]? = some (.cells cs 65 (0, 0))) : some g ≠ v.ownBlock := by
  obtain ⟨cs, hb⟩ := hH
  exact Kd.R_ne h hb (by decide)
theorem own_ne_hat {w : World} {b g n s : Nat} {v : Value} {xs : List Value} (h : w.ownsRow b 5 s v n xs) (hH : ∃ cs, w.heap[g]? = some (.cells cs 65 (0, 0))) : some g ≠ v.ownBlock := by
  obtain ⟨cs, hb⟩ := hH
  exact own_ne h hb (by decide)
theorem C_lt {α : Type} {d : Kd α} {W : World} {A : Option Addr} {n : Nat} {xs : List α} (h : d.C W A n xs) (i : Nat) (p : α) (hp : xs[i]? = some p) : ∃ ad c, A = some ad ∧ c.length = d.sz ∧ d.K W p c ∧ ∀ j u, c[j]? = some u → W.cell? (ad.add (i * d.sz + j)) = some u := by
  obtain ⟨hl, _, hr⟩ := h
  have := (List.getElem?_eq_some_iff.1 hp).1
  obtain ⟨ad, rfl, hs⟩ := hr (by omega)
  obtain ⟨c, h1, h2, h3⟩ := hs i p hp
  exact ⟨ad, c, rfl, h1, h2, h3⟩
theorem el {W : World} {A : Option Addr} {n : Nat} {M : List (List Nat × (Bool × Bool))} (h : Row3.C W A n (M.map fun x => (ints x.1, x.2))) (i : Nat) (hi : i < M.length) :
    ∃ b o m p q A' c', A = some ⟨b, o, none⟩ ∧ M[i]? = some (m, p, q) ∧ W.cell? ⟨b, o + i * 3, none⟩ = some (.slice A' m.length c') ∧ W.cell? ⟨b, o + i * 3 + 1, none⟩ = some (.bool p) ∧ W.cell? ⟨b, o + i * 3 + 2, none⟩ = some (.bool q) ∧ m.length ≤ c' ∧ Src W A' m ∧ Kd.C (Kd.int .u8) W A' m.length (ints m) := by
  obtain ⟨⟨m, p, q⟩, hm⟩ : ∃ x, M[i]? = some x := ⟨_, List.getElem?_eq_getElem hi⟩
  obtain ⟨ad, c, rfl, h1, ⟨c0, c1, rfl, ⟨A', c', rfl, hc, hC⟩, c2, c3, rfl, h2, h3⟩, h4⟩ := C_lt h i (ints m, p, q) (by rw [List.getElem?_map, hm]; rfl)
  obtain rfl : c2 = [.bool p] := h2
  obtain rfl : c3 = [.bool q] := h3
  have k0 : W.cell? (ad.add (i * 3 + 0)) = _ := h4 0 _ rfl
  have k1 : W.cell? (ad.add (i * 3 + 1)) = _ := h4 1 _ rfl
  have k2 : W.cell? (ad.add (i * 3 + 2)) = _ := h4 2 _ rfl
  rw [ints_length] at k0 hc hC
  obtain ⟨b, o, sp⟩ := ad
  have hsp : sp = none := by
    obtain ⟨⟨m0, p0⟩, hm0⟩ : ∃ x, M[0]? = some x := ⟨_, List.getElem?_eq_getElem (by omega)⟩
    obtain ⟨ad, c, e, _, ⟨c0, c1, rfl, ⟨A0, c0', rfl, _, _⟩, _⟩, h6⟩ := C_lt h 0 (ints m0, p0) (by rw [List.getElem?_map, hm0]; rfl)
    injection e with e
    subst e
    have k := h6 0 _ rfl
    rw [Nat.zero_mul] at k
    cases sp with
    | none => rfl
    | some s => simp [World.cell?, Addr.add] at k; split at k <;> simp at k
  subst hsp
  rw [addr_add] at k0 k1 k2
  exact ⟨b, o, m, p, q, A', c', rfl, hm, k0, by rw [Nat.add_assoc]; exact k1, by rw [Nat.add_assoc]; exact k2, hc, src_of_C hC, hC⟩
def cat (M : List (List Nat × (Bool × Bool))) : List Nat := (M.map (·.1)).flatten
theorem cat_succ (M : List (List Nat × (Bool × Bool))) (i : Nat) (m : List Nat) (x : Bool × Bool) (h : M[i]? = some (m, x)) : cat (M.take (i + 1)) = cat (M.take i) ++ m := by
  unfold cat
  rw [List.take_add_one, h]; simp
theorem cat_len (M : List (List Nat × (Bool × Bool))) (h : ∀ x ∈ M, x.1.length ≤ 1048576) : (cat M).length ≤ M.length * 1048576 := by
  unfold cat
  induction M with
  | nil => simp
  | cons x r ih =>
    have h1 := h x (List.mem_cons_self ..)
    have h2 := ih (fun y hy => h y (List.mem_cons_of_mem _ hy))
    simp only [List.map_cons, List.flatten_cons, List.length_append, List.length_cons]; omega
theorem cat_bytes (M : List (List Nat × (Bool × Bool))) (h : ∀ x ∈ M, Bytes x.1) : Bytes (cat M) := by
  intro b hb
  obtain ⟨l, hl, hbl⟩ := List.mem_flatten.1 hb
  obtain ⟨x, hx, rfl⟩ := List.mem_map.1 hl
  exact h x hx b hbl
def other : List Nat := [111, 116, 104, 101, 114]
theorem write_other (g seed : Nat) (D : List Nat) (w : World) (hH : HAt w g seed D) (hn : D.length + 5 < 4611686018427387904) :
    Calls Try.prog 31 #[.pointer (some ⟨g, 0, none⟩), .slice (some ⟨w.heap.size, 0, none⟩) 5 5] (w.alloc (.cells #[.int .u8 111, .int .u8 116, .int .u8 104, .int .u8 101, .int .u8 114] 5 (5, 6))) fun e w' => e = .returned (.tuple #[]) ∧ (w.alloc (.cells #[.int .u8 111, .int .u8 116, .int .u8 104, .int .u8 101, .int .u8 114] 5 (5, 6))).grownBy w' (some g) := by
  have hlt := hH.lt
  refine (write_walk g seed D other (some ⟨w.heap.size, 0, none⟩) 5 _ (hH.below (below_alloc (Below.refl _ _) _)) (src_of_block (t := 5) (fz := (5, 6)) (blk_new _ _)) (by decide) (fun _ ad e => by injection e with e; subst e; show w.heap.size ≠ g; omega) (by simp [Bytes, other]) (by show D.length + 5 < _; omega)).mono ?_
  rintro e w' ⟨h1, _, h3⟩
  exact ⟨h1, h3⟩
theorem joined_own (A : Option Addr) (c : Nat) (l : List Nat) (w : World) (hC : Src w A l) (hc : l.length ≤ c) (hl : l.length ≤ 281474976710656) :
    Calls Try.prog 17 #[.slice A l.length c, .slice none 0 0] w fun e w' => (∃ A' c', e = .returned (.slice A' l.length c') ∧ l.length ≤ c' ∧ Src w' A' l ∧ w'.ownsRow w.heap.size 5 1 (.slice A' l.length c') l.length (nums .u8 (ints l))) ∧ Below w.heap.size w w' := by
  have h := joined_walk A none c 0 (ints l) [] w (by rw [ints_length]; exact C_of_src hC (by omega)) (by rw [ints_length]; exact hc) ⟨rfl, by decide, fun h => absurd h (by decide)⟩ (Nat.zero_le _) (by rw [ints_length]; simpa using hl)
  rw [ints_length] at h
  refine h.mono ?_
  rintro e w' ⟨v, rfl, ho, hb⟩
  rw [List.append_nil] at ho
  obtain ⟨A', c', rfl, _, h2, h3⟩ := own_src ho
  exact ⟨⟨A', c', rfl, h2, h3, ho⟩, hb⟩
/-- The cells of a row of one's own, whatever they hold. -/
def OB (w : World) (A : Option Addr) (n : Nat) : Prop := 0 < n → ∃ x cs, A = some ⟨x, 0, none⟩ ∧ w.heap[x]? = some (.cells cs 5 (0, 0)) ∧ ∀ j, j < n → ∃ z, cs[j]? = some (.int .u8 z)
theorem ob_of {w : World} {b n c : Nat} {A : Option Addr} {l : List Int} (h : w.ownsRow b 5 1 (.slice A n c) n (nums .u8 l)) : OB w A n := by
  intro h0
  obtain ⟨hl, ⟨_, h1⟩ | ⟨g, cap, cur, e, _, hg, hn, _, _, ht⟩⟩ := h
  · omega
  · injection e with e1 e2 e3
    refine ⟨g, cur, e1, hg, fun j hj => ?_⟩
    rw [nums_length, Nat.mul_one] at hl
    have h3 : (cur.toList.take (n * 1))[j]? = some (.int .u8 (l[j]'(by omega))) := by
      rw [ht, nums, List.getElem?_map, List.getElem?_eq_getElem (by omega)]; rfl
    rw [List.getElem?_take_of_lt (by omega)] at h3
    exact ⟨_, by rw [← Array.getElem?_toList]; exact h3⟩
theorem ob_set {w : World} {x n j : Nat} {cs : Array Value} (hh : w.heap[x]? = some (.cells cs 5 (0, 0))) (hz : ∀ j, j < n → ∃ z, cs[j]? = some (.int .u8 z)) (y : Int) : OB (w.setCell ⟨x, j, none⟩ (.int .u8 y)) (some ⟨x, 0, none⟩) n := by
  intro _
  refine ⟨x, _, rfl, blk_set hh j _, fun k hk => ?_⟩
  obtain ⟨z, h⟩ := hz k hk
  by_cases e : j = k
  · subst e
    have := (Array.getElem?_eq_some_iff.1 h).1
    exact ⟨y, by rw [Array.getElem?_setIfInBounds_self_of_lt this]⟩
  · exact ⟨z, by rw [Array.getElem?_setIfInBounds_ne e]; exact h⟩
theorem ra_src_ok {w : World} {b : Nat} {ok : Nat → Prop} {v : Value} {l : List Nat} (h : (Kd.int .u8).R 5 w b ok v (ints l)) : ∃ A c, v = .slice A l.length c ∧ l.length ≤ c := by
  obtain ⟨A, c, rfl, hc, hC⟩ := Kd.R_reads h
  rw [ints_length] at hc
  exact ⟨A, c, by rw [ints_length], hc⟩
theorem ra_at {w : World} {b : Nat} {ok : Nat → Prop} {A : Option Addr} {n c : Nat} {l : List Nat} (h : (Kd.int .u8).R 5 w b ok (.slice A n c) (ints l)) : Src w A l := by
  obtain ⟨A', c', e, hc, hC⟩ := Kd.R_reads h
  injection e with e1 e2 e3
  subst e1
  rw [ints_length] at hC
  exact src_of_C hC
theorem rows_of (l : List (List Int × (Bool × Bool))) (h : ∀ x ∈ l, ∀ b ∈ x.1, (Lit.int .u8 b).wf = true) : ∃ M : List (List Nat × (Bool × Bool)), l = M.map (fun x => (ints x.1, x.2)) ∧ ∀ x ∈ M, Bytes x.1 := by
  induction l with
  | nil => exact ⟨[], rfl, by simp⟩
  | cons x r ih =>
    obtain ⟨M, e, hM⟩ := ih (fun y hy => h y (List.mem_cons_of_mem _ hy))
    obtain ⟨b, e1, hb⟩ := nats_wf x.1 (h x (List.mem_cons_self ..))
    refine ⟨(b, x.2) :: M, by rw [List.map_cons, ← e, ← e1], fun y hy => ?_⟩
    rcases List.mem_cons.1 hy with rfl | hy
    · exact hb
    · exact hM y hy
set_option maxHeartbeats 1000000 in
set_option maxRecDepth 100000 in
theorem law (seed : Nat) (hs : seed < 18446744073709551616) (A1 : Option Addr) (c1 : Nat) (M : List (List Nat × (Bool × Bool))) (W : World) (hC : Row3.C W A1 M.length (M.map fun x => (ints x.1, x.2))) (hc : M.length ≤ c1) (hb : ∀ x ∈ M, Bytes x.1) (hm : ∀ x ∈ M, x.1.length ≤ 1048576) (hn : M.length ≤ 1048576) :
    Calls Try.prog 9 #[.int .u64 (seed : Int), .slice A1 M.length c1] W fun e w' => e = .returned (.bool true) ∧ Below W.heap.size W w' := by
  have HC := Aside0.mk hC
  have HCC := Aside0.mk hc
  have HB := Aside0.mk hb
  have HM := Aside0.mk hm
  have HN := Aside0.mk hn
  have HS := Aside0.mk hs
  clear hC hc hb hm hn hs
  have kc := fun (w : World) (C : Array Value) (n c : Nat) => Lib.run_convert_bytes_const (P := Try.prog) w 23 5 C n c Try.underlying23 Try.underlying5
  go_enter Try.func9, Try.ntmps9
  go_wp2_with (first
    | (go_at_call 18; refine (Hasher.lives_walk W).mono ?_; rintro e w1 ⟨rfl, hbw⟩; have B1 := Aside0.mk hbw; clear hbw)
    | (go_at_call 29; refine (hat_new w1 seed).mono ?_; rintro e w2 ⟨rfl, hhat, hbw⟩; have HAT := Aside0.mk hhat; have B2 := Aside0.mk (below_step B1.out hbw); have HG0 := Aside0.mk (show W.heap.size ≤ w1.heap.size from B1.out.size); clear hbw hhat))
  go_loopw [5, 6, 7] (fun h a i wr => ∃ k g : Nat, k ≤ M.length ∧ i = .int .i64 (k : Int) ∧ h = .pointer (some ⟨g, 0, none⟩) ∧ Aside0 (HAt wr g seed (cat (M.take k))) ∧ Aside0 (W.heap.size ≤ g) ∧ Aside0 (RA wr W.heap.size a (cat (M.take k))) ∧ Aside0 (Below W.heap.size W wr)) (fun _ _ i _ => M.length - (intOf i).toNat)
  case atStart => exact ⟨0, w1.heap.size, Nat.zero_le _, rfl, rfl, HAT, HG0, ⟨Kd.R_nil _ _ _ _ _⟩, B2⟩
  case round =>
  clear HAT HG0 B1 B2
  obtain ⟨k, g, hk, rfl, rfl, HAT, HG, HRA, HBW⟩ := hrel
  obtain ⟨D, hD⟩ : ∃ D, cat (M.take k) = D := ⟨_, rfl⟩
  rw [hD] at HAT HRA
  have HDL : Aside0 (D.length ≤ k * 1048576) := ⟨by
    rw [← hD]; have := cat_len (M.take k) (fun x hx => HM.out x (List.mem_of_mem_take hx)); rw [List.length_take, Nat.min_eq_left hk] at this; exact this⟩
  have HDB : Aside0 (Bytes D) := ⟨by rw [← hD]; exact cat_bytes _ (fun x hx => HB.out x (List.mem_of_mem_take hx))⟩
  have HD := Aside0.mk hD
  clear hD
  have HNN := HN.out
  by_cases hlt : k < M.length
  · obtain ⟨b, o, m, p, q, A', c', rfl, hMk, e0, e1, e2, hc', hsrc, hCm⟩ := el HC.out k hlt
    have HMB : Aside0 (Bytes m) := ⟨HB.out _ (List.mem_of_getElem? hMk)⟩
    have HML : Aside0 (m.length ≤ 1048576) := ⟨HM.out _ (List.mem_of_getElem? hMk)⟩
    have HNX : Aside0 (cat (M.take (k + 1)) = D ++ m) := ⟨by rw [cat_succ M k m _ hMk, HD.out]⟩
    have HE0 := Aside0.mk e0
    have e0 := pw_cell_below HBW.out e0
    have e1 := pw_cell_below HBW.out e1
    have HE2 := Aside0.mk e2
    have HSRC := Aside0.mk hsrc
    have HCM := Aside0.mk hCm
    have HC' := Aside0.mk hc'
    have b0 : (0 : Int) ≤ (k : Int) := by omega
    have b1 : (k : Int) < (M.length : Int) := by omega
    have b2 : (k : Int).toNat = k := by omega
    clear e2 hsrc hCm hc' hMk
    cases p
    case true =>
      have hgl : g < wr.heap.size := HAT.out.lt
      go_wp2_with (first
        | (go_at_call 30; refine (copy_walk g seed D wr HAT.out).mono ?_; rintro e wc ⟨rfl, hhat, hbw⟩; have HAT1 := Aside0.mk hhat; have BW1 := Aside0.mk (below_step HBW.out hbw); have HAO := Aside0.mk (HAT.out.below hbw); have HRA1 := Aside0.mk (Kd.R_below HRA.out hbw); have HGW := Aside0.mk (show W.heap.size ≤ wr.heap.size from HBW.out.size); clear hbw hhat)
        | (go_at_call 31; refine (write_other g seed D wc HAO.out (by have := HDL.out; omega)).mono ?_; rintro e wX ⟨rfl, hg⟩;
           have HATX := Aside0.mk (hat_grown (HAT1.out.below (below_alloc (Below.refl _ _) _)) hg (fun e => by injection e; omega));
           have HRAX : Aside0 (RA wX W.heap.size u6 D) := ⟨ra_write (Kd.R_below HRA1.out (below_alloc (Below.refl _ _) _)) (hat_block (HAO.out.below (below_alloc (Below.refl _ _) _))) hg⟩;
           have HBX := Aside0.mk (Below.grown (below_alloc BW1.out _) hg (below_alloc BW1.out _).size (fun k hk => by injection hk with hk; have := HG.out; omega)); have e0X := pw_cell_below HBX.out HE0.out; clear hg)
      )
      obtain ⟨gX, hgX⟩ : ∃ x, x = wr.heap.size := ⟨_, rfl⟩
      rw [← hgX] at HATX HGW ⊢
      clear hgX
      refine (joined_own A' c' m wX (HSRC.out.below HBX.out) HC'.out (by have := HML.out; omega)).mono ?_
      rintro e w4 ⟨⟨Ao, co, rfl, hco, hso, hown⟩, hbw⟩
      have HB4 := Aside0.mk (below_step HBX.out hbw)
      have HAT4 := Aside0.mk (HATX.out.below hbw)
      have HCO := Aside0.mk hco
      have HSO := Aside0.mk hso
      have HOWN := Aside0.mk hown
      have HGL := Aside0.mk HATX.out.lt
      have HRA4 : Aside0 ((Kd.int .u8).R 5 w4 W.heap.size (fun k => some k ≠ (Value.slice Ao m.length co).ownBlock) u6 (ints D)) := ⟨Kd.R_below (Kd.R_mono (Kd.R_bound HRAX.out) (fun k h e => by have h1 := own_base hown k e.symm; have h2 := h.2.2.1; omega)) hbw⟩
      clear hbw hco hso hown
      go_wp2_with fail
      refine (write_walk gX seed D m Ao co w4 HAT4.out HSO.out HCO.out (fun h0 ad e => by subst e; intro e2; have := own_base HOWN.out ad.block rfl; have := HGL.out; omega) HMB.out (by have := HDL.out; have := HML.out; omega)).mono ?_
      rintro e w5 ⟨rfl, hhat, hg⟩
      have HB5 := Aside0.mk (Below.grown HB4.out hg HB4.out.size (fun k hk => by injection hk with hk; have := HGW.out; omega))
      have HAT5 := Aside0.mk hhat
      have HOWN5 := Aside0.mk (own_other HOWN.out hg (Or.inr (own_ne_hat HOWN.out (hat_block HAT4.out)).symm))
      have HRA5 : Aside0 ((Kd.int .u8).R 5 w5 W.heap.size (fun k => some k ≠ (Value.slice Ao m.length co).ownBlock) u6 (ints D)) := ⟨by
        obtain ⟨cs, hcs⟩ := hat_block HAT4.out
        exact Kd.R_mono (Kd.R_grown (Kd.R_types HRA4.out hcs (by intro q hq; simp [Kd.int, Kd.scalar] at hq; omega)) hg (fun k hk e => hk.2 (by injection e))) (fun _ h => h.1)⟩
      have e0Y := pw_cell_below HB5.out HE0.out
      clear hhat hg
      go_wp2_with (first
       | ((with_reducible refine gate_dst (N := 52) rfl ?_); (refine Kd.R_append_rows (Kd.int .u8) (Rr := (Kd.int .u8).K w5) (w0 := W) W.heap.size rfl (.tmp 46) (.tmp 51) 23 5 (.int .u8 0) 1 rfl Try.underlying23 (by kernel_rfl) rfl (by decide) (by decide) u6 (ints D) (ints m) A' m.length c' (fun k => some k ≠ (Value.slice Ao m.length co).ownBlock) (fun _ => False) rfl rfl HRA5.out (Kd.C_below HCM.out HB5.out) (fun _ _ h => h) (fun _ h => h.elim) (fun k hk e => by have := own_lt HOWN5.out k e.symm; omega) HB5.out HB5.out.size (by rw [ints_length]; have := HDL.out; have := HML.out; omega) ?_);
          intro v6 w6 hr6 hb6 hg6 hat6;
          have HAT6 := Aside0.mk (hat_grown HAT5.out hg6 (by obtain ⟨cs, hcs⟩ := hat_block HAT5.out; exact Kd.R_ne HRA5.out hcs (by decide)));
          have HOWN6 := Aside0.mk (own_other HOWN5.out hg6 (by
            cases hob : (Value.slice Ao m.length co).ownBlock with
            | none => exact Or.inl rfl
            | some x => exact Or.inr (fun e => HRA5.out.1 x e.symm hob.symm)));
          have HR6 := Aside0.mk hr6; have HB6 := Aside0.mk hb6; clear hr6 hb6 hg6 hat6))
      obtain ⟨D1, hD1⟩ : ∃ x, x = D ++ m := ⟨_, rfl⟩
      have e6 : ints D1 = ints D ++ ints m := by rw [hD1]; simp [ints]
      have HRA6 : Aside0 ((Kd.int .u8).R 5 w6 W.heap.size (fun k => some k ≠ (Value.slice Ao m.length co).ownBlock) v6 (ints D1)) := ⟨by rw [e6]; exact HR6.out⟩
      obtain ⟨Aa, ca, rfl, hca⟩ := ra_src_ok HRA6.out
      have HCA := Aside0.mk hca
      have HATD : Aside0 (HAt w6 gX seed D1) := ⟨by rw [hD1]; exact HAT6.out⟩
      have HDL1 : Aside0 (D1.length < 4611686018427387904) := ⟨by rw [hD1, List.length_append]; have := HDL.out; have := HML.out; omega⟩
      have HDB1 : Aside0 (Bytes D1) := ⟨by rw [hD1]; exact HDB.out.append HMB.out⟩
      have HNX1 : Aside0 (cat (M.take (k + 1)) = D1) := ⟨by rw [hD1]; exact HNX.out⟩
      have HOB := Aside0.mk (ob_of HOWN6.out)
      have HNEH : Aside0 (some gX ≠ (Value.slice Ao m.length co).ownBlock) := ⟨own_ne_hat HOWN6.out (hat_block HATD.out)⟩
      have HGE : Aside0 (∀ x, (Value.slice Ao m.length co).ownBlock = some x → W.heap.size ≤ x) := ⟨fun x hx => by have := own_base HOWN6.out x hx; have := HBX.out.size; omega⟩
      have HGG := HGW
      have h4 : m.length < 4611686018427387904 := by have := HML.out; omega
      clear hca hD1 e6 HAT6 HOWN6 HR6 e0 e1 HOWN HOWN5 HRA4 HRA5 HAT4 HAT5 HB4 HB5 HSO HCO HGL HCM HE0 e0Y HRA HAT HG HBW
      go_loopw [10] (fun j wx => ∃ n : Nat, n ≤ m.length ∧ j = .int .i64 (n : Int) ∧ Aside0 (w6.grownBy wx (Value.slice Ao m.length co).ownBlock) ∧ Aside0 (OB wx Ao m.length)) (fun j _ => m.length - (intOf j).toNat)
      case atStart => exact ⟨0, Nat.zero_le _, rfl, ⟨grown_refl _ _⟩, HOB⟩
      case round =>
      clear HOB
      obtain ⟨n, hn, rfl, HGR, HOB⟩ := hrel
      by_cases hnm : n < m.length
      · obtain ⟨x, cs, rfl, hh, hz⟩ := HOB.out (by omega)
        obtain ⟨z, hzn⟩ := hz n hnm
        have hcell : wr.cell? ⟨x, n, none⟩ = some (.int .u8 z) := by rw [blk_cell hh]; exact hzn
        have hfz := blk_frozen hh n
        have HH := Aside0.mk (ob_set hh hz (j := n) (IntKind.u8.wrap (z + 1)))
        have c0 : (0 : Int) ≤ (n : Int) := by omega
        have c1' : (n : Int) < (m.length : Int) := by omega
        have c2 : (n : Int).toNat = n := by omega
        clear hh hz hzn HOB
        go_wp2
        go_roundw
        case rel => exact ⟨n + 1, by omega, by go_num, ⟨grown_set HGR.out _ _⟩, HH⟩
        case measure => simp [intOf]; omega
      · obtain rfl : n = m.length := by omega
        have HATE := Aside0.mk (hat_grown HATD.out HGR.out HNEH.out)
        have HRE : Aside0 (RA wr W.heap.size (.slice Aa D1.length ca) D1) := ⟨Kd.R_mono (Kd.R_grown HRA6.out HGR.out (fun _ h => h)) (fun _ _ => trivial)⟩
        have HBE := Aside0.mk (Below.grown HB6.out HGR.out HB6.out.size HGE.out)
        have e2 := pw_cell_below HBE.out HE2.out
        clear HGR HOB HATD HRA6 HB6
        have K1 := fun (wz : World) (h : HAt wz gX seed D1) => sum_walk gX seed HS.out D1 wz h HDL1.out
        have K2 := fun (wz : World) (h : Src wz Aa D1) => rhash_walk seed HS.out Aa ca D1 wz h HCA.out HDB1.out HDL1.out
        obtain ⟨H, hH⟩ : ∃ H, hashN seed D1 = H := ⟨_, rfl⟩
        rw [hH] at K1 K2
        have K1 := Aside0.mk K1
        have K2 := Aside0.mk K2
        have hlw : IntKind.u64.wrap (D1.length : Int) = (D1.length : Int) := w64lt (by have := HDL1.out; omega)
        clear hH
        cases q
        case false =>
          go_wp2_with fail
          go_roundw
          case rel => exact ⟨k + 1, gX, by omega, by go_num, rfl, ⟨by rw [HNX1.out]; exact HATE.out⟩, HGG, ⟨by rw [HNX1.out]; exact HRE.out⟩, HBE⟩
          case measure => simp [intOf]; omega
        case true =>
          go_wp2_with fail
          refine (K1.out _ HATE.out).mono ?_
          rintro e w7 ⟨rfl, ⟨n7, rfl⟩⟩
          go_wp2_with fail
          refine (K2.out _ (show Src (World.drewN _ n7) Aa _ from ra_at HRE.out)).mono ?_
          rintro e w7b ⟨rfl, hb⟩
          have HB7 := Aside0.mk (below_step (pw_below_drewN HBE.out n7) hb)
          have HAT7 := Aside0.mk (HAt.below (show HAt (World.drewN _ n7) _ seed _ from HATE.out) hb)
          have HRA7 : Aside0 (RA w7b W.heap.size (.slice Aa _ ca) _) := ⟨Kd.R_below (show RA (World.drewN _ n7) W.heap.size (.slice Aa _ ca) _ from HRE.out) hb⟩
          clear hb
          go_wp2_with fail
          refine (len_walk gX seed D1 _ HAT7.out).mono ?_
          rintro e w8 ⟨rfl, rfl⟩
          go_wp2_with fail
          go_roundw
          case rel => exact ⟨k + 1, gX, by omega, by go_num, rfl, ⟨by rw [HNX1.out]; exact HAT7.out⟩, HGG, ⟨by rw [HNX1.out]; exact HRA7.out⟩, HB7⟩
          case measure => simp [intOf]; omega
    case false =>
      go_wp2_with fail
      refine (joined_own A' c' m wr (HSRC.out.below HBW.out) HC'.out (by have := HML.out; omega)).mono ?_
      rintro e w4 ⟨⟨Ao, co, rfl, hco, hso, hown⟩, hbw⟩
      have HB4 := Aside0.mk (below_step HBW.out hbw)
      have HAT4 := Aside0.mk (HAT.out.below hbw)
      have HCO := Aside0.mk hco
      have HSO := Aside0.mk hso
      have HOWN := Aside0.mk hown
      have HGL := Aside0.mk HAT.out.lt
      have HRA4 : Aside0 ((Kd.int .u8).R 5 w4 W.heap.size (fun k => some k ≠ (Value.slice Ao m.length co).ownBlock) u6 (ints D)) := ⟨Kd.R_below (Kd.R_mono (Kd.R_bound HRA.out) (fun k h e => by have h1 := own_base hown k e.symm; have h2 := h.2.2.1; omega)) hbw⟩
      clear hbw hco hso hown
      go_wp2_with fail
      refine (write_walk g seed D m Ao co w4 HAT4.out HSO.out HCO.out (fun h0 ad e => by subst e; intro e2; have := own_base HOWN.out ad.block rfl; have := HGL.out; omega) HMB.out (by have := HDL.out; have := HML.out; omega)).mono ?_
      rintro e w5 ⟨rfl, hhat, hg⟩
      have HB5 := Aside0.mk (Below.grown HB4.out hg HB4.out.size (fun k hk => by injection hk with hk; have := HG.out; omega))
      have HAT5 := Aside0.mk hhat
      have HOWN5 := Aside0.mk (own_other HOWN.out hg (Or.inr (own_ne_hat HOWN.out (hat_block HAT4.out)).symm))
      have HRA5 : Aside0 ((Kd.int .u8).R 5 w5 W.heap.size (fun k => some k ≠ (Value.slice Ao m.length co).ownBlock) u6 (ints D)) := ⟨by
        obtain ⟨cs, hcs⟩ := hat_block HAT4.out
        exact Kd.R_mono (Kd.R_grown (Kd.R_types HRA4.out hcs (by intro q hq; simp [Kd.int, Kd.scalar] at hq; omega)) hg (fun k hk e => hk.2 (by injection e))) (fun _ h => h.1)⟩
      have e0Y := pw_cell_below HB5.out HE0.out
      clear hhat hg
      go_wp2_with (first
       | ((with_reducible refine gate_dst (N := 52) rfl ?_); (refine Kd.R_append_rows (Kd.int .u8) (Rr := (Kd.int .u8).K w5) (w0 := W) W.heap.size rfl (.tmp 46) (.tmp 51) 23 5 (.int .u8 0) 1 rfl Try.underlying23 (by kernel_rfl) rfl (by decide) (by decide) u6 (ints D) (ints m) A' m.length c' (fun k => some k ≠ (Value.slice Ao m.length co).ownBlock) (fun _ => False) rfl rfl HRA5.out (Kd.C_below HCM.out HB5.out) (fun _ _ h => h) (fun _ h => h.elim) (fun k hk e => by have := own_lt HOWN5.out k e.symm; omega) HB5.out HB5.out.size (by rw [ints_length]; have := HDL.out; have := HML.out; omega) ?_);
          intro v6 w6 hr6 hb6 hg6 hat6;
          have HAT6 := Aside0.mk (hat_grown HAT5.out hg6 (by obtain ⟨cs, hcs⟩ := hat_block HAT5.out; exact Kd.R_ne HRA5.out hcs (by decide)));
          have HOWN6 := Aside0.mk (own_other HOWN5.out hg6 (by
            cases hob : (Value.slice Ao m.length co).ownBlock with
            | none => exact Or.inl rfl
            | some x => exact Or.inr (fun e => HRA5.out.1 x e.symm hob.symm)));
          have HR6 := Aside0.mk hr6; have HB6 := Aside0.mk hb6; clear hr6 hb6 hg6 hat6))
      obtain ⟨D1, hD1⟩ : ∃ x, x = D ++ m := ⟨_, rfl⟩
      have e6 : ints D1 = ints D ++ ints m := by rw [hD1]; simp [ints]
      have HRA6 : Aside0 ((Kd.int .u8).R 5 w6 W.heap.size (fun k => some k ≠ (Value.slice Ao m.length co).ownBlock) v6 (ints D1)) := ⟨by rw [e6]; exact HR6.out⟩
      obtain ⟨Aa, ca, rfl, hca⟩ := ra_src_ok HRA6.out
      have HCA := Aside0.mk hca
      have HATD : Aside0 (HAt w6 g seed D1) := ⟨by rw [hD1]; exact HAT6.out⟩
      have HDL1 : Aside0 (D1.length < 4611686018427387904) := ⟨by rw [hD1, List.length_append]; have := HDL.out; have := HML.out; omega⟩
      have HDB1 : Aside0 (Bytes D1) := ⟨by rw [hD1]; exact HDB.out.append HMB.out⟩
      have HNX1 : Aside0 (cat (M.take (k + 1)) = D1) := ⟨by rw [hD1]; exact HNX.out⟩
      have HOB := Aside0.mk (ob_of HOWN6.out)
      have HNEH : Aside0 (some g ≠ (Value.slice Ao m.length co).ownBlock) := ⟨own_ne_hat HOWN6.out (hat_block HATD.out)⟩
      have HGE : Aside0 (∀ x, (Value.slice Ao m.length co).ownBlock = some x → W.heap.size ≤ x) := ⟨fun x hx => by have := own_base HOWN6.out x hx; have := HBW.out.size; omega⟩
      have HGG := HG
      have h4 : m.length < 4611686018427387904 := by have := HML.out; omega
      clear hca hD1 e6 HAT6 HOWN6 HR6 e0 e1 HOWN HOWN5 HRA4 HRA5 HAT4 HAT5 HB4 HB5 HSO HCO HGL HCM HE0 e0Y HRA HAT HG HBW
      go_loopw [10] (fun j wx => ∃ n : Nat, n ≤ m.length ∧ j = .int .i64 (n : Int) ∧ Aside0 (w6.grownBy wx (Value.slice Ao m.length co).ownBlock) ∧ Aside0 (OB wx Ao m.length)) (fun j _ => m.length - (intOf j).toNat)
      case atStart => exact ⟨0, Nat.zero_le _, rfl, ⟨grown_refl _ _⟩, HOB⟩
      case round =>
      clear HOB
      obtain ⟨n, hn, rfl, HGR, HOB⟩ := hrel
      by_cases hnm : n < m.length
      · obtain ⟨x, cs, rfl, hh, hz⟩ := HOB.out (by omega)
        obtain ⟨z, hzn⟩ := hz n hnm
        have hcell : wr.cell? ⟨x, n, none⟩ = some (.int .u8 z) := by rw [blk_cell hh]; exact hzn
        have hfz := blk_frozen hh n
        have HH := Aside0.mk (ob_set hh hz (j := n) (IntKind.u8.wrap (z + 1)))
        have c0 : (0 : Int) ≤ (n : Int) := by omega
        have c1' : (n : Int) < (m.length : Int) := by omega
        have c2 : (n : Int).toNat = n := by omega
        clear hh hz hzn HOB
        go_wp2
        go_roundw
        case rel => exact ⟨n + 1, by omega, by go_num, ⟨grown_set HGR.out _ _⟩, HH⟩
        case measure => simp [intOf]; omega
      · obtain rfl : n = m.length := by omega
        have HATE := Aside0.mk (hat_grown HATD.out HGR.out HNEH.out)
        have HRE : Aside0 (RA wr W.heap.size (.slice Aa D1.length ca) D1) := ⟨Kd.R_mono (Kd.R_grown HRA6.out HGR.out (fun _ h => h)) (fun _ _ => trivial)⟩
        have HBE := Aside0.mk (Below.grown HB6.out HGR.out HB6.out.size HGE.out)
        have e2 := pw_cell_below HBE.out HE2.out
        clear HGR HOB HATD HRA6 HB6
        have K1 := fun (wz : World) (h : HAt wz g seed D1) => sum_walk g seed HS.out D1 wz h HDL1.out
        have K2 := fun (wz : World) (h : Src wz Aa D1) => rhash_walk seed HS.out Aa ca D1 wz h HCA.out HDB1.out HDL1.out
        obtain ⟨H, hH⟩ : ∃ H, hashN seed D1 = H := ⟨_, rfl⟩
        rw [hH] at K1 K2
        have K1 := Aside0.mk K1
        have K2 := Aside0.mk K2
        have hlw : IntKind.u64.wrap (D1.length : Int) = (D1.length : Int) := w64lt (by have := HDL1.out; omega)
        clear hH
        cases q
        case false =>
          go_wp2_with fail
          go_roundw
          case rel => exact ⟨k + 1, g, by omega, by go_num, rfl, ⟨by rw [HNX1.out]; exact HATE.out⟩, HGG, ⟨by rw [HNX1.out]; exact HRE.out⟩, HBE⟩
          case measure => simp [intOf]; omega
        case true =>
          go_wp2_with fail
          refine (K1.out _ HATE.out).mono ?_
          rintro e w7 ⟨rfl, ⟨n7, rfl⟩⟩
          go_wp2_with fail
          refine (K2.out _ (show Src (World.drewN _ n7) Aa _ from ra_at HRE.out)).mono ?_
          rintro e w7b ⟨rfl, hb⟩
          have HB7 := Aside0.mk (below_step (pw_below_drewN HBE.out n7) hb)
          have HAT7 := Aside0.mk (HAt.below (show HAt (World.drewN _ n7) _ seed _ from HATE.out) hb)
          have HRA7 : Aside0 (RA w7b W.heap.size (.slice Aa _ ca) _) := ⟨Kd.R_below (show RA (World.drewN _ n7) W.heap.size (.slice Aa _ ca) _ from HRE.out) hb⟩
          clear hb
          go_wp2_with fail
          refine (len_walk g seed D1 _ HAT7.out).mono ?_
          rintro e w8 ⟨rfl, rfl⟩
          go_wp2_with fail
          go_roundw
          case rel => exact ⟨k + 1, g, by omega, by go_num, rfl, ⟨by rw [HNX1.out]; exact HAT7.out⟩, HGG, ⟨by rw [HNX1.out]; exact HRA7.out⟩, HB7⟩
          case measure => simp [intOf]; omega
  · obtain rfl : k = M.length := by omega
    obtain ⟨Aa, ca, rfl, hca⟩ := ra_src_ok HRA.out
    have HCA := Aside0.mk hca
    have HDB1 := HDB
    have HDL1 : Aside0 (D.length < 4611686018427387904) := ⟨by have := HDL.out; omega⟩
    clear hca
    have K1 := fun (wz : World) (h : HAt wz g seed D) => sum_walk g seed HS.out D wz h HDL1.out
    have K2 := fun (wz : World) (h : Src wz Aa D) => rhash_walk seed HS.out Aa ca D wz h HCA.out HDB1.out HDL1.out
    obtain ⟨H, hH⟩ : ∃ H, hashN seed D = H := ⟨_, rfl⟩
    rw [hH] at K1 K2
    have K1 := Aside0.mk K1
    have K2 := Aside0.mk K2
    have hlw : IntKind.u64.wrap (D.length : Int) = (D.length : Int) := w64lt (by have := HDL1.out; omega)
    clear hH
    go_wp2_with fail
    refine (K1.out _ HAT.out).mono ?_
    rintro e w7 ⟨rfl, ⟨n7, rfl⟩⟩
    go_wp2_with fail
    refine (K2.out _ (show Src (World.drewN _ n7) Aa _ from ra_at HRA.out)).mono ?_
    rintro e w7b ⟨rfl, hb⟩
    have HB7 := Aside0.mk (below_step (pw_below_drewN HBW.out n7) hb)
    have HAT7 := Aside0.mk (HAt.below (show HAt (World.drewN _ n7) _ seed _ from HAT.out) hb)
    have HRA7 : Aside0 (RA w7b W.heap.size (.slice Aa _ ca) _) := ⟨Kd.R_below (show RA (World.drewN _ n7) W.heap.size (.slice Aa _ ca) _ from HRA.out) hb⟩
    clear hb
    go_wp2_with fail
    refine (K1.out _ HAT7.out).mono ?_
    rintro e w8 ⟨rfl, ⟨n8, rfl⟩⟩
    go_wp2_with fail
    refine (K2.out _ (show Src (World.drewN _ n8) Aa _ from ra_at HRA7.out)).mono ?_
    rintro e w8b ⟨rfl, hb⟩
    have HB8 := Aside0.mk (below_step (pw_below_drewN HB7.out n8) hb)
    have HAT8 := Aside0.mk (HAt.below (show HAt (World.drewN _ n8) _ seed _ from HAT7.out) hb)
    have HRA8 : Aside0 (RA w8b W.heap.size (.slice Aa _ ca) _) := ⟨Kd.R_below (show RA (World.drewN _ n8) W.heap.size (.slice Aa _ ca) _ from HRA7.out) hb⟩
    clear hb
    go_wp2_with fail
    refine (len_walk g seed D _ HAT8.out).mono ?_
    rintro e w9 ⟨rfl, rfl⟩
    go_wp2_with fail
    go_ret
    exact ⟨rfl, HB8.out⟩
end Go.Proofs.Ytbnbpnnpbnpidaa.RSumStreams
namespace Go.Proofs.Ytbnbpnnpbnpidaa.Main
open Go.RowKit Go.Proofs.YtbnbpnnpbnpidaaW.PrintWords Go.Proofs.YtbnbpnnpbnpidaaW.PrintLast Go.Proofs.YtbnbpnnpbnpidaaW.PrintMore Go.Proofs.Ytbnbpnnpbnpidaa.QSumHashes Crc
set_option linter.unusedVariables false
set_option linter.unusedSimpArgs false
theorem SumStreams (W : World) (a0 : Int) (A1 : Option Addr) (c1 : Nat) (l1 : List ((List Int) × (Bool × Bool))) (w0 : (Lit.int .u64 a0).wf = true) (hC1 : Kd.C (Kd.pair (Kd.slice 5 (Kd.int .u8)) (Kd.pair Kd.bool Kd.bool)) W A1 l1.length l1) (hc1 : l1.length ≤ c1) (hG1 : (fun l => l.length * 32 ≤ 140737488351232 ∧ l.length ≤ 1048576 ∧ ∀ x ∈ l, (fun x => (fun l => l.length * 1 ≤ 140737488351232 ∧ l.length ≤ 1048576 ∧ ∀ x ∈ l, (fun x => (Lit.int .u8 x).wf = true) x) x.1 ∧ (fun x => (fun _ => True) x.1 ∧ (fun _ => True) x.2) x.2) x) l1) :
    Calls Try.prog 9 #[.int .u64 a0, .slice A1 l1.length c1] W fun e w' => e = .returned (.bool true) ∧ Below W.heap.size W w' := by
  obtain ⟨s, rfl, hs⟩ := nat_u64 w0
  obtain ⟨M, rfl, hM⟩ := RSumStreams.rows_of l1 (fun x hx => (hG1.2.2 x hx).1.2.2)
  have g1 := hG1.2.1
  have g2 := fun x hx => (hG1.2.2 x hx).1.2.1
  rw [List.length_map] at g1 hC1 hc1 ⊢
  exact RSumStreams.law s hs A1 c1 M W hC1 hc1 hM (fun x hx => by have := g2 _ (List.mem_map.2 ⟨x, hx, rfl⟩); rw [ints_length] at this; exact this) g1
end Go.Proofs.Ytbnbpnnpbnpidaa.Main
