/- A cache by age, or by use.
   No condition. -/
import Derived.Test.YteaidghanfjigaaRingA
import Derived.Test.YteaidghanfjigaaDist
import Derived.ArgAppend
import Derived.BigRegion
import Derived.Deep.QuietTactic
import Derived.BigQuiet
import Derived.Deep.RegionHeld3
import Derived.ChangeAlike
import Derived.RegionTactic
import Derived.Maps.OwnSet
import Derived.Maps.OwnOps
import Derived.Deep.DeepCutAuto
import Derived.Deep.CutBlock
import Derived.Deep.RegionLaw
import Derived.StillTailTactics
namespace Go.Proofs.Yteaidghanfjigaa.QCurveCurves
open Go.RowKit Go.Proofs.YteaidghanfjigaaW.PrintWords Go.Proofs.YteaidghanfjigaaW.PrintLast Go.Proofs.YteaidghanfjigaaW.PrintMore
set_option linter.unusedVariables false
set_option linter.unusedSimpArgs false
set_option maxHeartbeats 4000000 in
set_option maxRecDepth 100000 in
theorem take_walk {w wr : World} {rb root mb bnd : Nat} {L : List (Nat × Int)} (H : QSt w rb root mb bnd L wr) (h : Int) (hw : (Lit.int .u64 h).wf = true) (hn : h ∉ L.map (·.2)) (n : Nat) (hn1 : 1 ≤ n) (hl : L.length ≤ n) (hL : L.length ≤ 2000) (hbd : bnd ≤ 5000) (hnn : n < 9223372036854775808) :
    Calls Try.prog 40 #[.pointer (some ⟨rb, 0, none⟩), .int .u64 h, .int .i64 (n : Int)] wr fun e w' => e = .returned (.tuple #[]) ∧ QSt w rb root mb (bnd + 1) (((wr.heap.size, h) :: L).take n) w' := by
  have HQ := Aside0.mk H
  have HN := Aside0.mk hn
  have HW := Aside0.mk hw
  obtain ⟨w1, hw1⟩ : ∃ w1, wr.alloc (.cells #[.int .u64 h, .pointer none, .pointer none] 64) = w1 := ⟨_, rfl⟩
  have hU : Below wr.heap.size wr w1 := by rw [← hw1]; exact below_alloc (Below.refl _ _) _
  have hX : w1.heap[wr.heap.size]? = some (.cells #[.int .u64 h, .pointer none, .pointer none] 64) := by rw [← hw1]; exact blk_new _ _
  have hRg : Rg w1 rb root mb := blk_below H.rg hU
  have hRc := H.rc.below hU
  obtain ⟨x, hx⟩ : ∃ x, wr.heap.size = x := ⟨_, rfl⟩
  rw [hx] at hX
  have hxn : x ∉ root :: L.map (·.1) := fun e => by obtain ⟨g, hg⟩ := H.rc.nd e; have := hg.lt; omega
  have hNd : Nd w1 x h := ⟨_, _, hX⟩
  obtain ⟨q, hq, hq2, hrc2⟩ := hRc.front x h hNd hxn
  obtain ⟨gq, hdq⟩ := hRc.nd hq
  obtain ⟨v1, hv1⟩ := hdq.c1
  have hrq : ¬ rb = q := fun e => H.rbne (by rw [e]; exact hq)
  have hxr : ¬ x = root := fun e => hxn (by rw [e]; exact List.mem_cons_self ..)
  have hxq : ¬ x = q := fun e => hxn (by rw [e]; exact hq)
  have hrx : ¬ rb = x := fun e => by have := blk_lt H.rg; omega
  have HF := Aside0.mk (front_walk rb root x q _ _ v1 w1 hRg.c0 hq2 hv1 (blk_cell hX 1) (blk_cell hX 2) (hNd.f 1) (hNd.f 2) (hdq.f 1) (hRc.nd0.f 2) hrx hrq hxr hxq)
  have HX := Aside0.mk hx
  have HW1 := Aside0.mk hw1
  have HRC := Aside0.mk hrc2
  have HQM := Aside0.mk hq
  have HR2 := Aside0.mk (show ∀ w2 k, w2 = ((((w1.setCell ⟨x, 1, none⟩ (.pointer (some ⟨root, 0, none⟩))).setCell ⟨x, 2, none⟩ (.pointer (some ⟨q, 0, none⟩))).setCell ⟨q, 1, none⟩ (.pointer (some ⟨x, 0, none⟩))).setCell ⟨root, 2, none⟩ (.pointer (some ⟨x, 0, none⟩))).drewN k → Rg w2 rb root mb ∧ MapV ptrElem w2 mb bnd (atF L) L.length from fun w2 k e => by
    subst e
    have hml := H.map.lt
    refine ⟨blk_drewN (blk_far (blk_far (blk_far (blk_far hRg (p := ⟨x, 1, none⟩) hrx _) (p := ⟨x, 2, none⟩) hrx _) (p := ⟨q, 1, none⟩) hrq _) (p := ⟨root, 2, none⟩) (fun e => H.rbne (by rw [e]; exact List.mem_cons_self ..)) _) k, ?_⟩
    exact MapV.drewN (MapV.setCell (MapV.setCell (MapV.setCell (MapV.setCell (H.map.below hU) (p := ⟨x, 1, none⟩) (show mb ≠ x by omega) _) (p := ⟨x, 2, none⟩) (show mb ≠ x by omega) _) (p := ⟨q, 1, none⟩) (fun e => H.mbne (by rw [e]; exact hq)) _) (p := ⟨root, 2, none⟩) (fun e => H.mbne (by rw [e]; exact List.mem_cons_self ..)) _) k)
  clear hU hX hRg hRc hxn hNd hq2 hdq hv1 hrq hxr hxq hrx hn hrc2 hq
  have HB5 := Aside0.mk hbd
  obtain ⟨ll, hll⟩ : ∃ ll, L.length = ll := ⟨_, rfl⟩
  have HLL := Aside0.mk hll
  by_cases hfull : L.length = n
  · have g1 : decide ((n : Int) < (ll : Int) + 1) = true := decide_eq_true (by omega)
    have g2 : decide (n < ll + 1) = true := decide_eq_true (by omega)
    obtain ⟨A, yg, hA⟩ : ∃ A yg, L = A ++ [yg] := ⟨L.dropLast, L.getLast (by intro e; rw [e] at hfull; simp at hfull; omega), (List.dropLast_concat_getLast _).symm⟩
    obtain ⟨y, g⟩ := yg
    have HA := Aside0.mk hA
    have HT := Aside0.mk (show ((x, h) :: L).take n = (x, h) :: A by
      rw [hA, ← List.cons_append]
      refine List.take_left' ?_
      rw [hA, List.length_append] at hfull
      simpa using hfull)
    have HD := Aside0.mk (fun (wd : World) (Hq : QSt w rb root mb (bnd + 1) ((x, h) :: L) wd) => (show QSt w rb root mb (bnd + 1) (((x, h) :: A) ++ (y, g) :: []) wd by rw [hA] at Hq; exact Hq))
    clear H hfull hl hL hll hw hbd hA
    go_enter Try.func40, Try.ntmps40
    go_upto_region 4 with (first
      | (go_at_call 39; refine HF.out.mono ?_; rintro e w2 ⟨rfl, ⟨k2, hk2⟩⟩; have K2 := Aside0.mk hk2; obtain ⟨hr2, hm2⟩ := HR2.out w2 k2 hk2; have r1 := hr2.c1; have RG2 := Aside0.mk hr2; have MM := Aside0.mk hm2; clear hk2 hr2 hm2)
      | (at_mapUpdate; refine wpList_mapv_put _ rfl (.tmp 17) (.tmp 18) (.tmp 19) 56 54 rfl Try.underlying56 mb bnd L.length (atF L) rfl MM.out (by unfold maxLen; have := HB5.out; omega) h HW.out rfl (.pointer (some ⟨x, 0, none⟩)) rfl (x : Int) [] (ptrElem_mk x) ?_; intro w3 hm3 hg3; have QS3 := Aside0.mk (HQ.out.front h HW.out HN.out x HX.out HW1.out q k2 HQM.out K2.out HRC.out hm3 hg3); clear hm3 hg3 r1; have r0 := QS3.out.rg.c0; have r1 := QS3.out.rg.c1)
      | (at_len; refine wpList_mapv_len _ rfl (.tmp 23) 56 54 rfl Try.underlying56 mb (bnd + 1) (ll + 1) _ rfl (by have h := QS3.out.map; rw [List.length_cons, HLL.out] at h; exact h) ?_))
    have Q4 := Aside0.mk (HD.out w3 QS3.out)
    have y1 := Q4.out.rc.last
    obtain ⟨p, q2, hp, hq2, c1, c2, hrc, hnd, hyn⟩ := Q4.out.rc.out
    obtain ⟨_, dp⟩ := Q4.out.rc.nd hp
    obtain ⟨_, dq⟩ := Q4.out.rc.nd hq2
    obtain ⟨up, ep⟩ := dp.c2
    obtain ⟨uq, eq⟩ := dq.c1
    have HO := Aside0.mk (out_walk y p q2 _ _ w3 c1 c2 ep eq (dp.f 2) (dq.f 1))
    have HP := Aside0.mk (And.intro hp (And.intro hq2 (And.intro hrc (And.intro hnd hyn))))
    clear c1 c2 dp dq ep eq hp hq2 hrc hnd hyn
    go_upto_region 6 with (go_at_call 38; refine HO.out.mono ?_; rintro e w4 ⟨rfl, ⟨k4, hk4⟩⟩; have K4 := Aside0.mk hk4; clear hk4)
    obtain ⟨rg4, rc4, mv4, bl4⟩ := Q4.out.outRing HP.out.1 HP.out.2.1 K4.out HP.out.2.2.1
    have z1 := rg4.c1
    have z0 : w4.cell? ⟨y, 0, none⟩ = some (.int .u64 g) := by rw [K4.out]; exact HP.out.2.2.2.1.c0
    have S4 := Aside0.mk (And.intro rg4 (And.intro rc4 (And.intro mv4 bl4)))
    clear rg4 rc4 mv4 bl4 r0 r1 y1
    go_still_tail 8, (by kernel_rfl)
    change wpList _ _ _ _ _ w4.drew
    refine wpList_mapv_delete _ rfl (.tmp 39) (.tmp 43) 56 54 rfl Try.underlying56 mb (bnd + 1) _ (atF (((x, h) :: A) ++ (y, g) :: [])) rfl (MapV.drewN S4.out.2.2.1 1) g (Q4.out.wf (y, g) (by simp)) rfl ?_
    intro w5 hm5 hg5
    have Q5 := Aside0.mk (Q4.out.cut S4.out.1 S4.out.2.1 S4.out.2.2.2 hm5 (⟨hg5.os, hg5.tape, hg5.output, hg5.size, hg5.block⟩ : w4.grownBy w5 (some mb)))
    clear hm5 hg5 z0 z1
    go_wp2
    go_end0
    exact ⟨rfl, by (try rw [hx]); rw [HT.out]; have h := Q5.out; rw [List.append_nil] at h; exact h⟩
  · have g1 : decide ((n : Int) < (ll : Int) + 1) = false := decide_eq_false (by omega)
    have g2 : decide (n < ll + 1) = false := decide_eq_false (by omega)
    have HT := Aside0.mk (show ((x, h) :: L).take n = (x, h) :: L from List.take_of_length_le (by rw [List.length_cons]; omega))
    clear H hfull hl hL hll hw hbd
    go_enter Try.func40, Try.ntmps40
    go_wp2_with (first
      | (go_at_call 39; refine HF.out.mono ?_; rintro e w2 ⟨rfl, ⟨k2, hk2⟩⟩; have K2 := Aside0.mk hk2; obtain ⟨hr2, hm2⟩ := HR2.out w2 k2 hk2; have r1 := hr2.c1; have RG2 := Aside0.mk hr2; have MM := Aside0.mk hm2; clear hk2 hr2 hm2)
      | (at_mapUpdate; refine wpList_mapv_put _ rfl (.tmp 17) (.tmp 18) (.tmp 19) 56 54 rfl Try.underlying56 mb bnd L.length (atF L) rfl MM.out (by unfold maxLen; have := HB5.out; omega) h HW.out rfl (.pointer (some ⟨x, 0, none⟩)) rfl (x : Int) [] (ptrElem_mk x) ?_; intro w3 hm3 hg3; have QS3 := Aside0.mk (HQ.out.front h HW.out HN.out x HX.out HW1.out q k2 HQM.out K2.out HRC.out hm3 hg3); clear hm3 hg3 r1; have r0 := QS3.out.rg.c0; have r1 := QS3.out.rg.c1)
      | (at_len; refine wpList_mapv_len _ rfl (.tmp 23) 56 54 rfl Try.underlying56 mb (bnd + 1) (ll + 1) _ rfl (by have h := QS3.out.map; rw [List.length_cons, HLL.out] at h; exact h) ?_))
    go_end0
    exact ⟨rfl, by rw [hx, HT.out]; exact QS3.out⟩
theorem zero54 (w : World) : (zeroValue 54).run Try.prog w = .ok (.pointer none) w := by kernel_rfl
/-- The head of a round of a cache. -/
def QHead (w : World) (rb root mb : Nat) (L : List Nat) (n : Nat) (again : Bool) (i : Nat) (wr : World) : Prop := ∃ bnd K, bnd ≤ i ∧ QSt w rb root mb bnd K wr ∧ K.map (·.2) = qC L n again i ∧ K.length ≤ n
theorem key_split {K : List (Nat × Int)} {h : Int} (hm : h ∈ K.map (·.2)) : ∃ A x B, K = A ++ (x, h) :: B := by
  obtain ⟨q, hq, e⟩ := List.mem_map.1 hm
  obtain ⟨A, B, rfl⟩ := List.append_of_mem hq
  exact ⟨A, q.1, B, by rw [← e]⟩
theorem qC_len (L : List Nat) (n : Nat) (again : Bool) (i : Nat) : (qC L n again i).length ≤ i := by
  induction i with
  | zero => exact Nat.le_refl _
  | succ i ih =>
    simp only [qC, qst]
    split
    · rename_i h
      simp only
      split
      · rw [List.length_cons, List.length_erase_of_mem h]; have := List.length_pos_of_mem h; omega
      · omega
    · rw [List.length_take, List.length_cons]; omega
set_option maxHeartbeats 8000000 in
set_option maxRecDepth 100000 in
theorem queue_walk (again : Bool) (A : Option Addr) (c : Nat) (L : List Nat) (hL : L.length ≤ 1024) (hwf : ∀ x ∈ L, x < 18446744073709551616) (n : Nat) (hnn : n < 9223372036854775808) (w : World) (hC : Kd.C (Kd.int .u64) w A (zs L).length (zs L)) (hc : L.length ≤ c) :
    Calls Try.prog 28 #[.slice A L.length c, .int .i64 (n : Int), .bool again] w fun e w' => e = .returned (.tuple #[.int .i64 ((qH L n again L.length : Nat) : Int), .int .i64 0]) ∧ Below w.heap.size w w' := by
  have HC := Aside0.mk hC
  have HWF := Aside0.mk hwf
  obtain ⟨ln, hln⟩ : ∃ ln, L.length = ln := ⟨_, rfl⟩
  have htl : Aside0 (∀ w', Kd.C (Kd.int .u64) w' A (zs L).length (zs L) → Calls Try.prog 29 #[.slice A ln c] w' fun e w'' => e = .returned (.int .i64 0) ∧ Drawn0 w' w'') := ⟨fun w' h => by
    have := curve_tooLong.calls A c (zs L) 0 w' h (by rw [zs_length]; exact hc) (by unfold curve_tooLong.f; rw [if_neg (by rw [zs_length]; omega)])
    rw [zs_length, hln] at this
    exact this⟩
  rw [hln] at hL
  have HL := Aside0.mk hL
  have HLN := Aside0.mk hln
  rw [hln]
  have hn0 : decide ((n : Int) < 0) = false := decide_eq_false (by omega)
  clear hC hc hwf hln
  go_enter Try.func28, Try.ntmps28
  go_wp2_with (first
    | (go_at_call 29; refine (htl.out _ HC.out).mono ?_; rintro e w1 ⟨rfl, ⟨n1, hn1⟩⟩; have B1 := Aside0.mk (show Below w.heap.size w w1 by rw [hn1]; exact pw_below_drewN (Below.refl _ _) n1); clear hn1)
    | (go_at_call 37; refine (newRing_walk w1).mono ?_; rintro e w2 ⟨rfl, h2, h3, h4, h5⟩; have Q0 := Aside0.mk (QSt.start B1.out h2 h3 h4 h5); clear h2 h3 h4 h5))
  obtain ⟨rb, hrb⟩ : ∃ rb, w1.heap.size + 2 = rb := ⟨_, rfl⟩
  obtain ⟨root, hroot⟩ : ∃ root, w1.heap.size = root := ⟨_, rfl⟩
  obtain ⟨mb, hmb⟩ : ∃ mb, w1.heap.size + 1 = mb := ⟨_, rfl⟩
  rw [hrb, hmb, hroot] at Q0
  rw [hrb]
  clear hrb hmb hroot hn0
  have QQ0 := Aside0.mk (show QHead w rb root mb L n again 0 w2 from ⟨0, [], Nat.le_refl _, Q0.out, rfl, Nat.zero_le _⟩)
  clear Q0
  go_loopw [10, 25] (fun hv idx wr => ∃ i : Nat, i ≤ ln ∧ idx = .int .i64 i ∧ hv = .int .i64 ((qH L n again i : Nat) : Int) ∧ Aside0 (QHead w rb root mb L n again i wr)) (fun _ idx _ => ln - (intOf idx).toNat)
  case atStart => exact ⟨0, Nat.zero_le _, rfl, rfl, QQ0⟩
  case round =>
    clear QQ0
    obtain ⟨i, hi, rfl, rfl, HD⟩ := hrel
    have hq0 := qH_le L n again i
    by_cases hlt : i < ln
    · obtain ⟨bnd, K, hbi, HQ0, hkeys, hkl⟩ := HD.out
      obtain ⟨ad, eA, k0⟩ := Kd.at_int (Kd.C_below HC.out HQ0.below) (i : Int) (by omega) (by rw [zs_length, HLN.out]; omega)
      subst eA
      rw [rd_zs] at k0
      simp only [Int.toNat_natCast] at k0
      have m0 : (0 : Int) ≤ (i : Int) := by omega
      have m1 : (i : Int) < (ln : Int) := by omega
      have WFX := Aside0.mk (wf64_mk (n := L.getD i 0) (HWF.out _ (by rw [List.getD_eq_getElem?_getD, List.getElem?_eq_getElem (by rw [HLN.out]; exact hlt)]; exact List.getElem_mem _)))
      have HQ := Aside0.mk HQ0
      have r1 := HQ0.rg.c1
      obtain ⟨hx, hhx⟩ : ∃ hx : Int, ((L.getD i 0 : Nat) : Int) = hx := ⟨_, rfl⟩
      have HHX := Aside0.mk hhx
      have k0' : wr.cell? (ad.add i) = some (.int .u64 hx) := by rw [← hhx]; exact k0
      rw [hhx] at WFX
      have HK := Aside0.mk (And.intro hbi (And.intro hkeys hkl))
      obtain ⟨qq, hqq⟩ : ∃ qq, qH L n again i = qq := ⟨_, rfl⟩
      have hw1 : wrap64 ((qq : Int) + 1) = (qq : Int) + 1 := cw64' (by omega) (by omega)
      have HQQ := Aside0.mk hqq
      rw [hqq]
      clear HQ0 k0 hhx hbi hkeys hkl hqq hq0
      by_cases hin : hx ∈ K.map (·.2)
      · obtain ⟨P, x, B, hK⟩ := key_split hin
        subst hK
        have hstep : qst again n (qC L n again i) ((L.getD i 0 : Nat) : Int) = ((if again = true then hx :: (P ++ B).map (·.2) else (P ++ (x, hx) :: B).map (·.2)), true) := by
          rw [HHX.out, ← HK.out.2.1]
          unfold qst
          rw [if_pos hin, keys_erase P B x hx HQ.out.keys]
        have HIT := Aside0.mk (show qH L n again (i + 1) = qq + 1 by simp only [qH]; rw [hstep, HQQ.out]; rfl)
        have HCC := Aside0.mk (show qC L n again (i + 1) = (if again = true then hx :: (P ++ B).map (·.2) else (P ++ (x, hx) :: B).map (·.2)) by simp only [qC]; rw [hstep])
        have HF := Aside0.mk (atF_some HQ.out.keys)
        have HM := Aside0.mk HQ.out.map
        clear hin hstep
        cases again with
        | false =>
          go_wp2_with (at_lookup; refine wpList_mapv_hit _ rfl (.tmp 33) (.tmp 34) 56 54 rfl Try.underlying56 (.pointer none) (zero54 _) .nil [] rfl (fun c => .pointer (some ⟨c.toNat, 0, none⟩)) ptrElem_inv mb bnd _ _ rfl HM.out hx WFX.out rfl (x : Int) HF.out ?_)
          go_roundw
          case rel => exact ⟨i + 1, by omega, by go_num, by rw [HIT.out]; go_num, ⟨⟨bnd, _, by have := HK.out.1; omega, HQ.out, by rw [HCC.out]; rfl, HK.out.2.2⟩⟩⟩
          case measure => simp [intOf]; omega
        | true =>
          obtain ⟨p, q2, hp, hq2, c1, c2, hrc, hnd, hxn⟩ := HQ.out.rc.out
          obtain ⟨_, dp⟩ := HQ.out.rc.nd hp
          obtain ⟨_, dq⟩ := HQ.out.rc.nd hq2
          obtain ⟨up, ep⟩ := dp.c2
          obtain ⟨uq, eq⟩ := dq.c1
          have HO := Aside0.mk (out_walk x p q2 _ _ wr c1 c2 ep eq (dp.f 2) (dq.f 1))
          have HP := Aside0.mk (And.intro hp (And.intro hq2 (And.intro hrc (And.intro hnd hxn))))
          clear c1 c2 dp dq ep eq hp hq2 hrc hnd hxn
          go_upto_region 16 with (first
            | (at_lookup; refine wpList_mapv_hit _ rfl (.tmp 33) (.tmp 34) 56 54 rfl Try.underlying56 (.pointer none) (zero54 _) .nil [] rfl (fun c => .pointer (some ⟨c.toNat, 0, none⟩)) ptrElem_inv mb bnd _ _ rfl HM.out hx WFX.out rfl (x : Int) HF.out ?_)
            | (go_at_call 38; refine HO.out.mono ?_; rintro e w4 ⟨rfl, ⟨k4, hk4⟩⟩; have K4 := Aside0.mk hk4; clear hk4))
          obtain ⟨rg4, rc4, mv4, bl4⟩ := HQ.out.outRing HP.out.1 HP.out.2.1 K4.out HP.out.2.2.1
          have nd4 : Nd w4 x hx := by rw [K4.out]; exact HP.out.2.2.2.1.below (pw_below_drewN (Below.refl _ _) k4)
          obtain ⟨n5, hn5, hc5, hrc5⟩ := rc4.front x hx nd4 HP.out.2.2.2.2
          obtain ⟨_, d5⟩ := rc4.nd hn5
          obtain ⟨v5, hv5⟩ := d5.c1
          obtain ⟨vx1, hx1⟩ := nd4.c1
          obtain ⟨vx2, hx2⟩ := nd4.c2
          have sub5 : ∀ b, b ∈ root :: (P ++ B).map (·.1) → b ∈ root :: (P ++ (x, hx) :: B).map (·.1) := fun b hb => by
            rcases List.mem_cons.1 hb with e | e
            · rw [e]; exact List.mem_cons_self ..
            · exact List.mem_cons_of_mem _ (((List.Sublist.append_left (List.sublist_cons_self _ _) P).map _).subset e)
          have HF5 := Aside0.mk (front_walk rb root x n5 vx1 vx2 v5 w4 rg4.c0 hc5 hv5 hx1 hx2 (nd4.f 1) (nd4.f 2) (d5.f 1) (rc4.nd0.f 2) (fun e => HQ.out.rbne (by rw [e]; exact List.mem_cons_of_mem _ (List.mem_map.2 ⟨(x, hx), by simp, rfl⟩))) (fun e => HQ.out.rbne (by rw [e]; exact sub5 _ hn5)) (fun e => HP.out.2.2.2.2 (by rw [e]; exact List.mem_cons_self ..)) (fun e => HP.out.2.2.2.2 (by rw [e]; exact hn5)))
          have S5 := Aside0.mk (show ∀ w5 k, w5 = ((((w4.setCell ⟨x, 1, none⟩ (.pointer (some ⟨root, 0, none⟩))).setCell ⟨x, 2, none⟩ (.pointer (some ⟨n5, 0, none⟩))).setCell ⟨n5, 1, none⟩ (.pointer (some ⟨x, 0, none⟩))).setCell ⟨root, 2, none⟩ (.pointer (some ⟨x, 0, none⟩))).drewN k → QSt w rb root mb bnd ((x, hx) :: (P ++ B)) w5 from fun w5 k e => HQ.out.again rg4 mv4 bl4 hn5 e hrc5)
          clear rg4 rc4 mv4 bl4 nd4 hn5 hc5 hrc5 d5 hv5 hx1 hx2 sub5 r1 k0'
          go_wp2_with (go_at_call 39; refine HF5.out.mono ?_; rintro e w5 ⟨rfl, ⟨k5, hk5⟩⟩; have Q5 := Aside0.mk (S5.out w5 k5 hk5); clear hk5)
          go_roundw
          case rel => exact ⟨i + 1, by omega, by go_num, by rw [HIT.out]; go_num, ⟨⟨bnd, _, by have := HK.out.1; omega, Q5.out, by rw [HCC.out]; rfl, by have := HK.out.2.2; simp only [List.length_append, List.length_cons] at this ⊢; omega⟩⟩⟩
          case measure => simp [intOf]; omega
      · have hstep : qst again n (qC L n again i) ((L.getD i 0 : Nat) : Int) = ((hx :: K.map (·.2)).take n, false) := by
          rw [HHX.out, ← HK.out.2.1]
          unfold qst
          rw [if_neg hin]
        have HIT := Aside0.mk (show qH L n again (i + 1) = qq by simp only [qH]; rw [hstep, HQQ.out]; rfl)
        have HCC := Aside0.mk (show qC L n again (i + 1) = (hx :: K.map (·.2)).take n by simp only [qC]; rw [hstep])
        have HF := Aside0.mk (atF_none hin)
        have HM := Aside0.mk HQ.out.map
        have HIN := Aside0.mk hin
        clear hstep hin
        by_cases hn0 : n = 0
        · have g1 : decide ((0 : Int) < (n : Int)) = false := decide_eq_false (by omega)
          have g2 : decide (0 < n) = false := decide_eq_false (by omega)
          have HN0 := Aside0.mk hn0
          clear hn0
          go_wp2_with (at_lookup; refine wpList_mapv_miss _ rfl (.tmp 33) (.tmp 34) 56 54 rfl Try.underlying56 (.pointer none) (zero54 _) .nil [] rfl ptrElem_nil mb bnd _ _ rfl HM.out hx WFX.out rfl HF.out ?_)
          go_roundw
          case rel => exact ⟨i + 1, by omega, by go_num, by rw [HIT.out], ⟨⟨bnd, K, by have := HK.out.1; omega, HQ.out, by rw [HCC.out]; have h := HK.out.2.2; rw [HN0.out] at h ⊢; obtain rfl : K = [] := List.eq_nil_of_length_eq_zero (by omega); rfl, HK.out.2.2⟩⟩⟩
          case measure => simp [intOf]; omega
        · have g1 : decide ((0 : Int) < (n : Int)) = true := decide_eq_true (by omega)
          have g2 : decide (0 < n) = true := decide_eq_true (by omega)
          have HTK := Aside0.mk (take_walk HQ.out hx WFX.out HIN.out n (by omega) HK.out.2.2 (by have h := HK.out.2.1; have := congrArg List.length h; have := HQ.out.map; have h3 := qC_len L n again i; rw [List.length_map] at *; omega) (by have := HK.out.1; have := HL.out; omega) hnn)
          clear hn0
          go_wp2_with (first
            | (at_lookup; refine wpList_mapv_miss _ rfl (.tmp 33) (.tmp 34) 56 54 rfl Try.underlying56 (.pointer none) (zero54 _) .nil [] rfl ptrElem_nil mb bnd _ _ rfl HM.out hx WFX.out rfl HF.out ?_)
            | (go_at_call 40; refine HTK.out.mono ?_; rintro e w5 ⟨rfl, h5⟩; have Q5 := Aside0.mk h5; clear h5))
          go_roundw
          case rel => exact ⟨i + 1, by omega, by go_num, by rw [HIT.out], ⟨⟨bnd + 1, _, by have := HK.out.1; omega, Q5.out, by rw [HCC.out, List.map_take, List.map_cons], by rw [List.length_take]; omega⟩⟩⟩
          case measure => simp [intOf]; omega
    · obtain rfl : i = ln := by omega
      have HB := Aside0.mk (show Below w.heap.size w wr from by obtain ⟨_, _, _, h, _⟩ := HD.out; exact h.below)
      clear HD
      go_wp2
      go_ret2
      exact ⟨rfl, HB.out⟩
set_option maxHeartbeats 4000000 in
set_option maxRecDepth 100000 in
theorem queue_long (A : Option Addr) (c ln : Nat) (n : Int) (again : Bool) (w : World) (h : ∀ w', Below w.heap.size w w' → Calls Try.prog 29 #[.slice A ln c] w' fun e w'' => e = .returned (.int .i64 270) ∧ Drawn0 w' w'') :
    Calls Try.prog 28 #[.slice A ln c, .int .i64 n, .bool again] w fun e w' => e = .returned (.tuple #[.int .i64 0, .int .i64 270]) ∧ Below w.heap.size w w' := by
  have H := Aside0.mk h
  clear h
  go_enter Try.func28, Try.ntmps28
  go_wp2_with (go_at_call 29; refine (H.out w (Below.refl _ _)).mono ?_; rintro e w1 ⟨rfl, ⟨n1, hn1⟩⟩; have B1 := Aside0.mk (show Below w.heap.size w w1 by rw [hn1]; exact pw_below_drewN (Below.refl _ _) n1); clear hn1)
  go_ret2
  exact ⟨rfl, B1.out⟩
set_option maxHeartbeats 4000000 in
set_option maxRecDepth 100000 in
theorem queue_neg (A : Option Addr) (c ln : Nat) (n : Int) (hn : n < 0) (again : Bool) (w : World) (h : ∀ w', Below w.heap.size w w' → Calls Try.prog 29 #[.slice A ln c] w' fun e w'' => e = .returned (.int .i64 0) ∧ Drawn0 w' w'') :
    Calls Try.prog 28 #[.slice A ln c, .int .i64 n, .bool again] w fun e w' => e = .returned (.tuple #[.int .i64 0, .int .i64 1]) ∧ Below w.heap.size w w' := by
  have H := Aside0.mk h
  have g := decide_eq_true hn
  clear h hn
  go_enter Try.func28, Try.ntmps28
  go_wp2_with (go_at_call 29; refine (H.out w (Below.refl _ _)).mono ?_; rintro e w1 ⟨rfl, ⟨n1, hn1⟩⟩; have B1 := Aside0.mk (show Below w.heap.size w w1 by rw [hn1]; exact pw_below_drewN (Below.refl _ _) n1); clear hn1)
  go_ret2
  exact ⟨rfl, B1.out⟩
/-- What a cache answers. -/
def queueF (l0 : List Int) (n : Int) (again : Bool) : Option (Int × Int) := if (l0.length : Int) > 1024 then some (0, 270) else if n < 0 then some (0, 1) else if (∀ x ∈ l0, 0 ≤ x ∧ x < 18446744073709551616) ∧ n < 9223372036854775808 then some (((qH (l0.map Int.toNat) n.toNat again l0.length : Nat) : Int), 0) else none
theorem queue_calls (A0 : Option Addr) (c0 : Nat) (l0 : List Int) (a1 : Int) (a2 : Bool) (r1 : Int) (r2 : Int) (w : World) (hr0 : Kd.C (Kd.int .u64) w A0 l0.length l0) (hc0 : l0.length ≤ c0) (h : queueF l0 a1 a2 = some (r1, r2)) :
    Calls Try.prog 28 #[.slice A0 l0.length c0, .int .i64 a1, .bool a2] w fun e w' => e = .returned (.tuple #[.int .i64 r1, .int .i64 r2]) ∧ Below w.heap.size w w' := by
  unfold queueF at h
  by_cases c : (l0.length : Int) > 1024
  · rw [if_pos c] at h
    injection h with h; injection h with h1 h2; subst h1 h2
    exact queue_long A0 c0 l0.length a1 a2 w (long_call A0 c0 l0 w hr0 hc0 c)
  · rw [if_neg c] at h
    have hs : ∀ w', Below w.heap.size w w' → Calls Try.prog 29 #[.slice A0 l0.length c0] w' fun e w'' => e = .returned (.int .i64 0) ∧ Drawn0 w' w'' :=
      fun w' hb => curve_tooLong.calls A0 c0 l0 0 w' (Kd.C_below hr0 hb) hc0 (by unfold curve_tooLong.f; rw [if_neg c])
    by_cases c2 : a1 < 0
    · rw [if_pos c2] at h
      injection h with h; injection h with h1 h2; subst h1 h2
      exact queue_neg A0 c0 l0.length a1 c2 a2 w hs
    · rw [if_neg c2] at h
      by_cases hw : (∀ x ∈ l0, 0 ≤ x ∧ x < 18446744073709551616) ∧ a1 < 9223372036854775808
      · rw [if_pos hw] at h
        injection h with h; injection h with h1 h2; subst h1 h2
        have e := zs_toNat hw.1
        have hl : (l0.map Int.toNat).length = l0.length := List.length_map ..
        have := queue_walk a2 A0 c0 (l0.map Int.toNat) (by rw [hl]; omega) (fun x hx => by obtain ⟨y, hy, rfl⟩ := List.mem_map.1 hx; have := hw.1 y hy; omega) a1.toNat (by omega) w (by rw [e]; exact hr0) (by rw [hl]; exact hc0)
        rw [hl, Int.toNat_of_nonneg (by omega)] at this
        exact this
      · rw [if_neg hw] at h; cases h
end Go.Proofs.Yteaidghanfjigaa.QCurveCurves
