/- The loop of the law GeomApart: its rounds, its end (wip/tools/scratch/genApart.py prints it).
   No condition. -/
import Derived.Test.YtdmcihajgcdhmaaPlace
import Derived.ArgAppend
import Derived.BigRegion
import Derived.Deep.QuietTactic
import Derived.BigQuiet
import Derived.Deep.RegionHeld3
import Derived.RegionTactic
import Derived.Deep.RegionLaw
import Derived.StillTailTactics
import Derived.WalkSpells
import Derived.Lib.SliceRun
namespace Go.Proofs.Ytdmcihajgcdhmaa.QGeomApart
open Geo
open Go.RowKit Go.Proofs.YtdmcihajgcdhmaaW.PrintWords Go.Proofs.YtdmcihajgcdhmaaW.PrintLast Go.Proofs.YtdmcihajgcdhmaaW.PrintMore
set_option linter.unusedVariables false
set_option linter.unusedSimpArgs false
set_option linter.unusedSectionVars false
/-! ### The loop of GeomApart, cut into declarations -/
def firstLoop : Code → Option Code
  | .loop c => some c
  | .seq a b => match firstLoop a with
    | some c => some c
    | none => firstLoop b
  | .block _ c => firstLoop c
  | .scope c => firstLoop c
  | .cond _ a b => match firstLoop a with
    | some c => some c
    | none => firstLoop b
  | _ => none
noncomputable def body : Code := (Try.f15.body.bind firstLoop).getD .skip
/-- What a round finds. -/
structure Rd (p s r a head foot mo : Int) (A3 A5 : Option Addr) (g ln : Nat) (ns : List Int) (L : List S60) (m : Int) (wr : World) : Prop where
  y0 : wr.cell? ⟨g, 0, none⟩ = some (.int .i64 p)
  y1 : wr.cell? ⟨g, 1, none⟩ = some (.int .i64 s)
  y2 : wr.cell? ⟨g, 2, none⟩ = some (.int .i64 r)
  y3 : wr.cell? ⟨g, 3, none⟩ = some (.int .i64 a)
  C3 : Kd.C (Kd.int .i64) wr A3 ns.length ns
  CL : Kd.C k60 wr A5 L.length L
  hns : ns.length = ln
  hL : L.length = ln
  hmo : p * s - foot = mo
  sd : Said p s r a head foot ns L m
theorem Rd.box {p s r a head foot mo : Int} {A3 A5 : Option Addr} {g ln : Nat} {ns : List Int} {L : List S60} {m : Int} {wr w' : World} (h : Rd p s r a head foot mo A3 A5 g ln ns L m wr) (hb : Below wr.heap.size wr w') : Rd p s r a head foot mo A3 A5 g ln ns L m w' :=
  ⟨pw_cell_below hb h.y0, pw_cell_below hb h.y1, pw_cell_below hb h.y2, pw_cell_below hb h.y3, Kd.C_below h.C3 hb, Kd.C_below h.CL hb, h.hns, h.hL, h.hmo, h.sd⟩
/-- The numbers of a round. -/
structure Nm (p s r a head foot mo : Int) (ns : List Int) (L : List S60) (k : Nat) (x0 x1 x2 : Int) : Prop where
  hX : L.getD k z60 = ⟨x0, x1, x2⟩
  hn : ns.getD k 0 = x2
  rem : x1.tmod a = 0
  a0 : ¬ a = 0
  lo : head ≤ x1
  hi : x1 + x2 ≤ mo
  x1b : 0 ≤ x1 ∧ x1 ≤ 300000
  x2b : 1 ≤ x2 ∧ x2 ≤ 300000
  mob : 0 ≤ mo ∧ mo ≤ 262144
  rg : x0 < r
theorem Rd.nm {p s r a head foot mo : Int} {A3 A5 : Option Addr} {g ln : Nat} {ns : List Int} {L : List S60} {m : Int} {wr : World} (h : Rd p s r a head foot mo A3 A5 g ln ns L m wr) (k : Nat) (hk : k < ln) : ∃ x0 x1 x2, Nm p s r a head foot mo ns L k x0 x1 x2 := by
  obtain ⟨l1, l2, l3, l4, l5, l6, l7, l8, l9⟩ := h.sd.one k (by rw [h.hns]; exact hk)
  have bd := Ok.bounds h.sd.ok
  have hh := h.sd.hh
  have hab := upA_facts (a := a) (n := head) (by omega)
  have hmo := h.hmo
  obtain ⟨⟨x0, x1, x2⟩, hX⟩ : ∃ X, L.getD k z60 = X := ⟨_, rfl⟩
  rw [hX] at l1 l3 l4 l5 l6 l9
  simp only at l1 l3 l4 l5 l6 l9
  rw [hmo] at l5
  refine ⟨x0, x1, x2, hX, l1.symm, ?_, by omega, by omega, l5, ?_, ?_, ?_, l6⟩
  · rw [Int.tmod_eq_emod_of_nonneg (by omega)]; exact l3
  · omega
  · omega
  · omega
/-- The record ahead, and the place behind it. -/
structure Pv (p s r a head foot mo : Int) (L : List S60) (k : Nat) (x0 x1 x2 u0 u1 u2 nx : Int) : Prop where
  hU : L.getD (k - 1) z60 = ⟨u0, u1, u2⟩
  up : cellarref02_Up.f (0 + 5000) p s r a (u1 + u2) = some (nx, 0)
  ub : 0 ≤ u1 + u2 ∧ u1 + u2 ≤ 300000
  u0b : 0 ≤ u0 ∧ u0 ≤ 256
  nxb : 0 ≤ nx ∧ nx ≤ 300000
  fin : (nx > mo - x2 ∧ x0 = u0 + 1) ∨ (¬ nx > mo - x2 ∧ x0 = u0 ∧ x1 = nx)
theorem Rd.pv {p s r a head foot mo : Int} {A3 A5 : Option Addr} {g ln : Nat} {ns : List Int} {L : List S60} {m : Int} {wr : World} (h : Rd p s r a head foot mo A3 A5 g ln ns L m wr) (k : Nat) (hk : k < ln) (hk0 : ¬ k = 0) {x0 x1 x2 : Int} (hN : Nm p s r a head foot mo ns L k x0 x1 x2) : ∃ u0 u1 u2 nx, Pv p s r a head foot mo L k x0 x1 x2 u0 u1 u2 nx := by
  obtain ⟨j, rfl⟩ : ∃ j, k = j + 1 := ⟨k - 1, by omega⟩
  obtain ⟨l1, l2, l3, l4, l5, l6, l7, l8, l9⟩ := h.sd.one (j + 1) (by rw [h.hns]; exact hk)
  obtain ⟨q1, q2, q3, q4, q5, q6, q7, q8, q9⟩ := h.sd.one j (by rw [h.hns]; omega)
  have bd := Ok.bounds h.sd.ok
  have hh := h.sd.hh
  have hab := upA_facts (a := a) (n := head) (by omega)
  have hmo := h.hmo
  obtain ⟨⟨u0, u1, u2⟩, hU⟩ : ∃ U, L.getD j z60 = U := ⟨_, rfl⟩
  have hp : prevOf a L (upA a head) 0 (j + 1) = (upA a (u1 + u2), u0) := by
    show (upA a ((L.getD j z60).f1 + (L.getD j z60).f2), (L.getD j z60).f0) = _
    rw [hU]
  rw [hU] at q1 q3 q4 q5 q6 q9
  rw [hp, hN.hX, hN.hn, hmo] at l7 l8
  simp only at q1 q3 q4 q5 q6 q9 l7 l8
  rw [hmo] at q5
  have hua := upA_facts (a := a) (n := u1 + u2) (by omega)
  refine ⟨u0, u1, u2, upA a (u1 + u2), by rw [Nat.add_sub_cancel]; exact hU, rup_yes 0 h.sd.ok (by omega) (by omega), by omega, by omega, by omega, ?_⟩
  by_cases c : upA a (u1 + u2) > mo - x2
  · rw [if_pos c] at l7; exact .inl ⟨c, l7⟩
  · rw [if_neg c] at l7 l8; exact .inr ⟨c, l7, l8⟩

set_option maxHeartbeats 8000000 in
set_option maxRecDepth 1000000 in
theorem round_0 {p s r a head foot mo : Int} {A3 A5 : Option Addr} {c3 c5 g ln : Nat} {ns : List Int} {L : List S60} {m : Int} {wr : World} (k : Nat) (d0 d1 d8 d9 d17 d18 d19 d20 d21 d22 d23 d24 d25 d26 d27 d28 d29 d30 d31 d32 d33 d34 d35 d36 d37 d38 d39 d40 d41 d42 d43 d44 d45 d46 d47 d48 d49 d50 d51 d52 d53 d54 d55 d56 d57 d58 d59 d60 d61 d164 d165 d166 d167 d168 d169 d170 d171 d172 d173 d174 d175 d176 d177 d178 u2 u11 u12 u13 u14 u15 u16 u65 u66 u67 u68 u69 u70 u71 u72 u73 u74 u75 u76 u77 u78 u79 u80 u81 u82 u83 u84 u85 u86 u87 u88 u89 u90 u91 u92 u93 u94 u95 u96 u97 u98 u99 u100 u101 u102 u103 u104 u105 u106 u107 u108 u109 u110 u111 u112 u113 u114 u115 u116 u117 u118 u119 u120 u121 u122 u123 u124 u125 u126 u127 u128 u129 u130 u131 u132 u133 u134 u135 u136 u137 u138 u139 u140 u141 u142 u143 u144 u145 u146 u147 u148 u149 u150 u151 u152 u153 u154 u155 u156 u157 u158 u159 u160 u161 u162 u163 : Value) (hlt : k < ln) (H : Rd p s r a head foot mo A3 A5 g ln ns L m wr) (hk0 : k = 0) (Q : Exit → Act → World → Prop) (hQ : ∀ (v2 v11 v12 v13 v14 v15 v16 v65 v66 v67 v68 v69 v70 v71 v72 v73 v74 v75 v76 v77 v78 v79 v80 v81 v82 v83 v84 v85 v86 v87 v88 v89 v90 v91 v92 v93 v94 v95 v96 v97 v98 v99 v100 v101 v102 v103 v104 v105 v106 v107 v108 v109 v110 v111 v112 v113 v114 v115 v116 v117 v118 v119 v120 v121 v122 v123 v124 v125 v126 v127 v128 v129 v130 v131 v132 v133 v134 v135 v136 v137 v138 v139 v140 v141 v142 v143 v144 v145 v146 v147 v148 v149 v150 v151 v152 v153 v154 v155 v156 v157 v158 v159 v160 v161 v162 v163 : Value) (w' : World), Below wr.heap.size wr w' → Q .normal ⟨#[d0, d1, v2, .pointer (some ⟨g, 0, none⟩), .int .i64 head, .int .i64 foot, .slice A3 ln c3, .slice A5 ln c5, d8, d9, .int .i64 mo, v11, v12, v13, v14, v15, v16, d17, d18, d19, d20, d21, d22, d23, d24, d25, d26, d27, d28, d29, d30, d31, d32, d33, d34, d35, d36, d37, d38, d39, d40, d41, d42, d43, d44, d45, d46, d47, d48, d49, d50, d51, d52, d53, d54, d55, d56, d57, d58, d59, d60, d61, .slice A5 ln c5, .int .i64 (ln : Int), .int .i64 (k + 1 : Int), v65, v66, v67, v68, v69, v70, v71, v72, v73, v74, v75, v76, v77, v78, v79, v80, v81, v82, v83, v84, v85, v86, v87, v88, v89, v90, v91, v92, v93, v94, v95, v96, v97, v98, v99, v100, v101, v102, v103, v104, v105, v106, v107, v108, v109, v110, v111, v112, v113, v114, v115, v116, v117, v118, v119, v120, v121, v122, v123, v124, v125, v126, v127, v128, v129, v130, v131, v132, v133, v134, v135, v136, v137, v138, v139, v140, v141, v142, v143, v144, v145, v146, v147, v148, v149, v150, v151, v152, v153, v154, v155, v156, v157, v158, v159, v160, v161, v162, v163, d164, d165, d166, d167, d168, d169, d170, d171, d172, d173, d174, d175, d176, d177, d178], []⟩ w') :
    Code.wp Try.prog body Q ⟨#[d0, d1, u2, .pointer (some ⟨g, 0, none⟩), .int .i64 head, .int .i64 foot, .slice A3 ln c3, .slice A5 ln c5, d8, d9, .int .i64 mo, u11, u12, u13, u14, u15, u16, d17, d18, d19, d20, d21, d22, d23, d24, d25, d26, d27, d28, d29, d30, d31, d32, d33, d34, d35, d36, d37, d38, d39, d40, d41, d42, d43, d44, d45, d46, d47, d48, d49, d50, d51, d52, d53, d54, d55, d56, d57, d58, d59, d60, d61, .slice A5 ln c5, .int .i64 (ln : Int), .int .i64 (k : Int), u65, u66, u67, u68, u69, u70, u71, u72, u73, u74, u75, u76, u77, u78, u79, u80, u81, u82, u83, u84, u85, u86, u87, u88, u89, u90, u91, u92, u93, u94, u95, u96, u97, u98, u99, u100, u101, u102, u103, u104, u105, u106, u107, u108, u109, u110, u111, u112, u113, u114, u115, u116, u117, u118, u119, u120, u121, u122, u123, u124, u125, u126, u127, u128, u129, u130, u131, u132, u133, u134, u135, u136, u137, u138, u139, u140, u141, u142, u143, u144, u145, u146, u147, u148, u149, u150, u151, u152, u153, u154, u155, u156, u157, u158, u159, u160, u161, u162, u163, d164, d165, d166, d167, d168, d169, d170, d171, d172, d173, d174, d175, d176, d177, d178], []⟩ wr := by
  have HK0 := Aside0.mk hk0
  clear hk0
  obtain ⟨x0, x1, x2, hN⟩ := H.nm k hlt
  obtain ⟨ad5, e5, k0, k1, k2⟩ := at_T60 H.CL (k : Int) (by omega) (by rw [H.hL]; omega)
  obtain ⟨ad3, e3, k3⟩ := Kd.at_int H.C3 (k : Int) (by omega) (by rw [H.hns]; omega)
  subst e5 e3
  rw [show rd_T60 L (k : Int) = L.getD k z60 from rfl, hN.hX] at k0 k1 k2
  rw [show rd ns (k : Int) = ns.getD k 0 from rfl, hN.hn] at k3
  simp only [Int.toNat_natCast] at k0 k1 k2 k3
  have HH := Aside0.mk H
  have HN := Aside0.mk hN
  have HQ := Aside0.mk hQ
  have HLT := Aside0.mk hlt
  have hln63 : ln ≤ 9223372036854775807 := by rw [← H.hL]; exact H.CL.2.1
  have HL63 := Aside0.mk hln63
  have K3 := Aside0.mk k3
  have ix : decide ((k : Int) < (ln : Int)) = true := decide_eq_true (by omega)
  clear H hN hQ k3
  conv => arg 2; whnf
  go_upto_region 13 with (fail)
  obtain ⟨wx, hwx⟩ : ∃ wx, wr.alloc (.cells #[.int .i64 x0, .int .i64 x1, .int .i64 x2] 60) = wx := ⟨_, rfl⟩
  obtain ⟨gx, hgx⟩ : ∃ gx, wr.heap.size = gx := ⟨_, rfl⟩
  have hbx := Aside0.mk (show Below wr.heap.size wr wx by rw [← hwx]; exact below_alloc (Below.refl _ _) _)
  have hnx := Aside0.mk (show wx.heap[gx]? = some (.cells #[.int .i64 x0, .int .i64 x1, .int .i64 x2] 60 (0, 0)) by rw [← hwx, ← hgx]; exact blk_new _ _)
  rw [hwx, hgx]
  have HX := Aside0.mk (HH.out.box hbx.out)
  have v0 := blk_cell hnx.out 0
  have v1 := blk_cell hnx.out 1
  have v2 := blk_cell hnx.out 2
  simp only [List.getElem?_toArray, List.getElem?_cons_zero, List.getElem?_cons_succ] at v0 v1 v2
  have y2 := HX.out.y2
  have y3 := HX.out.y3
  have k3 := pw_cell_below hbx.out K3.out
  have ha0 : (a == 0) = false := by simpa using HN.out.a0
  have hane : ¬ a = 0 := HN.out.a0
  have ha2 : decide (a = 0) = false := decide_eq_false hane
  have hr : x1.tmod a = 0 := HN.out.rem
  have ha3 : IntKind.i64.wrap (x1.tmod a) = 0 := by rw [hr]; decide +kernel
  have wz : IntKind.i64.wrap 0 = 0 := by decide +kernel
  have g1 : decide (x1 < head) = false := decide_eq_false (by have := HN.out.lo; omega)
  have g2 : IntKind.i64.wrap (x1 + x2) = x1 + x2 := IntWalk.i64_in _ (by have := HN.out.x1b; have := HN.out.x2b; omega)
  have g3 : decide (mo < x1 + x2) = false := decide_eq_false (by have := HN.out.hi; omega)
  have g4 : decide (r ≤ x0) = false := decide_eq_false (by have := HN.out.rg; omega)
  have m0 : (0 : Int) ≤ (k : Int) := by omega
  have m1 : (k : Int) < (ln : Int) := by have := HLT.out; omega
  clear k0 k1 k2 hwx hgx HH K3 ix hlt hln63
  go_quiet (fail)
  obtain ⟨wy, hwy⟩ : ∃ wy, wx.drewN nq = wy := ⟨_, rfl⟩
  have hby := Aside0.mk (show Below wx.heap.size wx wy by rw [← hwy]; exact pw_below_drewN (Below.refl _ _) _)
  have HBY := Aside0.mk (hbx.out.trans (hby.out.mono hbx.out.size))
  have HY := Aside0.mk (HX.out.box hby.out)
  have NY := Aside0.mk (blk_below hnx.out hby.out)
  rw [hwy]
  clear hwy v0 v1 v2 y2 y3 k3 ha0 hane ha2 hr ha3 wz g1 g2 g3 g4 HX hnx hbx hby m0 m1
  have v0 := blk_cell NY.out 0
  simp only [List.getElem?_toArray, List.getElem?_cons_zero] at v0
  have hk62 : (k : Int) + 1 ≤ 9223372036854775807 := by have := HLT.out; have := HL63.out; omega
  have hk0 := HK0.out
  have hx : x0 = 0 := by
    obtain ⟨l1, l2, l3, l4, l5, l6, l7, l8, l9⟩ := HY.out.sd.one k (by rw [HY.out.hns]; exact HLT.out)
    have hN := HN.out
    rw [hN.hX, hN.hn] at l7
    have bd := Ok.bounds HY.out.sd.ok
    obtain ⟨q1, q2, q3, q4, q5, q6, q7, q8, q9⟩ := HY.out.sd.one k (by rw [HY.out.hns]; exact HLT.out)
    rw [hN.hX] at q4 q5
    subst hk0
    have hmo := HY.out.hmo
    have hx2 := hN.x2b
    simp only at q4 q5 l7
    rw [l7]
    exact if_neg (by show ¬ upA a head > p * s - foot - x2; omega)
  have hkz : ((k : Int) == 0) = true := by subst hk0; rfl
  subst hx
  clear hk0
  go_wp2
  exact HQ.out _ _ _ _ _ _ _ _ _ _ _ _ _ _ _ _ _ _ _ _ _ _ _ _ _ _ _ _ _ _ _ _ _ _ _ _ _ _ _ _ _ _ _ _ _ _ _ _ _ _ _ _ _ _ _ _ _ _ _ _ _ _ _ _ _ _ _ _ _ _ _ _ _ _ _ _ _ _ _ _ _ _ _ _ _ _ _ _ _ _ _ _ _ _ _ _ _ _ _ _ _ _ _ _ _ _ _ HBY.out

set_option maxHeartbeats 8000000 in
set_option maxRecDepth 1000000 in
theorem round_a {p s r a head foot mo : Int} {A3 A5 : Option Addr} {c3 c5 g ln : Nat} {ns : List Int} {L : List S60} {m : Int} {wr : World} (k : Nat) (d0 d1 d8 d9 d17 d18 d19 d20 d21 d22 d23 d24 d25 d26 d27 d28 d29 d30 d31 d32 d33 d34 d35 d36 d37 d38 d39 d40 d41 d42 d43 d44 d45 d46 d47 d48 d49 d50 d51 d52 d53 d54 d55 d56 d57 d58 d59 d60 d61 d164 d165 d166 d167 d168 d169 d170 d171 d172 d173 d174 d175 d176 d177 d178 u2 u11 u12 u13 u14 u15 u16 u65 u66 u67 u68 u69 u70 u71 u72 u73 u74 u75 u76 u77 u78 u79 u80 u81 u82 u83 u84 u85 u86 u87 u88 u89 u90 u91 u92 u93 u94 u95 u96 u97 u98 u99 u100 u101 u102 u103 u104 u105 u106 u107 u108 u109 u110 u111 u112 u113 u114 u115 u116 u117 u118 u119 u120 u121 u122 u123 u124 u125 u126 u127 u128 u129 u130 u131 u132 u133 u134 u135 u136 u137 u138 u139 u140 u141 u142 u143 u144 u145 u146 u147 u148 u149 u150 u151 u152 u153 u154 u155 u156 u157 u158 u159 u160 u161 u162 u163 : Value) (hlt : k < ln) (H : Rd p s r a head foot mo A3 A5 g ln ns L m wr) (hk0 : ¬ k = 0) (hc : ∀ x0 x1 x2 u0 u1 u2 nx : Int, Nm p s r a head foot mo ns L k x0 x1 x2 → Pv p s r a head foot mo L k x0 x1 x2 u0 u1 u2 nx → nx ≤ mo ∧ nx > mo - x2 ∧ x0 = u0 + 1) (Q : Exit → Act → World → Prop) (hQ : ∀ (v2 v11 v12 v13 v14 v15 v16 v65 v66 v67 v68 v69 v70 v71 v72 v73 v74 v75 v76 v77 v78 v79 v80 v81 v82 v83 v84 v85 v86 v87 v88 v89 v90 v91 v92 v93 v94 v95 v96 v97 v98 v99 v100 v101 v102 v103 v104 v105 v106 v107 v108 v109 v110 v111 v112 v113 v114 v115 v116 v117 v118 v119 v120 v121 v122 v123 v124 v125 v126 v127 v128 v129 v130 v131 v132 v133 v134 v135 v136 v137 v138 v139 v140 v141 v142 v143 v144 v145 v146 v147 v148 v149 v150 v151 v152 v153 v154 v155 v156 v157 v158 v159 v160 v161 v162 v163 : Value) (w' : World), Below wr.heap.size wr w' → Q .normal ⟨#[d0, d1, v2, .pointer (some ⟨g, 0, none⟩), .int .i64 head, .int .i64 foot, .slice A3 ln c3, .slice A5 ln c5, d8, d9, .int .i64 mo, v11, v12, v13, v14, v15, v16, d17, d18, d19, d20, d21, d22, d23, d24, d25, d26, d27, d28, d29, d30, d31, d32, d33, d34, d35, d36, d37, d38, d39, d40, d41, d42, d43, d44, d45, d46, d47, d48, d49, d50, d51, d52, d53, d54, d55, d56, d57, d58, d59, d60, d61, .slice A5 ln c5, .int .i64 (ln : Int), .int .i64 (k + 1 : Int), v65, v66, v67, v68, v69, v70, v71, v72, v73, v74, v75, v76, v77, v78, v79, v80, v81, v82, v83, v84, v85, v86, v87, v88, v89, v90, v91, v92, v93, v94, v95, v96, v97, v98, v99, v100, v101, v102, v103, v104, v105, v106, v107, v108, v109, v110, v111, v112, v113, v114, v115, v116, v117, v118, v119, v120, v121, v122, v123, v124, v125, v126, v127, v128, v129, v130, v131, v132, v133, v134, v135, v136, v137, v138, v139, v140, v141, v142, v143, v144, v145, v146, v147, v148, v149, v150, v151, v152, v153, v154, v155, v156, v157, v158, v159, v160, v161, v162, v163, d164, d165, d166, d167, d168, d169, d170, d171, d172, d173, d174, d175, d176, d177, d178], []⟩ w') :
    Code.wp Try.prog body Q ⟨#[d0, d1, u2, .pointer (some ⟨g, 0, none⟩), .int .i64 head, .int .i64 foot, .slice A3 ln c3, .slice A5 ln c5, d8, d9, .int .i64 mo, u11, u12, u13, u14, u15, u16, d17, d18, d19, d20, d21, d22, d23, d24, d25, d26, d27, d28, d29, d30, d31, d32, d33, d34, d35, d36, d37, d38, d39, d40, d41, d42, d43, d44, d45, d46, d47, d48, d49, d50, d51, d52, d53, d54, d55, d56, d57, d58, d59, d60, d61, .slice A5 ln c5, .int .i64 (ln : Int), .int .i64 (k : Int), u65, u66, u67, u68, u69, u70, u71, u72, u73, u74, u75, u76, u77, u78, u79, u80, u81, u82, u83, u84, u85, u86, u87, u88, u89, u90, u91, u92, u93, u94, u95, u96, u97, u98, u99, u100, u101, u102, u103, u104, u105, u106, u107, u108, u109, u110, u111, u112, u113, u114, u115, u116, u117, u118, u119, u120, u121, u122, u123, u124, u125, u126, u127, u128, u129, u130, u131, u132, u133, u134, u135, u136, u137, u138, u139, u140, u141, u142, u143, u144, u145, u146, u147, u148, u149, u150, u151, u152, u153, u154, u155, u156, u157, u158, u159, u160, u161, u162, u163, d164, d165, d166, d167, d168, d169, d170, d171, d172, d173, d174, d175, d176, d177, d178], []⟩ wr := by
  have HC := Aside0.mk hc
  clear hc
  obtain ⟨x0, x1, x2, hN⟩ := H.nm k hlt
  obtain ⟨ad5, e5, k0, k1, k2⟩ := at_T60 H.CL (k : Int) (by omega) (by rw [H.hL]; omega)
  obtain ⟨ad3, e3, k3⟩ := Kd.at_int H.C3 (k : Int) (by omega) (by rw [H.hns]; omega)
  subst e5 e3
  rw [show rd_T60 L (k : Int) = L.getD k z60 from rfl, hN.hX] at k0 k1 k2
  rw [show rd ns (k : Int) = ns.getD k 0 from rfl, hN.hn] at k3
  simp only [Int.toNat_natCast] at k0 k1 k2 k3
  have HH := Aside0.mk H
  have HN := Aside0.mk hN
  have HQ := Aside0.mk hQ
  have HLT := Aside0.mk hlt
  have hln63 : ln ≤ 9223372036854775807 := by rw [← H.hL]; exact H.CL.2.1
  have HL63 := Aside0.mk hln63
  have K3 := Aside0.mk k3
  have ix : decide ((k : Int) < (ln : Int)) = true := decide_eq_true (by omega)
  clear H hN hQ k3
  conv => arg 2; whnf
  go_upto_region 13 with (fail)
  obtain ⟨wx, hwx⟩ : ∃ wx, wr.alloc (.cells #[.int .i64 x0, .int .i64 x1, .int .i64 x2] 60) = wx := ⟨_, rfl⟩
  obtain ⟨gx, hgx⟩ : ∃ gx, wr.heap.size = gx := ⟨_, rfl⟩
  have hbx := Aside0.mk (show Below wr.heap.size wr wx by rw [← hwx]; exact below_alloc (Below.refl _ _) _)
  have hnx := Aside0.mk (show wx.heap[gx]? = some (.cells #[.int .i64 x0, .int .i64 x1, .int .i64 x2] 60 (0, 0)) by rw [← hwx, ← hgx]; exact blk_new _ _)
  rw [hwx, hgx]
  have HX := Aside0.mk (HH.out.box hbx.out)
  have v0 := blk_cell hnx.out 0
  have v1 := blk_cell hnx.out 1
  have v2 := blk_cell hnx.out 2
  simp only [List.getElem?_toArray, List.getElem?_cons_zero, List.getElem?_cons_succ] at v0 v1 v2
  have y2 := HX.out.y2
  have y3 := HX.out.y3
  have k3 := pw_cell_below hbx.out K3.out
  have ha0 : (a == 0) = false := by simpa using HN.out.a0
  have hane : ¬ a = 0 := HN.out.a0
  have ha2 : decide (a = 0) = false := decide_eq_false hane
  have hr : x1.tmod a = 0 := HN.out.rem
  have ha3 : IntKind.i64.wrap (x1.tmod a) = 0 := by rw [hr]; decide +kernel
  have wz : IntKind.i64.wrap 0 = 0 := by decide +kernel
  have g1 : decide (x1 < head) = false := decide_eq_false (by have := HN.out.lo; omega)
  have g2 : IntKind.i64.wrap (x1 + x2) = x1 + x2 := IntWalk.i64_in _ (by have := HN.out.x1b; have := HN.out.x2b; omega)
  have g3 : decide (mo < x1 + x2) = false := decide_eq_false (by have := HN.out.hi; omega)
  have g4 : decide (r ≤ x0) = false := decide_eq_false (by have := HN.out.rg; omega)
  have m0 : (0 : Int) ≤ (k : Int) := by omega
  have m1 : (k : Int) < (ln : Int) := by have := HLT.out; omega
  clear k0 k1 k2 hwx hgx HH K3 ix hlt hln63
  go_quiet (fail)
  obtain ⟨wy, hwy⟩ : ∃ wy, wx.drewN nq = wy := ⟨_, rfl⟩
  have hby := Aside0.mk (show Below wx.heap.size wx wy by rw [← hwy]; exact pw_below_drewN (Below.refl _ _) _)
  have HBY := Aside0.mk (hbx.out.trans (hby.out.mono hbx.out.size))
  have HY := Aside0.mk (HX.out.box hby.out)
  have NY := Aside0.mk (blk_below hnx.out hby.out)
  rw [hwy]
  clear hwy v0 v1 v2 y2 y3 k3 ha0 hane ha2 hr ha3 wz g1 g2 g3 g4 HX hnx hbx hby m0 m1
  have v0 := blk_cell NY.out 0
  simp only [List.getElem?_toArray, List.getElem?_cons_zero] at v0
  have hk62 : (k : Int) + 1 ≤ 9223372036854775807 := by have := HLT.out; have := HL63.out; omega
  have hkz : ((k : Int) == 0) = false := by rw [beq_eq_false_iff_ne]; omega
  obtain ⟨t0, t1, t2, nx, hP⟩ := HY.out.pv k HLT.out hk0 HN.out
  have HC2 := Aside0.mk (HC.out _ _ _ _ _ _ _ HN.out hP)
  have HP := Aside0.mk hP
  obtain ⟨ad6, e6, j0, j1, j2⟩ := at_T60 HY.out.CL ((k - 1 : Nat) : Int) (by omega) (by rw [HY.out.hL]; have := HLT.out; omega)
  obtain rfl := Option.some.inj e6
  rw [show rd_T60 L ((k - 1 : Nat) : Int) = L.getD (k - 1) z60 from rfl, hP.hU] at j0 j1 j2
  simp only [Int.toNat_natCast] at j0 j1 j2
  have i0 : (0 : Int) ≤ (k : Int) - 1 := by omega
  have i1 : (k : Int) - 1 < (ln : Int) := by have := HLT.out; omega
  have hk1 : 1 ≤ k := by omega
  clear hP HC hk0
  go_upto_region 19 with (fail)
  obtain ⟨wa, hwa⟩ : ∃ wa, wy.alloc (.cells #[.int .i64 t0, .int .i64 t1, .int .i64 t2] 60) = wa := ⟨_, rfl⟩
  obtain ⟨ga, hga⟩ : ∃ ga, wy.heap.size = ga := ⟨_, rfl⟩
  have hba := Aside0.mk (show Below wy.heap.size wy wa by rw [← hwa]; exact below_alloc (Below.refl _ _) _)
  have NA := Aside0.mk (show wa.heap[ga]? = some (.cells #[.int .i64 t0, .int .i64 t1, .int .i64 t2] 60 (0, 0)) by rw [← hwa, ← hga]; exact blk_new _ _)
  rw [hwa, hga]
  have NX := Aside0.mk (blk_below NY.out hba.out)
  have HA := Aside0.mk (HY.out.box hba.out)
  have HBA := Aside0.mk (HBY.out.trans (hba.out.mono HBY.out.size))
  clear j0 j1 j2 hwa hga hba NY HY HBY v0 i0 i1 hk1 hkz
  have b1 := blk_cell NA.out 1
  have b2 := blk_cell NA.out 2
  simp only [List.getElem?_toArray, List.getElem?_cons_zero, List.getElem?_cons_succ] at b1 b2
  have y0 := HA.out.y0
  have y1 := HA.out.y1
  have y2 := HA.out.y2
  have y3 := HA.out.y3
  have wsum : wrap64 (t1 + t2) = t1 + t2 := w64 (by have := HP.out.ub; omega) (by have := HP.out.ub; omega)
  go_upto_region 20 with (go_at_call 27; refine (cellarref02_Up.calls (0 + 5000) p s r a (t1 + t2) nx 0 _ HP.out.up).mono ?_; rintro e wz ⟨rfl, hbz⟩; have HZ := Aside0.mk (HBA.out.trans (hbz.mono HBA.out.size)); have NXZ := Aside0.mk (blk_below NX.out hbz); have NAZ := Aside0.mk (blk_below NA.out hbz); clear hbz)
  clear b1 b2 y0 y1 y2 y3 wsum NX NA HA HBA
  have a0 := blk_cell NXZ.out 0
  have a1 := blk_cell NXZ.out 1
  have a2 := blk_cell NXZ.out 2
  have b0 := blk_cell NAZ.out 0
  simp only [List.getElem?_toArray, List.getElem?_cons_zero, List.getElem?_cons_succ] at a0 a1 a2 b0
  clear NXZ NAZ
  have wdif : wrap64 (mo - nx) = mo - nx := w64 (by have := HP.out.nxb; have := HN.out.mob; omega) (by have := HP.out.nxb; have := HN.out.mob; omega)
  have wreg : wrap64 (t0 + 1) = t0 + 1 := w64 (by have := HP.out.u0b; omega) (by have := HP.out.u0b; omega)
  obtain ⟨hd, hc, rfl⟩ := HC2.out
  have d1 : decide (nx ≤ mo) = true := decide_eq_true hd
  have d2 : decide (x2 ≤ mo - nx) = false := decide_eq_false (by omega)
  clear hd hc
  go_wp2
  exact HQ.out _ _ _ _ _ _ _ _ _ _ _ _ _ _ _ _ _ _ _ _ _ _ _ _ _ _ _ _ _ _ _ _ _ _ _ _ _ _ _ _ _ _ _ _ _ _ _ _ _ _ _ _ _ _ _ _ _ _ _ _ _ _ _ _ _ _ _ _ _ _ _ _ _ _ _ _ _ _ _ _ _ _ _ _ _ _ _ _ _ _ _ _ _ _ _ _ _ _ _ _ _ _ _ _ _ _ _ HZ.out

set_option maxHeartbeats 8000000 in
set_option maxRecDepth 1000000 in
theorem round_b {p s r a head foot mo : Int} {A3 A5 : Option Addr} {c3 c5 g ln : Nat} {ns : List Int} {L : List S60} {m : Int} {wr : World} (k : Nat) (d0 d1 d8 d9 d17 d18 d19 d20 d21 d22 d23 d24 d25 d26 d27 d28 d29 d30 d31 d32 d33 d34 d35 d36 d37 d38 d39 d40 d41 d42 d43 d44 d45 d46 d47 d48 d49 d50 d51 d52 d53 d54 d55 d56 d57 d58 d59 d60 d61 d164 d165 d166 d167 d168 d169 d170 d171 d172 d173 d174 d175 d176 d177 d178 u2 u11 u12 u13 u14 u15 u16 u65 u66 u67 u68 u69 u70 u71 u72 u73 u74 u75 u76 u77 u78 u79 u80 u81 u82 u83 u84 u85 u86 u87 u88 u89 u90 u91 u92 u93 u94 u95 u96 u97 u98 u99 u100 u101 u102 u103 u104 u105 u106 u107 u108 u109 u110 u111 u112 u113 u114 u115 u116 u117 u118 u119 u120 u121 u122 u123 u124 u125 u126 u127 u128 u129 u130 u131 u132 u133 u134 u135 u136 u137 u138 u139 u140 u141 u142 u143 u144 u145 u146 u147 u148 u149 u150 u151 u152 u153 u154 u155 u156 u157 u158 u159 u160 u161 u162 u163 : Value) (hlt : k < ln) (H : Rd p s r a head foot mo A3 A5 g ln ns L m wr) (hk0 : ¬ k = 0) (hc : ∀ x0 x1 x2 u0 u1 u2 nx : Int, Nm p s r a head foot mo ns L k x0 x1 x2 → Pv p s r a head foot mo L k x0 x1 x2 u0 u1 u2 nx → ¬ nx ≤ mo ∧ x0 = u0 + 1) (Q : Exit → Act → World → Prop) (hQ : ∀ (v2 v11 v12 v13 v14 v15 v16 v65 v66 v67 v68 v69 v70 v71 v72 v73 v74 v75 v76 v77 v78 v79 v80 v81 v82 v83 v84 v85 v86 v87 v88 v89 v90 v91 v92 v93 v94 v95 v96 v97 v98 v99 v100 v101 v102 v103 v104 v105 v106 v107 v108 v109 v110 v111 v112 v113 v114 v115 v116 v117 v118 v119 v120 v121 v122 v123 v124 v125 v126 v127 v128 v129 v130 v131 v132 v133 v134 v135 v136 v137 v138 v139 v140 v141 v142 v143 v144 v145 v146 v147 v148 v149 v150 v151 v152 v153 v154 v155 v156 v157 v158 v159 v160 v161 v162 v163 : Value) (w' : World), Below wr.heap.size wr w' → Q .normal ⟨#[d0, d1, v2, .pointer (some ⟨g, 0, none⟩), .int .i64 head, .int .i64 foot, .slice A3 ln c3, .slice A5 ln c5, d8, d9, .int .i64 mo, v11, v12, v13, v14, v15, v16, d17, d18, d19, d20, d21, d22, d23, d24, d25, d26, d27, d28, d29, d30, d31, d32, d33, d34, d35, d36, d37, d38, d39, d40, d41, d42, d43, d44, d45, d46, d47, d48, d49, d50, d51, d52, d53, d54, d55, d56, d57, d58, d59, d60, d61, .slice A5 ln c5, .int .i64 (ln : Int), .int .i64 (k + 1 : Int), v65, v66, v67, v68, v69, v70, v71, v72, v73, v74, v75, v76, v77, v78, v79, v80, v81, v82, v83, v84, v85, v86, v87, v88, v89, v90, v91, v92, v93, v94, v95, v96, v97, v98, v99, v100, v101, v102, v103, v104, v105, v106, v107, v108, v109, v110, v111, v112, v113, v114, v115, v116, v117, v118, v119, v120, v121, v122, v123, v124, v125, v126, v127, v128, v129, v130, v131, v132, v133, v134, v135, v136, v137, v138, v139, v140, v141, v142, v143, v144, v145, v146, v147, v148, v149, v150, v151, v152, v153, v154, v155, v156, v157, v158, v159, v160, v161, v162, v163, d164, d165, d166, d167, d168, d169, d170, d171, d172, d173, d174, d175, d176, d177, d178], []⟩ w') :
    Code.wp Try.prog body Q ⟨#[d0, d1, u2, .pointer (some ⟨g, 0, none⟩), .int .i64 head, .int .i64 foot, .slice A3 ln c3, .slice A5 ln c5, d8, d9, .int .i64 mo, u11, u12, u13, u14, u15, u16, d17, d18, d19, d20, d21, d22, d23, d24, d25, d26, d27, d28, d29, d30, d31, d32, d33, d34, d35, d36, d37, d38, d39, d40, d41, d42, d43, d44, d45, d46, d47, d48, d49, d50, d51, d52, d53, d54, d55, d56, d57, d58, d59, d60, d61, .slice A5 ln c5, .int .i64 (ln : Int), .int .i64 (k : Int), u65, u66, u67, u68, u69, u70, u71, u72, u73, u74, u75, u76, u77, u78, u79, u80, u81, u82, u83, u84, u85, u86, u87, u88, u89, u90, u91, u92, u93, u94, u95, u96, u97, u98, u99, u100, u101, u102, u103, u104, u105, u106, u107, u108, u109, u110, u111, u112, u113, u114, u115, u116, u117, u118, u119, u120, u121, u122, u123, u124, u125, u126, u127, u128, u129, u130, u131, u132, u133, u134, u135, u136, u137, u138, u139, u140, u141, u142, u143, u144, u145, u146, u147, u148, u149, u150, u151, u152, u153, u154, u155, u156, u157, u158, u159, u160, u161, u162, u163, d164, d165, d166, d167, d168, d169, d170, d171, d172, d173, d174, d175, d176, d177, d178], []⟩ wr := by
  have HC := Aside0.mk hc
  clear hc
  obtain ⟨x0, x1, x2, hN⟩ := H.nm k hlt
  obtain ⟨ad5, e5, k0, k1, k2⟩ := at_T60 H.CL (k : Int) (by omega) (by rw [H.hL]; omega)
  obtain ⟨ad3, e3, k3⟩ := Kd.at_int H.C3 (k : Int) (by omega) (by rw [H.hns]; omega)
  subst e5 e3
  rw [show rd_T60 L (k : Int) = L.getD k z60 from rfl, hN.hX] at k0 k1 k2
  rw [show rd ns (k : Int) = ns.getD k 0 from rfl, hN.hn] at k3
  simp only [Int.toNat_natCast] at k0 k1 k2 k3
  have HH := Aside0.mk H
  have HN := Aside0.mk hN
  have HQ := Aside0.mk hQ
  have HLT := Aside0.mk hlt
  have hln63 : ln ≤ 9223372036854775807 := by rw [← H.hL]; exact H.CL.2.1
  have HL63 := Aside0.mk hln63
  have K3 := Aside0.mk k3
  have ix : decide ((k : Int) < (ln : Int)) = true := decide_eq_true (by omega)
  clear H hN hQ k3
  conv => arg 2; whnf
  go_upto_region 13 with (fail)
  obtain ⟨wx, hwx⟩ : ∃ wx, wr.alloc (.cells #[.int .i64 x0, .int .i64 x1, .int .i64 x2] 60) = wx := ⟨_, rfl⟩
  obtain ⟨gx, hgx⟩ : ∃ gx, wr.heap.size = gx := ⟨_, rfl⟩
  have hbx := Aside0.mk (show Below wr.heap.size wr wx by rw [← hwx]; exact below_alloc (Below.refl _ _) _)
  have hnx := Aside0.mk (show wx.heap[gx]? = some (.cells #[.int .i64 x0, .int .i64 x1, .int .i64 x2] 60 (0, 0)) by rw [← hwx, ← hgx]; exact blk_new _ _)
  rw [hwx, hgx]
  have HX := Aside0.mk (HH.out.box hbx.out)
  have v0 := blk_cell hnx.out 0
  have v1 := blk_cell hnx.out 1
  have v2 := blk_cell hnx.out 2
  simp only [List.getElem?_toArray, List.getElem?_cons_zero, List.getElem?_cons_succ] at v0 v1 v2
  have y2 := HX.out.y2
  have y3 := HX.out.y3
  have k3 := pw_cell_below hbx.out K3.out
  have ha0 : (a == 0) = false := by simpa using HN.out.a0
  have hane : ¬ a = 0 := HN.out.a0
  have ha2 : decide (a = 0) = false := decide_eq_false hane
  have hr : x1.tmod a = 0 := HN.out.rem
  have ha3 : IntKind.i64.wrap (x1.tmod a) = 0 := by rw [hr]; decide +kernel
  have wz : IntKind.i64.wrap 0 = 0 := by decide +kernel
  have g1 : decide (x1 < head) = false := decide_eq_false (by have := HN.out.lo; omega)
  have g2 : IntKind.i64.wrap (x1 + x2) = x1 + x2 := IntWalk.i64_in _ (by have := HN.out.x1b; have := HN.out.x2b; omega)
  have g3 : decide (mo < x1 + x2) = false := decide_eq_false (by have := HN.out.hi; omega)
  have g4 : decide (r ≤ x0) = false := decide_eq_false (by have := HN.out.rg; omega)
  have m0 : (0 : Int) ≤ (k : Int) := by omega
  have m1 : (k : Int) < (ln : Int) := by have := HLT.out; omega
  clear k0 k1 k2 hwx hgx HH K3 ix hlt hln63
  go_quiet (fail)
  obtain ⟨wy, hwy⟩ : ∃ wy, wx.drewN nq = wy := ⟨_, rfl⟩
  have hby := Aside0.mk (show Below wx.heap.size wx wy by rw [← hwy]; exact pw_below_drewN (Below.refl _ _) _)
  have HBY := Aside0.mk (hbx.out.trans (hby.out.mono hbx.out.size))
  have HY := Aside0.mk (HX.out.box hby.out)
  have NY := Aside0.mk (blk_below hnx.out hby.out)
  rw [hwy]
  clear hwy v0 v1 v2 y2 y3 k3 ha0 hane ha2 hr ha3 wz g1 g2 g3 g4 HX hnx hbx hby m0 m1
  have v0 := blk_cell NY.out 0
  simp only [List.getElem?_toArray, List.getElem?_cons_zero] at v0
  have hk62 : (k : Int) + 1 ≤ 9223372036854775807 := by have := HLT.out; have := HL63.out; omega
  have hkz : ((k : Int) == 0) = false := by rw [beq_eq_false_iff_ne]; omega
  obtain ⟨t0, t1, t2, nx, hP⟩ := HY.out.pv k HLT.out hk0 HN.out
  have HC2 := Aside0.mk (HC.out _ _ _ _ _ _ _ HN.out hP)
  have HP := Aside0.mk hP
  obtain ⟨ad6, e6, j0, j1, j2⟩ := at_T60 HY.out.CL ((k - 1 : Nat) : Int) (by omega) (by rw [HY.out.hL]; have := HLT.out; omega)
  obtain rfl := Option.some.inj e6
  rw [show rd_T60 L ((k - 1 : Nat) : Int) = L.getD (k - 1) z60 from rfl, hP.hU] at j0 j1 j2
  simp only [Int.toNat_natCast] at j0 j1 j2
  have i0 : (0 : Int) ≤ (k : Int) - 1 := by omega
  have i1 : (k : Int) - 1 < (ln : Int) := by have := HLT.out; omega
  have hk1 : 1 ≤ k := by omega
  clear hP HC hk0
  go_upto_region 19 with (fail)
  obtain ⟨wa, hwa⟩ : ∃ wa, wy.alloc (.cells #[.int .i64 t0, .int .i64 t1, .int .i64 t2] 60) = wa := ⟨_, rfl⟩
  obtain ⟨ga, hga⟩ : ∃ ga, wy.heap.size = ga := ⟨_, rfl⟩
  have hba := Aside0.mk (show Below wy.heap.size wy wa by rw [← hwa]; exact below_alloc (Below.refl _ _) _)
  have NA := Aside0.mk (show wa.heap[ga]? = some (.cells #[.int .i64 t0, .int .i64 t1, .int .i64 t2] 60 (0, 0)) by rw [← hwa, ← hga]; exact blk_new _ _)
  rw [hwa, hga]
  have NX := Aside0.mk (blk_below NY.out hba.out)
  have HA := Aside0.mk (HY.out.box hba.out)
  have HBA := Aside0.mk (HBY.out.trans (hba.out.mono HBY.out.size))
  clear j0 j1 j2 hwa hga hba NY HY HBY v0 i0 i1 hk1 hkz
  have b1 := blk_cell NA.out 1
  have b2 := blk_cell NA.out 2
  simp only [List.getElem?_toArray, List.getElem?_cons_zero, List.getElem?_cons_succ] at b1 b2
  have y0 := HA.out.y0
  have y1 := HA.out.y1
  have y2 := HA.out.y2
  have y3 := HA.out.y3
  have wsum : wrap64 (t1 + t2) = t1 + t2 := w64 (by have := HP.out.ub; omega) (by have := HP.out.ub; omega)
  go_upto_region 20 with (go_at_call 27; refine (cellarref02_Up.calls (0 + 5000) p s r a (t1 + t2) nx 0 _ HP.out.up).mono ?_; rintro e wz ⟨rfl, hbz⟩; have HZ := Aside0.mk (HBA.out.trans (hbz.mono HBA.out.size)); have NXZ := Aside0.mk (blk_below NX.out hbz); have NAZ := Aside0.mk (blk_below NA.out hbz); clear hbz)
  clear b1 b2 y0 y1 y2 y3 wsum NX NA HA HBA
  have a0 := blk_cell NXZ.out 0
  have a1 := blk_cell NXZ.out 1
  have a2 := blk_cell NXZ.out 2
  have b0 := blk_cell NAZ.out 0
  simp only [List.getElem?_toArray, List.getElem?_cons_zero, List.getElem?_cons_succ] at a0 a1 a2 b0
  clear NXZ NAZ
  have wdif : wrap64 (mo - nx) = mo - nx := w64 (by have := HP.out.nxb; have := HN.out.mob; omega) (by have := HP.out.nxb; have := HN.out.mob; omega)
  have wreg : wrap64 (t0 + 1) = t0 + 1 := w64 (by have := HP.out.u0b; omega) (by have := HP.out.u0b; omega)
  obtain ⟨hd, rfl⟩ := HC2.out
  have d1 : decide (nx ≤ mo) = false := decide_eq_false (by omega)
  clear hd
  go_wp2
  exact HQ.out _ _ _ _ _ _ _ _ _ _ _ _ _ _ _ _ _ _ _ _ _ _ _ _ _ _ _ _ _ _ _ _ _ _ _ _ _ _ _ _ _ _ _ _ _ _ _ _ _ _ _ _ _ _ _ _ _ _ _ _ _ _ _ _ _ _ _ _ _ _ _ _ _ _ _ _ _ _ _ _ _ _ _ _ _ _ _ _ _ _ _ _ _ _ _ _ _ _ _ _ _ _ _ _ _ _ _ HZ.out

set_option maxHeartbeats 8000000 in
set_option maxRecDepth 1000000 in
theorem round_c {p s r a head foot mo : Int} {A3 A5 : Option Addr} {c3 c5 g ln : Nat} {ns : List Int} {L : List S60} {m : Int} {wr : World} (k : Nat) (d0 d1 d8 d9 d17 d18 d19 d20 d21 d22 d23 d24 d25 d26 d27 d28 d29 d30 d31 d32 d33 d34 d35 d36 d37 d38 d39 d40 d41 d42 d43 d44 d45 d46 d47 d48 d49 d50 d51 d52 d53 d54 d55 d56 d57 d58 d59 d60 d61 d164 d165 d166 d167 d168 d169 d170 d171 d172 d173 d174 d175 d176 d177 d178 u2 u11 u12 u13 u14 u15 u16 u65 u66 u67 u68 u69 u70 u71 u72 u73 u74 u75 u76 u77 u78 u79 u80 u81 u82 u83 u84 u85 u86 u87 u88 u89 u90 u91 u92 u93 u94 u95 u96 u97 u98 u99 u100 u101 u102 u103 u104 u105 u106 u107 u108 u109 u110 u111 u112 u113 u114 u115 u116 u117 u118 u119 u120 u121 u122 u123 u124 u125 u126 u127 u128 u129 u130 u131 u132 u133 u134 u135 u136 u137 u138 u139 u140 u141 u142 u143 u144 u145 u146 u147 u148 u149 u150 u151 u152 u153 u154 u155 u156 u157 u158 u159 u160 u161 u162 u163 : Value) (hlt : k < ln) (H : Rd p s r a head foot mo A3 A5 g ln ns L m wr) (hk0 : ¬ k = 0) (hc : ∀ x0 x1 x2 u0 u1 u2 nx : Int, Nm p s r a head foot mo ns L k x0 x1 x2 → Pv p s r a head foot mo L k x0 x1 x2 u0 u1 u2 nx → ¬ nx > mo - x2 ∧ x0 = u0 ∧ x1 = nx) (Q : Exit → Act → World → Prop) (hQ : ∀ (v2 v11 v12 v13 v14 v15 v16 v65 v66 v67 v68 v69 v70 v71 v72 v73 v74 v75 v76 v77 v78 v79 v80 v81 v82 v83 v84 v85 v86 v87 v88 v89 v90 v91 v92 v93 v94 v95 v96 v97 v98 v99 v100 v101 v102 v103 v104 v105 v106 v107 v108 v109 v110 v111 v112 v113 v114 v115 v116 v117 v118 v119 v120 v121 v122 v123 v124 v125 v126 v127 v128 v129 v130 v131 v132 v133 v134 v135 v136 v137 v138 v139 v140 v141 v142 v143 v144 v145 v146 v147 v148 v149 v150 v151 v152 v153 v154 v155 v156 v157 v158 v159 v160 v161 v162 v163 : Value) (w' : World), Below wr.heap.size wr w' → Q .normal ⟨#[d0, d1, v2, .pointer (some ⟨g, 0, none⟩), .int .i64 head, .int .i64 foot, .slice A3 ln c3, .slice A5 ln c5, d8, d9, .int .i64 mo, v11, v12, v13, v14, v15, v16, d17, d18, d19, d20, d21, d22, d23, d24, d25, d26, d27, d28, d29, d30, d31, d32, d33, d34, d35, d36, d37, d38, d39, d40, d41, d42, d43, d44, d45, d46, d47, d48, d49, d50, d51, d52, d53, d54, d55, d56, d57, d58, d59, d60, d61, .slice A5 ln c5, .int .i64 (ln : Int), .int .i64 (k + 1 : Int), v65, v66, v67, v68, v69, v70, v71, v72, v73, v74, v75, v76, v77, v78, v79, v80, v81, v82, v83, v84, v85, v86, v87, v88, v89, v90, v91, v92, v93, v94, v95, v96, v97, v98, v99, v100, v101, v102, v103, v104, v105, v106, v107, v108, v109, v110, v111, v112, v113, v114, v115, v116, v117, v118, v119, v120, v121, v122, v123, v124, v125, v126, v127, v128, v129, v130, v131, v132, v133, v134, v135, v136, v137, v138, v139, v140, v141, v142, v143, v144, v145, v146, v147, v148, v149, v150, v151, v152, v153, v154, v155, v156, v157, v158, v159, v160, v161, v162, v163, d164, d165, d166, d167, d168, d169, d170, d171, d172, d173, d174, d175, d176, d177, d178], []⟩ w') :
    Code.wp Try.prog body Q ⟨#[d0, d1, u2, .pointer (some ⟨g, 0, none⟩), .int .i64 head, .int .i64 foot, .slice A3 ln c3, .slice A5 ln c5, d8, d9, .int .i64 mo, u11, u12, u13, u14, u15, u16, d17, d18, d19, d20, d21, d22, d23, d24, d25, d26, d27, d28, d29, d30, d31, d32, d33, d34, d35, d36, d37, d38, d39, d40, d41, d42, d43, d44, d45, d46, d47, d48, d49, d50, d51, d52, d53, d54, d55, d56, d57, d58, d59, d60, d61, .slice A5 ln c5, .int .i64 (ln : Int), .int .i64 (k : Int), u65, u66, u67, u68, u69, u70, u71, u72, u73, u74, u75, u76, u77, u78, u79, u80, u81, u82, u83, u84, u85, u86, u87, u88, u89, u90, u91, u92, u93, u94, u95, u96, u97, u98, u99, u100, u101, u102, u103, u104, u105, u106, u107, u108, u109, u110, u111, u112, u113, u114, u115, u116, u117, u118, u119, u120, u121, u122, u123, u124, u125, u126, u127, u128, u129, u130, u131, u132, u133, u134, u135, u136, u137, u138, u139, u140, u141, u142, u143, u144, u145, u146, u147, u148, u149, u150, u151, u152, u153, u154, u155, u156, u157, u158, u159, u160, u161, u162, u163, d164, d165, d166, d167, d168, d169, d170, d171, d172, d173, d174, d175, d176, d177, d178], []⟩ wr := by
  have HC := Aside0.mk hc
  clear hc
  obtain ⟨x0, x1, x2, hN⟩ := H.nm k hlt
  obtain ⟨ad5, e5, k0, k1, k2⟩ := at_T60 H.CL (k : Int) (by omega) (by rw [H.hL]; omega)
  obtain ⟨ad3, e3, k3⟩ := Kd.at_int H.C3 (k : Int) (by omega) (by rw [H.hns]; omega)
  subst e5 e3
  rw [show rd_T60 L (k : Int) = L.getD k z60 from rfl, hN.hX] at k0 k1 k2
  rw [show rd ns (k : Int) = ns.getD k 0 from rfl, hN.hn] at k3
  simp only [Int.toNat_natCast] at k0 k1 k2 k3
  have HH := Aside0.mk H
  have HN := Aside0.mk hN
  have HQ := Aside0.mk hQ
  have HLT := Aside0.mk hlt
  have hln63 : ln ≤ 9223372036854775807 := by rw [← H.hL]; exact H.CL.2.1
  have HL63 := Aside0.mk hln63
  have K3 := Aside0.mk k3
  have ix : decide ((k : Int) < (ln : Int)) = true := decide_eq_true (by omega)
  clear H hN hQ k3
  conv => arg 2; whnf
  go_upto_region 13 with (fail)
  obtain ⟨wx, hwx⟩ : ∃ wx, wr.alloc (.cells #[.int .i64 x0, .int .i64 x1, .int .i64 x2] 60) = wx := ⟨_, rfl⟩
  obtain ⟨gx, hgx⟩ : ∃ gx, wr.heap.size = gx := ⟨_, rfl⟩
  have hbx := Aside0.mk (show Below wr.heap.size wr wx by rw [← hwx]; exact below_alloc (Below.refl _ _) _)
  have hnx := Aside0.mk (show wx.heap[gx]? = some (.cells #[.int .i64 x0, .int .i64 x1, .int .i64 x2] 60 (0, 0)) by rw [← hwx, ← hgx]; exact blk_new _ _)
  rw [hwx, hgx]
  have HX := Aside0.mk (HH.out.box hbx.out)
  have v0 := blk_cell hnx.out 0
  have v1 := blk_cell hnx.out 1
  have v2 := blk_cell hnx.out 2
  simp only [List.getElem?_toArray, List.getElem?_cons_zero, List.getElem?_cons_succ] at v0 v1 v2
  have y2 := HX.out.y2
  have y3 := HX.out.y3
  have k3 := pw_cell_below hbx.out K3.out
  have ha0 : (a == 0) = false := by simpa using HN.out.a0
  have hane : ¬ a = 0 := HN.out.a0
  have ha2 : decide (a = 0) = false := decide_eq_false hane
  have hr : x1.tmod a = 0 := HN.out.rem
  have ha3 : IntKind.i64.wrap (x1.tmod a) = 0 := by rw [hr]; decide +kernel
  have wz : IntKind.i64.wrap 0 = 0 := by decide +kernel
  have g1 : decide (x1 < head) = false := decide_eq_false (by have := HN.out.lo; omega)
  have g2 : IntKind.i64.wrap (x1 + x2) = x1 + x2 := IntWalk.i64_in _ (by have := HN.out.x1b; have := HN.out.x2b; omega)
  have g3 : decide (mo < x1 + x2) = false := decide_eq_false (by have := HN.out.hi; omega)
  have g4 : decide (r ≤ x0) = false := decide_eq_false (by have := HN.out.rg; omega)
  have m0 : (0 : Int) ≤ (k : Int) := by omega
  have m1 : (k : Int) < (ln : Int) := by have := HLT.out; omega
  clear k0 k1 k2 hwx hgx HH K3 ix hlt hln63
  go_quiet (fail)
  obtain ⟨wy, hwy⟩ : ∃ wy, wx.drewN nq = wy := ⟨_, rfl⟩
  have hby := Aside0.mk (show Below wx.heap.size wx wy by rw [← hwy]; exact pw_below_drewN (Below.refl _ _) _)
  have HBY := Aside0.mk (hbx.out.trans (hby.out.mono hbx.out.size))
  have HY := Aside0.mk (HX.out.box hby.out)
  have NY := Aside0.mk (blk_below hnx.out hby.out)
  rw [hwy]
  clear hwy v0 v1 v2 y2 y3 k3 ha0 hane ha2 hr ha3 wz g1 g2 g3 g4 HX hnx hbx hby m0 m1
  have v0 := blk_cell NY.out 0
  simp only [List.getElem?_toArray, List.getElem?_cons_zero] at v0
  have hk62 : (k : Int) + 1 ≤ 9223372036854775807 := by have := HLT.out; have := HL63.out; omega
  have hkz : ((k : Int) == 0) = false := by rw [beq_eq_false_iff_ne]; omega
  obtain ⟨t0, t1, t2, nx, hP⟩ := HY.out.pv k HLT.out hk0 HN.out
  have HC2 := Aside0.mk (HC.out _ _ _ _ _ _ _ HN.out hP)
  have HP := Aside0.mk hP
  obtain ⟨ad6, e6, j0, j1, j2⟩ := at_T60 HY.out.CL ((k - 1 : Nat) : Int) (by omega) (by rw [HY.out.hL]; have := HLT.out; omega)
  obtain rfl := Option.some.inj e6
  rw [show rd_T60 L ((k - 1 : Nat) : Int) = L.getD (k - 1) z60 from rfl, hP.hU] at j0 j1 j2
  simp only [Int.toNat_natCast] at j0 j1 j2
  have i0 : (0 : Int) ≤ (k : Int) - 1 := by omega
  have i1 : (k : Int) - 1 < (ln : Int) := by have := HLT.out; omega
  have hk1 : 1 ≤ k := by omega
  clear hP HC hk0
  go_upto_region 19 with (fail)
  obtain ⟨wa, hwa⟩ : ∃ wa, wy.alloc (.cells #[.int .i64 t0, .int .i64 t1, .int .i64 t2] 60) = wa := ⟨_, rfl⟩
  obtain ⟨ga, hga⟩ : ∃ ga, wy.heap.size = ga := ⟨_, rfl⟩
  have hba := Aside0.mk (show Below wy.heap.size wy wa by rw [← hwa]; exact below_alloc (Below.refl _ _) _)
  have NA := Aside0.mk (show wa.heap[ga]? = some (.cells #[.int .i64 t0, .int .i64 t1, .int .i64 t2] 60 (0, 0)) by rw [← hwa, ← hga]; exact blk_new _ _)
  rw [hwa, hga]
  have NX := Aside0.mk (blk_below NY.out hba.out)
  have HA := Aside0.mk (HY.out.box hba.out)
  have HBA := Aside0.mk (HBY.out.trans (hba.out.mono HBY.out.size))
  clear j0 j1 j2 hwa hga hba NY HY HBY v0 i0 i1 hk1 hkz
  have b1 := blk_cell NA.out 1
  have b2 := blk_cell NA.out 2
  simp only [List.getElem?_toArray, List.getElem?_cons_zero, List.getElem?_cons_succ] at b1 b2
  have y0 := HA.out.y0
  have y1 := HA.out.y1
  have y2 := HA.out.y2
  have y3 := HA.out.y3
  have wsum : wrap64 (t1 + t2) = t1 + t2 := w64 (by have := HP.out.ub; omega) (by have := HP.out.ub; omega)
  go_upto_region 20 with (go_at_call 27; refine (cellarref02_Up.calls (0 + 5000) p s r a (t1 + t2) nx 0 _ HP.out.up).mono ?_; rintro e wz ⟨rfl, hbz⟩; have HZ := Aside0.mk (HBA.out.trans (hbz.mono HBA.out.size)); have NXZ := Aside0.mk (blk_below NX.out hbz); have NAZ := Aside0.mk (blk_below NA.out hbz); clear hbz)
  clear b1 b2 y0 y1 y2 y3 wsum NX NA HA HBA
  have a0 := blk_cell NXZ.out 0
  have a1 := blk_cell NXZ.out 1
  have a2 := blk_cell NXZ.out 2
  have b0 := blk_cell NAZ.out 0
  simp only [List.getElem?_toArray, List.getElem?_cons_zero, List.getElem?_cons_succ] at a0 a1 a2 b0
  clear NXZ NAZ
  have wdif : wrap64 (mo - nx) = mo - nx := w64 (by have := HP.out.nxb; have := HN.out.mob; omega) (by have := HP.out.nxb; have := HN.out.mob; omega)
  have wreg : wrap64 (t0 + 1) = t0 + 1 := w64 (by have := HP.out.u0b; omega) (by have := HP.out.u0b; omega)
  obtain ⟨hc, rfl, rfl⟩ := HC2.out
  have d1 : decide (x1 ≤ mo) = true := decide_eq_true (by have := HN.out.x2b; omega)
  have d2 : decide (x2 ≤ mo - x1) = true := decide_eq_true (by omega)
  clear hc
  go_wp2
  exact HQ.out _ _ _ _ _ _ _ _ _ _ _ _ _ _ _ _ _ _ _ _ _ _ _ _ _ _ _ _ _ _ _ _ _ _ _ _ _ _ _ _ _ _ _ _ _ _ _ _ _ _ _ _ _ _ _ _ _ _ _ _ _ _ _ _ _ _ _ _ _ _ _ _ _ _ _ _ _ _ _ _ _ _ _ _ _ _ _ _ _ _ _ _ _ _ _ _ _ _ _ _ _ _ _ _ _ _ _ HZ.out

set_option maxHeartbeats 8000000 in
set_option maxRecDepth 1000000 in
theorem round_end {p s r a head foot mo : Int} {A3 A5 : Option Addr} {c3 c5 g ln : Nat} {ns : List Int} {L : List S60} {m : Int} {wr : World} (k : Nat) (d0 d1 d8 d9 d17 d18 d19 d20 d21 d22 d23 d24 d25 d26 d27 d28 d29 d30 d31 d32 d33 d34 d35 d36 d37 d38 d39 d40 d41 d42 d43 d44 d45 d46 d47 d48 d49 d50 d51 d52 d53 d54 d55 d56 d57 d58 d59 d60 d61 d164 d165 d166 d167 d168 d169 d170 d171 d172 d173 d174 d175 d176 d177 d178 u2 u11 u12 u13 u14 u15 u16 u65 u66 u67 u68 u69 u70 u71 u72 u73 u74 u75 u76 u77 u78 u79 u80 u81 u82 u83 u84 u85 u86 u87 u88 u89 u90 u91 u92 u93 u94 u95 u96 u97 u98 u99 u100 u101 u102 u103 u104 u105 u106 u107 u108 u109 u110 u111 u112 u113 u114 u115 u116 u117 u118 u119 u120 u121 u122 u123 u124 u125 u126 u127 u128 u129 u130 u131 u132 u133 u134 u135 u136 u137 u138 u139 u140 u141 u142 u143 u144 u145 u146 u147 u148 u149 u150 u151 u152 u153 u154 u155 u156 u157 u158 u159 u160 u161 u162 u163 : Value) (hk : k = ln) (Q : Exit → Act → World → Prop) (hQ : Q (.exit 0) ⟨#[d0, d1, u2, .pointer (some ⟨g, 0, none⟩), .int .i64 head, .int .i64 foot, .slice A3 ln c3, .slice A5 ln c5, d8, d9, .int .i64 mo, u11, u12, u13, u14, u15, u16, d17, d18, d19, d20, d21, d22, d23, d24, d25, d26, d27, d28, d29, d30, d31, d32, d33, d34, d35, d36, d37, d38, d39, d40, d41, d42, d43, d44, d45, d46, d47, d48, d49, d50, d51, d52, d53, d54, d55, d56, d57, d58, d59, d60, d61, .slice A5 ln c5, .int .i64 (ln : Int), .int .i64 (ln : Int), .bool false, u66, u67, u68, u69, u70, u71, u72, u73, u74, u75, u76, u77, u78, u79, u80, u81, u82, u83, u84, u85, u86, u87, u88, u89, u90, u91, u92, u93, u94, u95, u96, u97, u98, u99, u100, u101, u102, u103, u104, u105, u106, u107, u108, u109, u110, u111, u112, u113, u114, u115, u116, u117, u118, u119, u120, u121, u122, u123, u124, u125, u126, u127, u128, u129, u130, u131, u132, u133, u134, u135, u136, u137, u138, u139, u140, u141, u142, u143, u144, u145, u146, u147, u148, u149, u150, u151, u152, u153, u154, u155, u156, u157, u158, u159, u160, u161, u162, u163, d164, d165, d166, d167, d168, d169, d170, d171, d172, d173, d174, d175, d176, d177, d178], []⟩ wr) :
    Code.wp Try.prog body Q ⟨#[d0, d1, u2, .pointer (some ⟨g, 0, none⟩), .int .i64 head, .int .i64 foot, .slice A3 ln c3, .slice A5 ln c5, d8, d9, .int .i64 mo, u11, u12, u13, u14, u15, u16, d17, d18, d19, d20, d21, d22, d23, d24, d25, d26, d27, d28, d29, d30, d31, d32, d33, d34, d35, d36, d37, d38, d39, d40, d41, d42, d43, d44, d45, d46, d47, d48, d49, d50, d51, d52, d53, d54, d55, d56, d57, d58, d59, d60, d61, .slice A5 ln c5, .int .i64 (ln : Int), .int .i64 (k : Int), u65, u66, u67, u68, u69, u70, u71, u72, u73, u74, u75, u76, u77, u78, u79, u80, u81, u82, u83, u84, u85, u86, u87, u88, u89, u90, u91, u92, u93, u94, u95, u96, u97, u98, u99, u100, u101, u102, u103, u104, u105, u106, u107, u108, u109, u110, u111, u112, u113, u114, u115, u116, u117, u118, u119, u120, u121, u122, u123, u124, u125, u126, u127, u128, u129, u130, u131, u132, u133, u134, u135, u136, u137, u138, u139, u140, u141, u142, u143, u144, u145, u146, u147, u148, u149, u150, u151, u152, u153, u154, u155, u156, u157, u158, u159, u160, u161, u162, u163, d164, d165, d166, d167, d168, d169, d170, d171, d172, d173, d174, d175, d176, d177, d178], []⟩ wr := by
  subst hk
  have ix : decide ((k : Int) < (k : Int)) = false := decide_eq_false (by omega)
  have HQ := Aside0.mk hQ
  clear hQ
  conv => arg 2; whnf
  go_wp2
  exact HQ.out

theorem Nm.same {p s r a head foot mo : Int} {ns : List Int} {L : List S60} {k : Nat} {x0 x1 x2 y0 y1 y2 : Int} (h : Nm p s r a head foot mo ns L k x0 x1 x2) (h' : Nm p s r a head foot mo ns L k y0 y1 y2) : x0 = y0 ∧ x1 = y1 ∧ x2 = y2 := by
  have e := h.hX.symm.trans h'.hX
  injection e with e1 e2 e3
  exact ⟨e1, e2, e3⟩
theorem Pv.same {p s r a head foot mo : Int} {L : List S60} {k : Nat} {x0 x1 x2 u0 u1 u2 nx v0 v1 v2 ny : Int} (h : Pv p s r a head foot mo L k x0 x1 x2 u0 u1 u2 nx) (h' : Pv p s r a head foot mo L k x0 x1 x2 v0 v1 v2 ny) : u0 = v0 ∧ nx = ny := by
  have e := h.hU.symm.trans h'.hU
  injection e with e1 e2 e3
  subst e1 e2 e3
  have e := h.up.symm.trans h'.up
  injection e with e
  injection e with e1 e2
  exact ⟨rfl, e1⟩
theorem below_after {w6 w' w'' : World} (h : Below w6.heap.size w6 w') (k : Below w'.heap.size w' w'') : Below w6.heap.size w6 w'' := h.trans (k.mono h.size)

set_option maxHeartbeats 8000000 in
set_option maxRecDepth 1000000 in
theorem aloop {p s r a head foot mo : Int} {A3 A5 : Option Addr} {c3 c5 g ln : Nat} {ns : List Int} {L : List S60} {m : Int} {w6 : World} (d0 d1 d8 d9 d17 d18 d19 d20 d21 d22 d23 d24 d25 d26 d27 d28 d29 d30 d31 d32 d33 d34 d35 d36 d37 d38 d39 d40 d41 d42 d43 d44 d45 d46 d47 d48 d49 d50 d51 d52 d53 d54 d55 d56 d57 d58 d59 d60 d61 d164 d165 d166 d167 d168 d169 d170 d171 d172 d173 d174 d175 d176 d177 d178 u2 u11 u12 u13 u14 u15 u16 u65 u66 u67 u68 u69 u70 u71 u72 u73 u74 u75 u76 u77 u78 u79 u80 u81 u82 u83 u84 u85 u86 u87 u88 u89 u90 u91 u92 u93 u94 u95 u96 u97 u98 u99 u100 u101 u102 u103 u104 u105 u106 u107 u108 u109 u110 u111 u112 u113 u114 u115 u116 u117 u118 u119 u120 u121 u122 u123 u124 u125 u126 u127 u128 u129 u130 u131 u132 u133 u134 u135 u136 u137 u138 u139 u140 u141 u142 u143 u144 u145 u146 u147 u148 u149 u150 u151 u152 u153 u154 u155 u156 u157 u158 u159 u160 u161 u162 u163 : Value) (H : ∀ w', Below w6.heap.size w6 w' → Rd p s r a head foot mo A3 A5 g ln ns L m w') (Q : Exit → Act → World → Prop) (hexit : ∀ (f : Nat → Value) (w' : World), Below w6.heap.size w6 w' → Q (.exit 0) ⟨#[d0, d1, f 2, .pointer (some ⟨g, 0, none⟩), .int .i64 head, .int .i64 foot, .slice A3 ln c3, .slice A5 ln c5, d8, d9, .int .i64 mo, f 11, f 12, f 13, f 14, f 15, f 16, d17, d18, d19, d20, d21, d22, d23, d24, d25, d26, d27, d28, d29, d30, d31, d32, d33, d34, d35, d36, d37, d38, d39, d40, d41, d42, d43, d44, d45, d46, d47, d48, d49, d50, d51, d52, d53, d54, d55, d56, d57, d58, d59, d60, d61, .slice A5 ln c5, .int .i64 (ln : Int), .int .i64 (ln : Int), .bool false, f 66, f 67, f 68, f 69, f 70, f 71, f 72, f 73, f 74, f 75, f 76, f 77, f 78, f 79, f 80, f 81, f 82, f 83, f 84, f 85, f 86, f 87, f 88, f 89, f 90, f 91, f 92, f 93, f 94, f 95, f 96, f 97, f 98, f 99, f 100, f 101, f 102, f 103, f 104, f 105, f 106, f 107, f 108, f 109, f 110, f 111, f 112, f 113, f 114, f 115, f 116, f 117, f 118, f 119, f 120, f 121, f 122, f 123, f 124, f 125, f 126, f 127, f 128, f 129, f 130, f 131, f 132, f 133, f 134, f 135, f 136, f 137, f 138, f 139, f 140, f 141, f 142, f 143, f 144, f 145, f 146, f 147, f 148, f 149, f 150, f 151, f 152, f 153, f 154, f 155, f 156, f 157, f 158, f 159, f 160, f 161, f 162, f 163, d164, d165, d166, d167, d168, d169, d170, d171, d172, d173, d174, d175, d176, d177, d178], []⟩ w') :
    (Code.loop body).wp Try.prog Q ⟨#[d0, d1, u2, .pointer (some ⟨g, 0, none⟩), .int .i64 head, .int .i64 foot, .slice A3 ln c3, .slice A5 ln c5, d8, d9, .int .i64 mo, u11, u12, u13, u14, u15, u16, d17, d18, d19, d20, d21, d22, d23, d24, d25, d26, d27, d28, d29, d30, d31, d32, d33, d34, d35, d36, d37, d38, d39, d40, d41, d42, d43, d44, d45, d46, d47, d48, d49, d50, d51, d52, d53, d54, d55, d56, d57, d58, d59, d60, d61, .slice A5 ln c5, .int .i64 (ln : Int), .int .i64 0, u65, u66, u67, u68, u69, u70, u71, u72, u73, u74, u75, u76, u77, u78, u79, u80, u81, u82, u83, u84, u85, u86, u87, u88, u89, u90, u91, u92, u93, u94, u95, u96, u97, u98, u99, u100, u101, u102, u103, u104, u105, u106, u107, u108, u109, u110, u111, u112, u113, u114, u115, u116, u117, u118, u119, u120, u121, u122, u123, u124, u125, u126, u127, u128, u129, u130, u131, u132, u133, u134, u135, u136, u137, u138, u139, u140, u141, u142, u143, u144, u145, u146, u147, u148, u149, u150, u151, u152, u153, u154, u155, u156, u157, u158, u159, u160, u161, u162, u163, d164, d165, d166, d167, d168, d169, d170, d171, d172, d173, d174, d175, d176, d177, d178], []⟩ w6 := by
  refine wp_loop (fun a w' => ∃ k : Nat, k ≤ ln ∧ Below w6.heap.size w6 w' ∧ ∃ f : Nat → Value, a = ⟨#[d0, d1, f 2, .pointer (some ⟨g, 0, none⟩), .int .i64 head, .int .i64 foot, .slice A3 ln c3, .slice A5 ln c5, d8, d9, .int .i64 mo, f 11, f 12, f 13, f 14, f 15, f 16, d17, d18, d19, d20, d21, d22, d23, d24, d25, d26, d27, d28, d29, d30, d31, d32, d33, d34, d35, d36, d37, d38, d39, d40, d41, d42, d43, d44, d45, d46, d47, d48, d49, d50, d51, d52, d53, d54, d55, d56, d57, d58, d59, d60, d61, .slice A5 ln c5, .int .i64 (ln : Int), .int .i64 (k : Int), f 65, f 66, f 67, f 68, f 69, f 70, f 71, f 72, f 73, f 74, f 75, f 76, f 77, f 78, f 79, f 80, f 81, f 82, f 83, f 84, f 85, f 86, f 87, f 88, f 89, f 90, f 91, f 92, f 93, f 94, f 95, f 96, f 97, f 98, f 99, f 100, f 101, f 102, f 103, f 104, f 105, f 106, f 107, f 108, f 109, f 110, f 111, f 112, f 113, f 114, f 115, f 116, f 117, f 118, f 119, f 120, f 121, f 122, f 123, f 124, f 125, f 126, f 127, f 128, f 129, f 130, f 131, f 132, f 133, f 134, f 135, f 136, f 137, f 138, f 139, f 140, f 141, f 142, f 143, f 144, f 145, f 146, f 147, f 148, f 149, f 150, f 151, f 152, f 153, f 154, f 155, f 156, f 157, f 158, f 159, f 160, f 161, f 162, f 163, d164, d165, d166, d167, d168, d169, d170, d171, d172, d173, d174, d175, d176, d177, d178], []⟩) (fun a _ => ln - (intOf (a.tmps.getD 64 undef)).toNat) ⟨0, Nat.zero_le _, Below.refl _ _, fun i => ((⟨#[d0, d1, u2, .pointer (some ⟨g, 0, none⟩), .int .i64 head, .int .i64 foot, .slice A3 ln c3, .slice A5 ln c5, d8, d9, .int .i64 mo, u11, u12, u13, u14, u15, u16, d17, d18, d19, d20, d21, d22, d23, d24, d25, d26, d27, d28, d29, d30, d31, d32, d33, d34, d35, d36, d37, d38, d39, d40, d41, d42, d43, d44, d45, d46, d47, d48, d49, d50, d51, d52, d53, d54, d55, d56, d57, d58, d59, d60, d61, .slice A5 ln c5, .int .i64 (ln : Int), .int .i64 0, u65, u66, u67, u68, u69, u70, u71, u72, u73, u74, u75, u76, u77, u78, u79, u80, u81, u82, u83, u84, u85, u86, u87, u88, u89, u90, u91, u92, u93, u94, u95, u96, u97, u98, u99, u100, u101, u102, u103, u104, u105, u106, u107, u108, u109, u110, u111, u112, u113, u114, u115, u116, u117, u118, u119, u120, u121, u122, u123, u124, u125, u126, u127, u128, u129, u130, u131, u132, u133, u134, u135, u136, u137, u138, u139, u140, u141, u142, u143, u144, u145, u146, u147, u148, u149, u150, u151, u152, u153, u154, u155, u156, u157, u158, u159, u160, u161, u162, u163, d164, d165, d166, d167, d168, d169, d170, d171, d172, d173, d174, d175, d176, d177, d178], []⟩ : Act).tmps.getD i undef), rfl⟩ ?_
  rintro a w' ⟨k, hk, hb, f, rfl⟩
  have HR := H w' hb
  by_cases hlt : k < ln
  · by_cases hk0 : k = 0
    · refine round_0 k d0 d1 d8 d9 d17 d18 d19 d20 d21 d22 d23 d24 d25 d26 d27 d28 d29 d30 d31 d32 d33 d34 d35 d36 d37 d38 d39 d40 d41 d42 d43 d44 d45 d46 d47 d48 d49 d50 d51 d52 d53 d54 d55 d56 d57 d58 d59 d60 d61 d164 d165 d166 d167 d168 d169 d170 d171 d172 d173 d174 d175 d176 d177 d178 (f 2) (f 11) (f 12) (f 13) (f 14) (f 15) (f 16) (f 65) (f 66) (f 67) (f 68) (f 69) (f 70) (f 71) (f 72) (f 73) (f 74) (f 75) (f 76) (f 77) (f 78) (f 79) (f 80) (f 81) (f 82) (f 83) (f 84) (f 85) (f 86) (f 87) (f 88) (f 89) (f 90) (f 91) (f 92) (f 93) (f 94) (f 95) (f 96) (f 97) (f 98) (f 99) (f 100) (f 101) (f 102) (f 103) (f 104) (f 105) (f 106) (f 107) (f 108) (f 109) (f 110) (f 111) (f 112) (f 113) (f 114) (f 115) (f 116) (f 117) (f 118) (f 119) (f 120) (f 121) (f 122) (f 123) (f 124) (f 125) (f 126) (f 127) (f 128) (f 129) (f 130) (f 131) (f 132) (f 133) (f 134) (f 135) (f 136) (f 137) (f 138) (f 139) (f 140) (f 141) (f 142) (f 143) (f 144) (f 145) (f 146) (f 147) (f 148) (f 149) (f 150) (f 151) (f 152) (f 153) (f 154) (f 155) (f 156) (f 157) (f 158) (f 159) (f 160) (f 161) (f 162) (f 163) hlt HR hk0 _ ?_
      intro v2 v11 v12 v13 v14 v15 v16 v65 v66 v67 v68 v69 v70 v71 v72 v73 v74 v75 v76 v77 v78 v79 v80 v81 v82 v83 v84 v85 v86 v87 v88 v89 v90 v91 v92 v93 v94 v95 v96 v97 v98 v99 v100 v101 v102 v103 v104 v105 v106 v107 v108 v109 v110 v111 v112 v113 v114 v115 v116 v117 v118 v119 v120 v121 v122 v123 v124 v125 v126 v127 v128 v129 v130 v131 v132 v133 v134 v135 v136 v137 v138 v139 v140 v141 v142 v143 v144 v145 v146 v147 v148 v149 v150 v151 v152 v153 v154 v155 v156 v157 v158 v159 v160 v161 v162 v163 w'' hb2
      refine ⟨⟨k + 1, by omega, below_after hb hb2, fun i => ((⟨#[d0, d1, v2, .pointer (some ⟨g, 0, none⟩), .int .i64 head, .int .i64 foot, .slice A3 ln c3, .slice A5 ln c5, d8, d9, .int .i64 mo, v11, v12, v13, v14, v15, v16, d17, d18, d19, d20, d21, d22, d23, d24, d25, d26, d27, d28, d29, d30, d31, d32, d33, d34, d35, d36, d37, d38, d39, d40, d41, d42, d43, d44, d45, d46, d47, d48, d49, d50, d51, d52, d53, d54, d55, d56, d57, d58, d59, d60, d61, .slice A5 ln c5, .int .i64 (ln : Int), .int .i64 (k + 1 : Int), v65, v66, v67, v68, v69, v70, v71, v72, v73, v74, v75, v76, v77, v78, v79, v80, v81, v82, v83, v84, v85, v86, v87, v88, v89, v90, v91, v92, v93, v94, v95, v96, v97, v98, v99, v100, v101, v102, v103, v104, v105, v106, v107, v108, v109, v110, v111, v112, v113, v114, v115, v116, v117, v118, v119, v120, v121, v122, v123, v124, v125, v126, v127, v128, v129, v130, v131, v132, v133, v134, v135, v136, v137, v138, v139, v140, v141, v142, v143, v144, v145, v146, v147, v148, v149, v150, v151, v152, v153, v154, v155, v156, v157, v158, v159, v160, v161, v162, v163, d164, d165, d166, d167, d168, d169, d170, d171, d172, d173, d174, d175, d176, d177, d178], []⟩ : Act).tmps.getD i undef), rfl⟩, ?_⟩
      simp [intOf]
      omega
    · obtain ⟨x0, x1, x2, hN⟩ := HR.nm k hlt
      obtain ⟨t0, t1, t2, nx, hP⟩ := HR.pv k hlt hk0 hN
      have hc : (nx ≤ mo ∧ nx > mo - x2 ∧ x0 = t0 + 1) ∨ (¬ nx ≤ mo ∧ x0 = t0 + 1) ∨ (¬ nx > mo - x2 ∧ x0 = t0 ∧ x1 = nx) := by
        rcases hP.fin with ⟨h1, h2⟩ | h
        · by_cases h3 : nx ≤ mo
          · exact .inl ⟨h3, h1, h2⟩
          · exact .inr (.inl ⟨h3, h2⟩)
        · exact .inr (.inr h)
      have same : ∀ y0 y1 y2 u0 u1 u2 ny : Int, Nm p s r a head foot mo ns L k y0 y1 y2 → Pv p s r a head foot mo L k y0 y1 y2 u0 u1 u2 ny → y0 = x0 ∧ y1 = x1 ∧ y2 = x2 ∧ u0 = t0 ∧ ny = nx := fun y0 y1 y2 u0 u1 u2 ny hN' hP' => by
        obtain ⟨rfl, rfl, rfl⟩ := hN'.same hN
        obtain ⟨rfl, rfl⟩ := hP'.same hP
        exact ⟨rfl, rfl, rfl, rfl, rfl⟩
      rcases hc with hc | hc | hc

      · refine round_a k d0 d1 d8 d9 d17 d18 d19 d20 d21 d22 d23 d24 d25 d26 d27 d28 d29 d30 d31 d32 d33 d34 d35 d36 d37 d38 d39 d40 d41 d42 d43 d44 d45 d46 d47 d48 d49 d50 d51 d52 d53 d54 d55 d56 d57 d58 d59 d60 d61 d164 d165 d166 d167 d168 d169 d170 d171 d172 d173 d174 d175 d176 d177 d178 (f 2) (f 11) (f 12) (f 13) (f 14) (f 15) (f 16) (f 65) (f 66) (f 67) (f 68) (f 69) (f 70) (f 71) (f 72) (f 73) (f 74) (f 75) (f 76) (f 77) (f 78) (f 79) (f 80) (f 81) (f 82) (f 83) (f 84) (f 85) (f 86) (f 87) (f 88) (f 89) (f 90) (f 91) (f 92) (f 93) (f 94) (f 95) (f 96) (f 97) (f 98) (f 99) (f 100) (f 101) (f 102) (f 103) (f 104) (f 105) (f 106) (f 107) (f 108) (f 109) (f 110) (f 111) (f 112) (f 113) (f 114) (f 115) (f 116) (f 117) (f 118) (f 119) (f 120) (f 121) (f 122) (f 123) (f 124) (f 125) (f 126) (f 127) (f 128) (f 129) (f 130) (f 131) (f 132) (f 133) (f 134) (f 135) (f 136) (f 137) (f 138) (f 139) (f 140) (f 141) (f 142) (f 143) (f 144) (f 145) (f 146) (f 147) (f 148) (f 149) (f 150) (f 151) (f 152) (f 153) (f 154) (f 155) (f 156) (f 157) (f 158) (f 159) (f 160) (f 161) (f 162) (f 163) hlt HR hk0 (fun y0 y1 y2 u0 u1 u2 ny h1 h2 => by obtain ⟨rfl, rfl, rfl, rfl, rfl⟩ := same _ _ _ _ _ _ _ h1 h2; exact hc) _ ?_
        intro v2 v11 v12 v13 v14 v15 v16 v65 v66 v67 v68 v69 v70 v71 v72 v73 v74 v75 v76 v77 v78 v79 v80 v81 v82 v83 v84 v85 v86 v87 v88 v89 v90 v91 v92 v93 v94 v95 v96 v97 v98 v99 v100 v101 v102 v103 v104 v105 v106 v107 v108 v109 v110 v111 v112 v113 v114 v115 v116 v117 v118 v119 v120 v121 v122 v123 v124 v125 v126 v127 v128 v129 v130 v131 v132 v133 v134 v135 v136 v137 v138 v139 v140 v141 v142 v143 v144 v145 v146 v147 v148 v149 v150 v151 v152 v153 v154 v155 v156 v157 v158 v159 v160 v161 v162 v163 w'' hb2
        refine ⟨⟨k + 1, by omega, below_after hb hb2, fun i => ((⟨#[d0, d1, v2, .pointer (some ⟨g, 0, none⟩), .int .i64 head, .int .i64 foot, .slice A3 ln c3, .slice A5 ln c5, d8, d9, .int .i64 mo, v11, v12, v13, v14, v15, v16, d17, d18, d19, d20, d21, d22, d23, d24, d25, d26, d27, d28, d29, d30, d31, d32, d33, d34, d35, d36, d37, d38, d39, d40, d41, d42, d43, d44, d45, d46, d47, d48, d49, d50, d51, d52, d53, d54, d55, d56, d57, d58, d59, d60, d61, .slice A5 ln c5, .int .i64 (ln : Int), .int .i64 (k + 1 : Int), v65, v66, v67, v68, v69, v70, v71, v72, v73, v74, v75, v76, v77, v78, v79, v80, v81, v82, v83, v84, v85, v86, v87, v88, v89, v90, v91, v92, v93, v94, v95, v96, v97, v98, v99, v100, v101, v102, v103, v104, v105, v106, v107, v108, v109, v110, v111, v112, v113, v114, v115, v116, v117, v118, v119, v120, v121, v122, v123, v124, v125, v126, v127, v128, v129, v130, v131, v132, v133, v134, v135, v136, v137, v138, v139, v140, v141, v142, v143, v144, v145, v146, v147, v148, v149, v150, v151, v152, v153, v154, v155, v156, v157, v158, v159, v160, v161, v162, v163, d164, d165, d166, d167, d168, d169, d170, d171, d172, d173, d174, d175, d176, d177, d178], []⟩ : Act).tmps.getD i undef), rfl⟩, ?_⟩
        simp [intOf]
        omega
      · refine round_b k d0 d1 d8 d9 d17 d18 d19 d20 d21 d22 d23 d24 d25 d26 d27 d28 d29 d30 d31 d32 d33 d34 d35 d36 d37 d38 d39 d40 d41 d42 d43 d44 d45 d46 d47 d48 d49 d50 d51 d52 d53 d54 d55 d56 d57 d58 d59 d60 d61 d164 d165 d166 d167 d168 d169 d170 d171 d172 d173 d174 d175 d176 d177 d178 (f 2) (f 11) (f 12) (f 13) (f 14) (f 15) (f 16) (f 65) (f 66) (f 67) (f 68) (f 69) (f 70) (f 71) (f 72) (f 73) (f 74) (f 75) (f 76) (f 77) (f 78) (f 79) (f 80) (f 81) (f 82) (f 83) (f 84) (f 85) (f 86) (f 87) (f 88) (f 89) (f 90) (f 91) (f 92) (f 93) (f 94) (f 95) (f 96) (f 97) (f 98) (f 99) (f 100) (f 101) (f 102) (f 103) (f 104) (f 105) (f 106) (f 107) (f 108) (f 109) (f 110) (f 111) (f 112) (f 113) (f 114) (f 115) (f 116) (f 117) (f 118) (f 119) (f 120) (f 121) (f 122) (f 123) (f 124) (f 125) (f 126) (f 127) (f 128) (f 129) (f 130) (f 131) (f 132) (f 133) (f 134) (f 135) (f 136) (f 137) (f 138) (f 139) (f 140) (f 141) (f 142) (f 143) (f 144) (f 145) (f 146) (f 147) (f 148) (f 149) (f 150) (f 151) (f 152) (f 153) (f 154) (f 155) (f 156) (f 157) (f 158) (f 159) (f 160) (f 161) (f 162) (f 163) hlt HR hk0 (fun y0 y1 y2 u0 u1 u2 ny h1 h2 => by obtain ⟨rfl, rfl, rfl, rfl, rfl⟩ := same _ _ _ _ _ _ _ h1 h2; exact hc) _ ?_
        intro v2 v11 v12 v13 v14 v15 v16 v65 v66 v67 v68 v69 v70 v71 v72 v73 v74 v75 v76 v77 v78 v79 v80 v81 v82 v83 v84 v85 v86 v87 v88 v89 v90 v91 v92 v93 v94 v95 v96 v97 v98 v99 v100 v101 v102 v103 v104 v105 v106 v107 v108 v109 v110 v111 v112 v113 v114 v115 v116 v117 v118 v119 v120 v121 v122 v123 v124 v125 v126 v127 v128 v129 v130 v131 v132 v133 v134 v135 v136 v137 v138 v139 v140 v141 v142 v143 v144 v145 v146 v147 v148 v149 v150 v151 v152 v153 v154 v155 v156 v157 v158 v159 v160 v161 v162 v163 w'' hb2
        refine ⟨⟨k + 1, by omega, below_after hb hb2, fun i => ((⟨#[d0, d1, v2, .pointer (some ⟨g, 0, none⟩), .int .i64 head, .int .i64 foot, .slice A3 ln c3, .slice A5 ln c5, d8, d9, .int .i64 mo, v11, v12, v13, v14, v15, v16, d17, d18, d19, d20, d21, d22, d23, d24, d25, d26, d27, d28, d29, d30, d31, d32, d33, d34, d35, d36, d37, d38, d39, d40, d41, d42, d43, d44, d45, d46, d47, d48, d49, d50, d51, d52, d53, d54, d55, d56, d57, d58, d59, d60, d61, .slice A5 ln c5, .int .i64 (ln : Int), .int .i64 (k + 1 : Int), v65, v66, v67, v68, v69, v70, v71, v72, v73, v74, v75, v76, v77, v78, v79, v80, v81, v82, v83, v84, v85, v86, v87, v88, v89, v90, v91, v92, v93, v94, v95, v96, v97, v98, v99, v100, v101, v102, v103, v104, v105, v106, v107, v108, v109, v110, v111, v112, v113, v114, v115, v116, v117, v118, v119, v120, v121, v122, v123, v124, v125, v126, v127, v128, v129, v130, v131, v132, v133, v134, v135, v136, v137, v138, v139, v140, v141, v142, v143, v144, v145, v146, v147, v148, v149, v150, v151, v152, v153, v154, v155, v156, v157, v158, v159, v160, v161, v162, v163, d164, d165, d166, d167, d168, d169, d170, d171, d172, d173, d174, d175, d176, d177, d178], []⟩ : Act).tmps.getD i undef), rfl⟩, ?_⟩
        simp [intOf]
        omega
      · refine round_c k d0 d1 d8 d9 d17 d18 d19 d20 d21 d22 d23 d24 d25 d26 d27 d28 d29 d30 d31 d32 d33 d34 d35 d36 d37 d38 d39 d40 d41 d42 d43 d44 d45 d46 d47 d48 d49 d50 d51 d52 d53 d54 d55 d56 d57 d58 d59 d60 d61 d164 d165 d166 d167 d168 d169 d170 d171 d172 d173 d174 d175 d176 d177 d178 (f 2) (f 11) (f 12) (f 13) (f 14) (f 15) (f 16) (f 65) (f 66) (f 67) (f 68) (f 69) (f 70) (f 71) (f 72) (f 73) (f 74) (f 75) (f 76) (f 77) (f 78) (f 79) (f 80) (f 81) (f 82) (f 83) (f 84) (f 85) (f 86) (f 87) (f 88) (f 89) (f 90) (f 91) (f 92) (f 93) (f 94) (f 95) (f 96) (f 97) (f 98) (f 99) (f 100) (f 101) (f 102) (f 103) (f 104) (f 105) (f 106) (f 107) (f 108) (f 109) (f 110) (f 111) (f 112) (f 113) (f 114) (f 115) (f 116) (f 117) (f 118) (f 119) (f 120) (f 121) (f 122) (f 123) (f 124) (f 125) (f 126) (f 127) (f 128) (f 129) (f 130) (f 131) (f 132) (f 133) (f 134) (f 135) (f 136) (f 137) (f 138) (f 139) (f 140) (f 141) (f 142) (f 143) (f 144) (f 145) (f 146) (f 147) (f 148) (f 149) (f 150) (f 151) (f 152) (f 153) (f 154) (f 155) (f 156) (f 157) (f 158) (f 159) (f 160) (f 161) (f 162) (f 163) hlt HR hk0 (fun y0 y1 y2 u0 u1 u2 ny h1 h2 => by obtain ⟨rfl, rfl, rfl, rfl, rfl⟩ := same _ _ _ _ _ _ _ h1 h2; exact hc) _ ?_
        intro v2 v11 v12 v13 v14 v15 v16 v65 v66 v67 v68 v69 v70 v71 v72 v73 v74 v75 v76 v77 v78 v79 v80 v81 v82 v83 v84 v85 v86 v87 v88 v89 v90 v91 v92 v93 v94 v95 v96 v97 v98 v99 v100 v101 v102 v103 v104 v105 v106 v107 v108 v109 v110 v111 v112 v113 v114 v115 v116 v117 v118 v119 v120 v121 v122 v123 v124 v125 v126 v127 v128 v129 v130 v131 v132 v133 v134 v135 v136 v137 v138 v139 v140 v141 v142 v143 v144 v145 v146 v147 v148 v149 v150 v151 v152 v153 v154 v155 v156 v157 v158 v159 v160 v161 v162 v163 w'' hb2
        refine ⟨⟨k + 1, by omega, below_after hb hb2, fun i => ((⟨#[d0, d1, v2, .pointer (some ⟨g, 0, none⟩), .int .i64 head, .int .i64 foot, .slice A3 ln c3, .slice A5 ln c5, d8, d9, .int .i64 mo, v11, v12, v13, v14, v15, v16, d17, d18, d19, d20, d21, d22, d23, d24, d25, d26, d27, d28, d29, d30, d31, d32, d33, d34, d35, d36, d37, d38, d39, d40, d41, d42, d43, d44, d45, d46, d47, d48, d49, d50, d51, d52, d53, d54, d55, d56, d57, d58, d59, d60, d61, .slice A5 ln c5, .int .i64 (ln : Int), .int .i64 (k + 1 : Int), v65, v66, v67, v68, v69, v70, v71, v72, v73, v74, v75, v76, v77, v78, v79, v80, v81, v82, v83, v84, v85, v86, v87, v88, v89, v90, v91, v92, v93, v94, v95, v96, v97, v98, v99, v100, v101, v102, v103, v104, v105, v106, v107, v108, v109, v110, v111, v112, v113, v114, v115, v116, v117, v118, v119, v120, v121, v122, v123, v124, v125, v126, v127, v128, v129, v130, v131, v132, v133, v134, v135, v136, v137, v138, v139, v140, v141, v142, v143, v144, v145, v146, v147, v148, v149, v150, v151, v152, v153, v154, v155, v156, v157, v158, v159, v160, v161, v162, v163, d164, d165, d166, d167, d168, d169, d170, d171, d172, d173, d174, d175, d176, d177, d178], []⟩ : Act).tmps.getD i undef), rfl⟩, ?_⟩
        simp [intOf]
        omega
  · have hkl : k = ln := by omega
    refine round_end (p := p) (s := s) (r := r) (a := a) (ns := ns) (L := L) (m := m) k d0 d1 d8 d9 d17 d18 d19 d20 d21 d22 d23 d24 d25 d26 d27 d28 d29 d30 d31 d32 d33 d34 d35 d36 d37 d38 d39 d40 d41 d42 d43 d44 d45 d46 d47 d48 d49 d50 d51 d52 d53 d54 d55 d56 d57 d58 d59 d60 d61 d164 d165 d166 d167 d168 d169 d170 d171 d172 d173 d174 d175 d176 d177 d178 (f 2) (f 11) (f 12) (f 13) (f 14) (f 15) (f 16) (f 65) (f 66) (f 67) (f 68) (f 69) (f 70) (f 71) (f 72) (f 73) (f 74) (f 75) (f 76) (f 77) (f 78) (f 79) (f 80) (f 81) (f 82) (f 83) (f 84) (f 85) (f 86) (f 87) (f 88) (f 89) (f 90) (f 91) (f 92) (f 93) (f 94) (f 95) (f 96) (f 97) (f 98) (f 99) (f 100) (f 101) (f 102) (f 103) (f 104) (f 105) (f 106) (f 107) (f 108) (f 109) (f 110) (f 111) (f 112) (f 113) (f 114) (f 115) (f 116) (f 117) (f 118) (f 119) (f 120) (f 121) (f 122) (f 123) (f 124) (f 125) (f 126) (f 127) (f 128) (f 129) (f 130) (f 131) (f 132) (f 133) (f 134) (f 135) (f 136) (f 137) (f 138) (f 139) (f 140) (f 141) (f 142) (f 143) (f 144) (f 145) (f 146) (f 147) (f 148) (f 149) (f 150) (f 151) (f 152) (f 153) (f 154) (f 155) (f 156) (f 157) (f 158) (f 159) (f 160) (f 161) (f 162) (f 163) hkl _ ?_
    exact hexit (fun i => ((⟨#[d0, d1, f 2, .pointer (some ⟨g, 0, none⟩), .int .i64 head, .int .i64 foot, .slice A3 ln c3, .slice A5 ln c5, d8, d9, .int .i64 mo, f 11, f 12, f 13, f 14, f 15, f 16, d17, d18, d19, d20, d21, d22, d23, d24, d25, d26, d27, d28, d29, d30, d31, d32, d33, d34, d35, d36, d37, d38, d39, d40, d41, d42, d43, d44, d45, d46, d47, d48, d49, d50, d51, d52, d53, d54, d55, d56, d57, d58, d59, d60, d61, .slice A5 ln c5, .int .i64 (ln : Int), .int .i64 (k : Int), f 65, f 66, f 67, f 68, f 69, f 70, f 71, f 72, f 73, f 74, f 75, f 76, f 77, f 78, f 79, f 80, f 81, f 82, f 83, f 84, f 85, f 86, f 87, f 88, f 89, f 90, f 91, f 92, f 93, f 94, f 95, f 96, f 97, f 98, f 99, f 100, f 101, f 102, f 103, f 104, f 105, f 106, f 107, f 108, f 109, f 110, f 111, f 112, f 113, f 114, f 115, f 116, f 117, f 118, f 119, f 120, f 121, f 122, f 123, f 124, f 125, f 126, f 127, f 128, f 129, f 130, f 131, f 132, f 133, f 134, f 135, f 136, f 137, f 138, f 139, f 140, f 141, f 142, f 143, f 144, f 145, f 146, f 147, f 148, f 149, f 150, f 151, f 152, f 153, f 154, f 155, f 156, f 157, f 158, f 159, f 160, f 161, f 162, f 163, d164, d165, d166, d167, d168, d169, d170, d171, d172, d173, d174, d175, d176, d177, d178], []⟩ : Act).tmps.getD i undef)) w' hb
end Go.Proofs.Ytdmcihajgcdhmaa.QGeomApart
