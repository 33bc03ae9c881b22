/- A map from whole numbers as what it tells.
   No condition. -/
import Derived.Test.YteaidghanfjigaaQCurveCurvesx1
import Derived.Test.YteaidghanfjigaaXtra
import Derived.ArgAppend
import Derived.BigRegion
import Derived.Deep.QuietTactic
import Derived.BigQuiet
import Derived.Deep.RegionHeld3
import Derived.ChangeAlike
import Derived.RegionTactic
import Derived.Maps.OwnSet
import Derived.Maps.OwnOps
import Derived.Deep.DeepCutAuto
import Derived.Deep.CutBlock
import Derived.Deep.RegionLaw
import Derived.StillTailTactics
namespace Go.Proofs.Yteaidghanfjigaa.QCurveCurves
open Go.RowKit Go.Proofs.YteaidghanfjigaaW.PrintWords Go.Proofs.YteaidghanfjigaaW.PrintLast Go.Proofs.YteaidghanfjigaaW.PrintMore
set_option linter.unusedVariables false
set_option linter.unusedSimpArgs false
/-- Block mb of w is a map from whole numbers, of cnt entries, that holds just what f tells. -/
def MapV (R : Value → Option (DataW Unit × List MemPlace)) (w : World) (mb n : Nat) (f : Int → Option Int) (cnt : Nat) : Prop :=
  ∃ D : DataW Unit, w.ownsMap Try.prog 23 R mb n D ∧ Maps.size D = cnt ∧ ∀ x, (Lit.int .u64 x).wf = true → Maps.has D (.int .u64 x) = (f x).isSome ∧ ∀ a, f x = some a → ∀ z, D.atKey (.int .u64 x) z = .lit (.int .i64 a)
theorem key23 : Maps.Keyed Try.prog 23 := Maps.int_keyed Try.underlying23
theorem MapV.new {R : Value → Option (DataW Unit × List MemPlace)} {w : World} {mb : Nat} (h : w.heap[mb]? = some (.map #[] 0)) : MapV R w mb 0 (fun _ => none) 0 :=
  ⟨.map [], ⟨#[], 0, h, ⟨by simp, MapKept.stamped_empty 0, by simp⟩, Nat.le_refl _, rfl⟩, rfl, fun x _ => ⟨rfl, fun a h => by cases h⟩⟩
theorem MapV.kept {R : Value → Option (DataW Unit × List MemPlace)} {w w' : World} {mb n cnt : Nat} {f : Int → Option Int} {row : Option Nat} (h : MapV R w mb n f cnt) (hg : w.grownBy w' row) (hne : some mb ≠ row) : MapV R w' mb n f cnt :=
  let ⟨D, h1, h2⟩ := h; ⟨D, h1.kept hg hne, h2⟩
theorem MapV.congr {R : Value → Option (DataW Unit × List MemPlace)} {w w' : World} {mb n cnt : Nat} {f g : Int → Option Int} (h : MapV R w mb n f cnt) (hb : w'.heap[mb]? = w.heap[mb]?) (hf : ∀ x, (Lit.int .u64 x).wf = true → g x = f x) : MapV R w' mb n g cnt := by
  obtain ⟨D, ⟨es, clock, h1, h2⟩, h3, h4⟩ := h
  exact ⟨D, ⟨es, clock, hb.trans h1, h2⟩, h3, fun x hx => by rw [hf x hx]; exact h4 x hx⟩
theorem MapV.lt {R : Value → Option (DataW Unit × List MemPlace)} {w : World} {mb n cnt : Nat} {f : Int → Option Int} (h : MapV R w mb n f cnt) : mb < w.heap.size := let ⟨_, h1, _⟩ := h; h1.lt
theorem MapV.below {R : Value → Option (DataW Unit × List MemPlace)} {w w' : World} {mb n cnt : Nat} {f : Int → Option Int} (h : MapV R w mb n f cnt) (hb : Below w.heap.size w w') : MapV R w' mb n f cnt := h.kept (grown_of_below hb none) (by simp)
theorem MapV.setCell {R : Value → Option (DataW Unit × List MemPlace)} {w : World} {mb n cnt : Nat} {f : Int → Option Int} (h : MapV R w mb n f cnt) {p : Addr} (hp : mb ≠ p.block) (u : Value) : MapV R (w.setCell p u) mb n f cnt :=
  let ⟨D, h1, h2⟩ := h; ⟨D, h1.setCell hp u, h2⟩
theorem MapV.drewN {R : Value → Option (DataW Unit × List MemPlace)} {w : World} {mb n cnt : Nat} {f : Int → Option Int} (h : MapV R w mb n f cnt) (k : Nat) : MapV R (w.drewN k) mb n f cnt :=
  h.below (pw_below_drewN (Below.refl _ _) k)
theorem MapV.ne_cells {R : Value → Option (DataW Unit × List MemPlace)} {w : World} {mb n cnt : Nat} {f : Int → Option Int} (h : MapV R w mb n f cnt) {g : Nat} {cs : Array Value} {t : TypeId} {fr : Nat × Nat} (hg : w.heap[g]? = some (.cells cs t fr)) : mb ≠ g := by
  intro e
  subst e
  obtain ⟨D, ⟨es, clock, hb, _⟩, _⟩ := h
  rw [hb] at hg
  cases hg
theorem keyOf23 {x : Int} (h : (Lit.int .u64 x).wf = true) : keyOf Try.prog 23 (.int .u64 x) = some (.int .u64 x) := Maps.keyOf_int_mk Try.underlying23 h
section
variable {ops : Array Oper} {rest : List Oper} {o : Oper} {a : Act} {Q : Exit → Act → World → Prop} {R : Value → Option (DataW Unit × List MemPlace)}
theorem wpList_mapv_hit (w : World) (hg : o.guard = none) (m x : Operand) (t e : TypeId) (hop : o.op = Op.lookup t m x true) (ht : Try.prog.underlying t = some (.map 23 e)) (z : Value) (hz : (zeroValue e).run Try.prog w = .ok z w) (zd : DataW Unit) (zp : List MemPlace) (hzd : R z = some (zd, zp))
    (enc : Int → Value) (hinv : ∀ v c ps, R v = some (.lit (.int .i64 c), ps) → v = enc c) (mb n cnt : Nat) (f : Int → Option Int) (hm : a.eval m = .map (some mb)) (H : MapV R w mb n f cnt) (key : Int) (hwf : (Lit.int .u64 key).wf = true) (hx : a.eval x = .int .u64 key) (val : Int) (hf : f key = some val)
    (hK : wpList Try.prog ops Q rest (a.put o.dst (.tuple #[enc val, .bool true])) w) : wpList Try.prog ops Q (o :: rest) a w := by
  obtain ⟨D, h1, h2, h3⟩ := H
  obtain ⟨e1, e2⟩ := h3 key hwf
  refine wpList_lookup_own_ok w hg m x t hop 23 e key23 ht R hz zd zp hzd mb n D hm h1 _ _ hx (keyOf23 hwf) (fun v ps hv => ?_)
  rw [e2 val hf] at hv
  rw [hinv v val ps hv, e1, hf]
  exact hK
theorem wpList_mapv_miss (w : World) (hg : o.guard = none) (m x : Operand) (t e : TypeId) (hop : o.op = Op.lookup t m x true) (ht : Try.prog.underlying t = some (.map 23 e)) (z : Value) (hz : (zeroValue e).run Try.prog w = .ok z w) (zd : DataW Unit) (zp : List MemPlace) (hzd : R z = some (zd, zp))
    (hinv : ∀ v ps, R v = some (zd, ps) → v = z) (mb n cnt : Nat) (f : Int → Option Int) (hm : a.eval m = .map (some mb)) (H : MapV R w mb n f cnt) (key : Int) (hwf : (Lit.int .u64 key).wf = true) (hx : a.eval x = .int .u64 key) (hf : f key = none)
    (hK : wpList Try.prog ops Q rest (a.put o.dst (.tuple #[z, .bool false])) w) : wpList Try.prog ops Q (o :: rest) a w := by
  obtain ⟨D, h1, h2, h3⟩ := H
  obtain ⟨e1, e2⟩ := h3 key hwf
  rw [hf] at e1
  refine wpList_lookup_own_ok w hg m x t hop 23 e key23 ht R hz zd zp hzd mb n D hm h1 _ _ hx (keyOf23 hwf) (fun v ps hv => ?_)
  rw [Maps.atKey_of_not_has e1] at hv
  rw [hinv v ps hv, e1]
  exact hK
theorem MapV.put {w w' : World} {mb n cnt : Nat} {f : Int → Option Int} {key val : Int} {D : DataW Unit} (h1 : w.ownsMap Try.prog 23 R mb n D) (h2 : Maps.size D = cnt) (h3 : ∀ x, (Lit.int .u64 x).wf = true → Maps.has D (.int .u64 x) = (f x).isSome ∧ ∀ a, f x = some a → ∀ z, D.atKey (.int .u64 x) z = .lit (.int .i64 a))
    (hwf : (Lit.int .u64 key).wf = true) (hown : w'.ownsMap Try.prog 23 R mb (n + 1) (D.put (.int .u64 key) (.lit (.int .i64 val)))) : MapV R w' mb (n + 1) (fun y => if y = key then some val else f y) (if (f key).isSome then cnt else cnt + 1) := by
  refine ⟨_, hown, ?_, fun x hx => ?_⟩
  · rw [Maps.size_put (h1.tidy key23), (h3 key hwf).1, h2]
  · by_cases c : x = key
    · subst c
      refine ⟨by rw [Maps.has_put_same h1.isMap (show WideAt.IsKeyLit (.int .u64 x) from trivial)]; simp, fun a ha z => ?_⟩
      replace ha : (if x = x then some val else f x) = some a := ha
      rw [if_pos rfl] at ha
      rw [Maps.atKey_put_same h1.isMap (show WideAt.IsKeyLit (.int .u64 x) from trivial), Option.some.inj ha]
    · have hne : (Lit.int .u64 x) ≠ .int .u64 key := fun e => c (by injection e)
      refine ⟨by show _ = (if x = key then some val else f x).isSome; rw [Maps.has_put_other hne, (h3 x hx).1, if_neg c], fun a ha z => ?_⟩
      replace ha : (if x = key then some val else f x) = some a := ha
      rw [if_neg c] at ha
      rw [Maps.atKey_put_other hne]
      exact (h3 x hx).2 a ha z
theorem wpList_mapv_put (w : World) (hg : o.guard = none) (m x v : Operand) (t e : TypeId) (hop : o.op = Op.mapUpdate t m x v) (ht : Try.prog.underlying t = some (.map 23 e)) (mb n cnt : Nat) (f : Int → Option Int) (hm : a.eval m = .map (some mb)) (H : MapV R w mb n f cnt) (hn : n < maxLen) (key : Int) (hwf : (Lit.int .u64 key).wf = true) (hx : a.eval x = .int .u64 key)
    (vv : Value) (hv : a.eval v = vv) (val : Int) (ps : List MemPlace) (hval : R vv = some (.lit (.int .i64 val), ps))
    (hK : ∀ w', MapV R w' mb (n + 1) (fun y => if y = key then some val else f y) (if (f key).isSome then cnt else cnt + 1) → w.grownBy w' (some mb) → wpList Try.prog ops Q rest (a.put o.dst undef) w') : wpList Try.prog ops Q (o :: rest) a w := by
  obtain ⟨D, h1, h2, h3⟩ := H
  exact wpList_mapUpdate_own w hg m x v t hop 23 e key23 ht R mb n D hm h1 hn _ vv _ hx hv (keyOf23 hwf) _ ps hval (fun w' hown hg => hK w' (MapV.put h1 h2 h3 hwf hown) hg)
theorem MapV.cut {w w' : World} {mb n cnt : Nat} {f : Int → Option Int} {key : Int} {D : DataW Unit} (h1 : w.ownsMap Try.prog 23 R mb n D) (h2 : Maps.size D = cnt) (h3 : ∀ x, (Lit.int .u64 x).wf = true → Maps.has D (.int .u64 x) = (f x).isSome ∧ ∀ a, f x = some a → ∀ z, D.atKey (.int .u64 x) z = .lit (.int .i64 a))
    (hwf : (Lit.int .u64 key).wf = true) (hown : w'.ownsMap Try.prog 23 R mb n (D.del (.int .u64 key))) : MapV R w' mb n (fun y => if y = key then none else f y) (cnt - (if (f key).isSome then 1 else 0)) := by
  refine ⟨_, hown, ?_, fun x hx => ?_⟩
  · have := Maps.size_del (k := .int .u64 key) (h1.tidy key23)
    rw [(h3 key hwf).1, h2] at this
    omega
  · by_cases c : x = key
    · subst c
      exact ⟨by rw [Maps.has_del_same]; simp, fun a ha z => by simp at ha⟩
    · have hne : (Lit.int .u64 x) ≠ .int .u64 key := fun e => c (by injection e)
      refine ⟨by show _ = (if x = key then none else f x).isSome; rw [Maps.has_del_other hne, (h3 x hx).1, if_neg c], fun a ha z => ?_⟩
      replace ha : (if x = key then none else f x) = some a := ha
      rw [if_neg c] at ha
      rw [Maps.atKey_del_other hne]
      exact (h3 x hx).2 a ha z
theorem run_mapv_delete (w : World) (t e ty : TypeId) (ht : Try.prog.underlying t = some (.map 23 e)) (mb n cnt : Nat) (f : Int → Option Int) (H : MapV R w mb n f cnt) (key : Int) (hwf : (Lit.int .u64 key).wf = true) :
    ∃ w', (Builtin.delete_ #[t, 23] ty #[.map (some mb), .int .u64 key]).run Try.prog w = .ok (.tuple #[]) w' ∧ MapV R w' mb n (fun y => if y = key then none else f y) (cnt - (if (f key).isSome then 1 else 0)) ∧ w.grownBy w' (some mb) := by
  obtain ⟨D, h1, h2, h3⟩ := H
  obtain ⟨w', hr, hown, hg⟩ := h1.drop key23 ht (keyOf23 hwf) ty
  exact ⟨w', hr, MapV.cut h1 h2 h3 hwf hown, hg.grown⟩
theorem wpList_mapv_delete (w : World) (hg : o.guard = none) (m x : Operand) (t e : TypeId) (hop : o.op = Op.call { callee := Callee.builtin Builtin.delete, args := #[m, x], argTypes := #[t, 23] }) (ht : Try.prog.underlying t = some (.map 23 e)) (mb n cnt : Nat) (f : Int → Option Int) (hm : a.eval m = .map (some mb)) (H : MapV R w mb n f cnt) (key : Int) (hwf : (Lit.int .u64 key).wf = true) (hx : a.eval x = .int .u64 key)
    (hK : ∀ w', MapV R w' mb n (fun y => if y = key then none else f y) (cnt - (if (f key).isSome then 1 else 0)) → w.grownBy w' (some mb) → wpList Try.prog ops Q rest (a.put o.dst (.tuple #[])) w') : wpList Try.prog ops Q (o :: rest) a w := by
  obtain ⟨D, h1, h2, h3⟩ := H
  exact wpList_delete_own w hg m x t 23 hop e key23 ht R mb n D hm h1 _ _ hx (keyOf23 hwf) (fun w' hown hg => hK w' (MapV.cut h1 h2 h3 hwf hown) hg.grown)
theorem wpList_mapv_len (w : World) (hg : o.guard = none) (m : Operand) (t e : TypeId) (hop : o.op = Op.call { callee := Callee.builtin Builtin.len, args := #[m], argTypes := #[t] }) (ht : Try.prog.underlying t = some (.map 23 e)) (mb n cnt : Nat) (f : Int → Option Int) (hm : a.eval m = .map (some mb)) (H : MapV R w mb n f cnt)
    (hK : wpList Try.prog ops Q rest (a.put o.dst (.int .i64 cnt)) w) : wpList Try.prog ops Q (o :: rest) a w := by
  obtain ⟨D, h1, h2, h3⟩ := H
  refine wpList_len_own w hg m t hop 23 e ht R mb n D hm h1 ?_
  rw [h2]
  exact hK
end
/-- How a pointer to a block's head reads. -/
def ptrElem (v : Value) : Option (DataW Unit × List MemPlace) :=
  match v with
  | .pointer (some p) => if p = ⟨p.block, 0, none⟩ then some (.lit (.int .i64 p.block), []) else none
  | .pointer none => some (.nil, [])
  | _ => none
theorem ptrElem_mk (b : Nat) : ptrElem (.pointer (some ⟨b, 0, none⟩)) = some (.lit (.int .i64 b), []) := by simp [ptrElem]
theorem ptrElem_inv (v : Value) (c : Int) (ps : List MemPlace) (h : ptrElem v = some (.lit (.int .i64 c), ps)) : v = .pointer (some ⟨c.toNat, 0, none⟩) := by
  unfold ptrElem at h
  split at h
  · rename_i p
    split at h
    · rename_i hp
      injection h with h
      injection h with h _
      injection h with h
      injection h with _ h
      rw [← h, Int.toNat_natCast]
      rw [hp]
    · cases h
  · injection h with h
    injection h with h _
    cases h
  · cases h
theorem ptrElem_nil (v : Value) (ps : List MemPlace) (h : ptrElem v = some (.nil, ps)) : v = .pointer none := by
  unfold ptrElem at h
  split at h
  · split at h
    · injection h with h
      injection h with h _
      cases h
    · cases h
  · rfl
  · cases h
theorem intElem_mk {x : Int} (h : (Lit.int .i64 x).wf = true) : plainElem (H := Unit) Try.prog 3 (.int .i64 x) = some (.lit (.int .i64 x), []) := plainElem_int Try.underlying3 h
theorem intElem_inv (v : Value) (c : Int) (ps : List MemPlace) (h : plainElem (H := Unit) Try.prog 3 v = some (.lit (.int .i64 c), ps)) : v = .int .i64 c := by
  obtain ⟨x, rfl, hx, _⟩ := plainElem_int_inv Try.underlying3 h
  injection hx with hx _
  injection hx with hx
  injection hx with _ hx
  rw [hx]
end Go.Proofs.Yteaidghanfjigaa.QCurveCurves
