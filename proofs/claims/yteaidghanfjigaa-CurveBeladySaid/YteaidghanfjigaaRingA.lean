/- A ring of links: a link out, a link in front, a new ring.
   No condition. -/
import Derived.Test.YteaidghanfjigaaMapV
import Derived.ArgAppend
import Derived.BigRegion
import Derived.Deep.QuietTactic
import Derived.BigQuiet
import Derived.Deep.RegionHeld3
import Derived.ChangeAlike
import Derived.RegionTactic
import Derived.Maps.OwnSet
import Derived.Maps.OwnOps
import Derived.Deep.DeepCutAuto
import Derived.Deep.CutBlock
import Derived.Deep.RegionLaw
import Derived.StillTailTactics
namespace Go.Proofs.Yteaidghanfjigaa.QCurveCurves
open Go.RowKit Go.Proofs.YteaidghanfjigaaW.PrintWords Go.Proofs.YteaidghanfjigaaW.PrintLast Go.Proofs.YteaidghanfjigaaW.PrintMore
set_option linter.unusedVariables false
set_option linter.unusedSimpArgs false
/-- A link's block. -/
def Lk (w : World) (b : Nat) (h : Int) (p n : Nat) : Prop := w.heap[b]? = some (.cells #[.int .u64 h, .pointer (some ⟨p, 0, none⟩), .pointer (some ⟨n, 0, none⟩)] 64 (0, 0))
theorem Lk.c0 {w : World} {b : Nat} {h : Int} {p n : Nat} (H : Lk w b h p n) : w.cell? ⟨b, 0, none⟩ = some (.int .u64 h) := blk_cell H 0
theorem Lk.c1 {w : World} {b : Nat} {h : Int} {p n : Nat} (H : Lk w b h p n) : w.cell? ⟨b, 1, none⟩ = some (.pointer (some ⟨p, 0, none⟩)) := blk_cell H 1
theorem Lk.c2 {w : World} {b : Nat} {h : Int} {p n : Nat} (H : Lk w b h p n) : w.cell? ⟨b, 2, none⟩ = some (.pointer (some ⟨n, 0, none⟩)) := blk_cell H 2
theorem Lk.f {w : World} {b : Nat} {h : Int} {p n : Nat} (H : Lk w b h p n) (i : Nat) : w.frozen? ⟨b, i, none⟩ = false := blk_frozen H i
set_option maxHeartbeats 4000000 in
set_option maxRecDepth 100000 in
theorem out_walk (x p n : Nat) (u1 u2 : Value) (w : World) (x1 : w.cell? ⟨x, 1, none⟩ = some (.pointer (some ⟨p, 0, none⟩))) (x2 : w.cell? ⟨x, 2, none⟩ = some (.pointer (some ⟨n, 0, none⟩))) (y2 : w.cell? ⟨p, 2, none⟩ = some u2) (y1 : w.cell? ⟨n, 1, none⟩ = some u1) (f1 : w.frozen? ⟨p, 2, none⟩ = false) (f2 : w.frozen? ⟨n, 1, none⟩ = false) :
    Calls Try.prog 38 #[.pointer (some ⟨x, 0, none⟩)] w fun e w' => e = .returned (.tuple #[]) ∧ ∃ k, w' = ((w.setCell ⟨p, 2, none⟩ (.pointer (some ⟨n, 0, none⟩))).setCell ⟨n, 1, none⟩ (.pointer (some ⟨p, 0, none⟩))).drewN k := by
  go_enter Try.func38, Try.ntmps38
  go_region
  go_end0
  exact ⟨rfl, 1, rfl⟩
/-- A ring's block. -/
def Rg (w : World) (b root mb : Nat) : Prop := w.heap[b]? = some (.cells #[.pointer (some ⟨root, 0, none⟩), .map (some mb)] 58 (0, 0))
theorem Rg.c0 {w : World} {b root mb : Nat} (H : Rg w b root mb) : w.cell? ⟨b, 0, none⟩ = some (.pointer (some ⟨root, 0, none⟩)) := blk_cell H 0
theorem Rg.c1 {w : World} {b root mb : Nat} (H : Rg w b root mb) : w.cell? ⟨b, 1, none⟩ = some (.map (some mb)) := blk_cell H 1
set_option maxHeartbeats 4000000 in
set_option maxRecDepth 100000 in
theorem front_walk (rb root x n : Nat) (u1 u2 v1 : Value) (w : World) (r0 : w.cell? ⟨rb, 0, none⟩ = some (.pointer (some ⟨root, 0, none⟩))) (q2 : w.cell? ⟨root, 2, none⟩ = some (.pointer (some ⟨n, 0, none⟩))) (n1 : w.cell? ⟨n, 1, none⟩ = some v1) (x1 : w.cell? ⟨x, 1, none⟩ = some u1) (x2 : w.cell? ⟨x, 2, none⟩ = some u2)
    (f1 : w.frozen? ⟨x, 1, none⟩ = false) (f2 : w.frozen? ⟨x, 2, none⟩ = false) (f3 : w.frozen? ⟨n, 1, none⟩ = false) (f4 : w.frozen? ⟨root, 2, none⟩ = false) (a2 : ¬ rb = x) (a3 : ¬ rb = n) (a7 : ¬ x = root) (a8 : ¬ x = n) :
    Calls Try.prog 39 #[.pointer (some ⟨rb, 0, none⟩), .pointer (some ⟨x, 0, none⟩)] w fun e w' => e = .returned (.tuple #[]) ∧ ∃ k, w' = ((((w.setCell ⟨x, 1, none⟩ (.pointer (some ⟨root, 0, none⟩))).setCell ⟨x, 2, none⟩ (.pointer (some ⟨n, 0, none⟩))).setCell ⟨n, 1, none⟩ (.pointer (some ⟨x, 0, none⟩))).setCell ⟨root, 2, none⟩ (.pointer (some ⟨x, 0, none⟩))).drewN k := by
  have a1 : ¬ x = rb := fun e => a2 e.symm
  have a4 : ¬ n = rb := fun e => a3 e.symm
  have a5 : ¬ root = x := fun e => a7 e.symm
  have a6 : ¬ n = x := fun e => a8 e.symm
  go_enter Try.func39, Try.ntmps39
  go_wp2
  go_region
  go_wp2
  go_end0
  exact ⟨rfl, 1, rfl⟩
/-- Block b is a link with hash h. -/
def Nd (w : World) (b : Nat) (h : Int) : Prop := ∃ p n : Value, w.heap[b]? = some (.cells #[.int .u64 h, p, n] 64 (0, 0))
theorem Nd.c0 {w : World} {b : Nat} {h : Int} (H : Nd w b h) : w.cell? ⟨b, 0, none⟩ = some (.int .u64 h) := let ⟨_, _, e⟩ := H; blk_cell e 0
theorem Nd.c1 {w : World} {b : Nat} {h : Int} (H : Nd w b h) : ∃ u, w.cell? ⟨b, 1, none⟩ = some u := let ⟨p, _, e⟩ := H; ⟨p, blk_cell e 1⟩
theorem Nd.c2 {w : World} {b : Nat} {h : Int} (H : Nd w b h) : ∃ u, w.cell? ⟨b, 2, none⟩ = some u := let ⟨_, n, e⟩ := H; ⟨n, blk_cell e 2⟩
theorem Nd.f {w : World} {b : Nat} {h : Int} (H : Nd w b h) (i : Nat) : w.frozen? ⟨b, i, none⟩ = false := let ⟨_, _, e⟩ := H; blk_frozen e i
theorem Nd.set1 {w : World} {b : Nat} {h : Int} (H : Nd w b h) (g : Nat) (v : Value) : Nd (w.setCell ⟨g, 1, none⟩ v) b h := by
  obtain ⟨p, n, e⟩ := H
  by_cases c : b = g
  · subst c; exact ⟨v, n, blk_put e 1 v rfl⟩
  · exact ⟨p, n, blk_far e (p := ⟨g, 1, none⟩) c v⟩
theorem Nd.set2 {w : World} {b : Nat} {h : Int} (H : Nd w b h) (g : Nat) (v : Value) : Nd (w.setCell ⟨g, 2, none⟩ v) b h := by
  obtain ⟨p, n, e⟩ := H
  by_cases c : b = g
  · subst c; exact ⟨p, v, blk_put e 2 v rfl⟩
  · exact ⟨p, n, blk_far e (p := ⟨g, 2, none⟩) c v⟩
theorem Nd.below {w w1 : World} {b : Nat} {h : Int} (H : Nd w b h) (hb : Below w.heap.size w w1) : Nd w1 b h := let ⟨p, n, e⟩ := H; ⟨p, n, blk_below e hb⟩
theorem Nd.grown {w w1 : World} {b : Nat} {h : Int} {row : Option Nat} (H : Nd w b h) (hg : w.grownBy w1 row) (hne : some b ≠ row) : Nd w1 b h := let ⟨p, n, e⟩ := H; ⟨p, n, blk_grown e hg hne⟩
theorem Nd.lt {w : World} {b : Nat} {h : Int} (H : Nd w b h) : b < w.heap.size := let ⟨_, _, e⟩ := H; blk_lt e
/-- Each leads to the next, and back. -/
def Ch (w : World) : List Nat → Prop
  | [] => True
  | [_] => True
  | a :: b :: r => w.cell? ⟨a, 2, none⟩ = some (.pointer (some ⟨b, 0, none⟩)) ∧ w.cell? ⟨b, 1, none⟩ = some (.pointer (some ⟨a, 0, none⟩)) ∧ Ch w (b :: r)
theorem Ch.append (w : World) : ∀ (A : List Nat) (a : Nat) (B : List Nat), Ch w (A ++ a :: B) ↔ Ch w (A ++ [a]) ∧ Ch w (a :: B)
  | [], a, B => by simp [Ch]
  | [x], a, B => by simp [Ch, and_assoc]
  | x :: y :: A, a, B => by
    have ih := Ch.append w (y :: A) a B
    simp only [List.cons_append] at ih ⊢
    simp only [Ch]
    rw [ih, and_assoc, and_assoc]
theorem Ch.congr {w w' : World} : ∀ (P : List Nat), (∀ a ∈ P.dropLast, w'.cell? ⟨a, 2, none⟩ = w.cell? ⟨a, 2, none⟩) → (∀ b ∈ P.tail, w'.cell? ⟨b, 1, none⟩ = w.cell? ⟨b, 1, none⟩) → Ch w P → Ch w' P
  | [], _, _, _ => trivial
  | [_], _, _, _ => trivial
  | a :: b :: r, h1, h2, h => by
    obtain ⟨e1, e2, e3⟩ := h
    refine ⟨(h1 a (by simp)).trans e1, (h2 b (by simp)).trans e2, Ch.congr (b :: r) (fun x hx => h1 x (by simp only [List.dropLast_cons_cons]; exact List.mem_cons_of_mem _ hx)) (fun x hx => h2 x ?_) e3⟩
    simp only [List.tail_cons] at hx ⊢
    exact List.mem_cons_of_mem _ hx
theorem addr_ne {a b i j : Nat} (h : a ≠ b ∨ i ≠ j) : (⟨a, i, none⟩ : Addr) ≠ ⟨b, j, none⟩ := fun e => by
  injection e with e1 e2
  rcases h with h | h
  · exact h e1
  · exact h e2
/-- x is taken out. -/
theorem Ch.out {w : World} (P Q : List Nat) (p x n : Nat) (hc : Ch w ((P ++ [p]) ++ x :: n :: Q)) (hp : p ∉ P) (hpQ : p ∉ (n :: Q).dropLast) (hnP : n ∉ (P ++ [p]).tail) (hnQ : n ∉ Q) {u1 u2 : Value} (e1 : w.cell? ⟨n, 1, none⟩ = some u1) (e2 : w.cell? ⟨p, 2, none⟩ = some u2) :
    w.cell? ⟨x, 1, none⟩ = some (.pointer (some ⟨p, 0, none⟩)) ∧ w.cell? ⟨x, 2, none⟩ = some (.pointer (some ⟨n, 0, none⟩)) ∧ Ch ((w.setCell ⟨p, 2, none⟩ (.pointer (some ⟨n, 0, none⟩))).setCell ⟨n, 1, none⟩ (.pointer (some ⟨p, 0, none⟩))) ((P ++ [p]) ++ n :: Q) := by
  rw [List.append_assoc, List.singleton_append, Ch.append] at hc
  obtain ⟨h1, h2⟩ := hc
  obtain ⟨_, a2, a3, a4, h3⟩ := h2
  refine ⟨a2, a3, ?_⟩
  rw [List.append_assoc, List.singleton_append, Ch.append]
  refine ⟨?_, ?_, ?_, ?_⟩
  · refine Ch.congr (P ++ [p]) (fun a ha => ?_) (fun b hb => ?_) h1
    · rw [List.dropLast_concat] at ha
      rw [World.cell?_setCell_other _ _ _ _ (addr_ne (.inr (by decide))), World.cell?_setCell_other _ _ _ _ (addr_ne (.inl (fun e => hp (by rw [e]; exact ha))))]
    · rw [World.cell?_setCell_other _ _ _ _ (addr_ne (.inl (fun e => hnP (by rw [e]; exact hb)))), World.cell?_setCell_other _ _ _ _ (addr_ne (.inr (by decide)))]
  · rw [World.cell?_setCell_other _ _ _ _ (addr_ne (.inr (by decide)))]
    exact World.cell?_setCell_same _ _ _ e2
  · exact World.cell?_setCell_same _ _ _ ((World.cell?_setCell_other _ _ _ _ (addr_ne (.inr (by decide)))).trans e1)
  · refine Ch.congr (n :: Q) (fun a ha => ?_) (fun b hb => ?_) h3
    · rw [World.cell?_setCell_other _ _ _ _ (addr_ne (.inr (by decide))), World.cell?_setCell_other _ _ _ _ (addr_ne (.inl (fun e => hpQ (by rw [e]; exact ha))))]
    · rw [World.cell?_setCell_other _ _ _ _ (addr_ne (.inl (fun e => hnQ (by rw [e]; exact hb)))), World.cell?_setCell_other _ _ _ _ (addr_ne (.inr (by decide)))]
/-- x is put first. -/
theorem Ch.front {w : World} (Q : List Nat) (r x n : Nat) (hc : Ch w (r :: n :: Q)) (hr : r ∉ (n :: Q).dropLast) (hx : x ∉ (n :: Q).dropLast) (hxQ : x ∉ Q) (hnQ : n ∉ Q) (hxr : x ≠ r) (hxn : x ≠ n) {u1 u2 u3 u4 : Value} (e1 : w.cell? ⟨x, 1, none⟩ = some u1) (e2 : w.cell? ⟨x, 2, none⟩ = some u2) :
    w.cell? ⟨r, 2, none⟩ = some (.pointer (some ⟨n, 0, none⟩)) ∧ Ch ((((w.setCell ⟨x, 1, none⟩ (.pointer (some ⟨r, 0, none⟩))).setCell ⟨x, 2, none⟩ (.pointer (some ⟨n, 0, none⟩))).setCell ⟨n, 1, none⟩ (.pointer (some ⟨x, 0, none⟩))).setCell ⟨r, 2, none⟩ (.pointer (some ⟨x, 0, none⟩))) (r :: x :: n :: Q) := by
  obtain ⟨a1, a2, h3⟩ := hc
  refine ⟨a1, ?_, ?_, ?_, ?_, ?_⟩
  · refine World.cell?_setCell_same _ _ _ (u := .pointer (some ⟨n, 0, none⟩)) ?_
    rw [World.cell?_setCell_other _ _ _ _ (addr_ne (.inr (by decide))), World.cell?_setCell_other _ _ _ _ (addr_ne (.inl hxr)), World.cell?_setCell_other _ _ _ _ (addr_ne (.inr (by decide)))]
    exact a1
  · rw [World.cell?_setCell_other _ _ _ _ (addr_ne (.inr (by decide))), World.cell?_setCell_other _ _ _ _ (addr_ne (.inl (Ne.symm hxn))), World.cell?_setCell_other _ _ _ _ (addr_ne (.inr (by decide)))]
    exact World.cell?_setCell_same _ _ _ e1
  · rw [World.cell?_setCell_other _ _ _ _ (addr_ne (.inl (Ne.symm hxr))), World.cell?_setCell_other _ _ _ _ (addr_ne (.inr (by decide)))]
    exact World.cell?_setCell_same _ _ _ ((World.cell?_setCell_other _ _ _ _ (addr_ne (.inr (by decide)))).trans e2)
  · rw [World.cell?_setCell_other _ _ _ _ (addr_ne (.inr (by decide)))]
    refine World.cell?_setCell_same _ _ _ (u := .pointer (some ⟨r, 0, none⟩)) ?_
    rw [World.cell?_setCell_other _ _ _ _ (addr_ne (.inr (by decide))), World.cell?_setCell_other _ _ _ _ (addr_ne (.inl hxn))]
    exact a2
  · refine Ch.congr (n :: Q) (fun a ha => ?_) (fun b hb => ?_) h3
    · rw [World.cell?_setCell_other _ _ _ _ (addr_ne (.inl (fun e => hr (by rw [e]; exact ha)))), World.cell?_setCell_other _ _ _ _ (addr_ne (.inr (by decide))), World.cell?_setCell_other _ _ _ _ (addr_ne (.inl (fun e => hx (by rw [e]; exact ha)))), World.cell?_setCell_other _ _ _ _ (addr_ne (.inr (by decide)))]
    · rw [World.cell?_setCell_other _ _ _ _ (addr_ne (.inr (by decide))), World.cell?_setCell_other _ _ _ _ (addr_ne (.inl (fun e => hnQ (by rw [e]; exact hb)))), World.cell?_setCell_other _ _ _ _ (addr_ne (.inr (by decide))), World.cell?_setCell_other _ _ _ _ (addr_ne (.inl (fun e => hxQ (by rw [e]; exact hb))))]
/-- A ring's links, the newest first. -/
structure Rc (w : World) (root : Nat) (L : List (Nat × Int)) : Prop where
  nd0 : Nd w root 0
  nds : ∀ q ∈ L, Nd w q.1 q.2
  ch : Ch w (root :: (L.map (·.1) ++ [root]))
  nod : (root :: L.map (·.1)).Nodup
theorem snoc_ex {α : Type} (a : α) (l : List α) : ∃ P p, a :: l = P ++ [p] := ⟨(a :: l).dropLast, (a :: l).getLast (by simp), (List.dropLast_concat_getLast (by simp)).symm⟩
theorem cons_ex {α : Type} (a : α) (l : List α) : ∃ n Q, l ++ [a] = n :: Q := by cases l with | nil => exact ⟨a, [], rfl⟩ | cons b r => exact ⟨b, r ++ [a], rfl⟩
theorem Rc.nd {w : World} {root : Nat} {L : List (Nat × Int)} (H : Rc w root L) {b : Nat} (hb : b ∈ root :: L.map (·.1)) : ∃ h, Nd w b h := by
  rcases List.mem_cons.1 hb with rfl | hb
  · exact ⟨0, H.nd0⟩
  · obtain ⟨q, hq, rfl⟩ := List.mem_map.1 hb
    exact ⟨q.2, H.nds q hq⟩
theorem Rc.below {w w1 : World} {root : Nat} {L : List (Nat × Int)} (H : Rc w root L) (hb : Below w.heap.size w w1) : Rc w1 root L := by
  refine ⟨H.nd0.below hb, fun q hq => (H.nds q hq).below hb, Ch.congr _ (fun a ha => ?_) (fun b hb2 => ?_) H.ch, H.nod⟩
  · have hm : a ∈ root :: L.map (·.1) := by rw [← List.cons_append, List.dropLast_concat] at ha; exact ha
    obtain ⟨h, hn⟩ := H.nd hm
    exact hb.cell (p := ⟨a, 2, none⟩) hn.lt
  · have hm : b ∈ root :: L.map (·.1) := by
      simp only [List.tail_cons, List.mem_append, List.mem_singleton] at hb2
      rcases hb2 with h | h
      · exact List.mem_cons_of_mem _ h
      · rw [h]; exact List.mem_cons_self ..
    obtain ⟨h, hn⟩ := H.nd hm
    exact hb.cell (p := ⟨b, 1, none⟩) hn.lt
theorem Rc.grown {w w1 : World} {root : Nat} {L : List (Nat × Int)} {row : Nat} (H : Rc w root L) (hg : w.grownBy w1 (some row)) (hne : row ∉ root :: L.map (·.1)) : Rc w1 root L := by
  have cell : ∀ b i, b ∈ root :: L.map (·.1) → w1.cell? ⟨b, i, none⟩ = w.cell? ⟨b, i, none⟩ := fun b i hb => by
    obtain ⟨h, hn⟩ := H.nd hb
    have := hg.block b hn.lt (fun e => hne (by rw [← Option.some.inj e]; exact hb))
    simp only [World.cell?, this]
  refine ⟨H.nd0.grown hg (fun e => hne (by rw [← Option.some.inj e]; exact List.mem_cons_self ..)), fun q hq => (H.nds q hq).grown hg (fun e => hne (by rw [← Option.some.inj e]; exact List.mem_cons_of_mem _ (List.mem_map.2 ⟨q, hq, rfl⟩))), Ch.congr _ (fun a ha => ?_) (fun b hb2 => ?_) H.ch, H.nod⟩
  · exact cell a 2 (by rw [← List.cons_append, List.dropLast_concat] at ha; exact ha)
  · refine cell b 1 ?_
    simp only [List.tail_cons, List.mem_append, List.mem_singleton] at hb2
    rcases hb2 with h | h
    · exact List.mem_cons_of_mem _ h
    · rw [h]; exact List.mem_cons_self ..
theorem Rc.front {w : World} {root : Nat} {L : List (Nat × Int)} (H : Rc w root L) (x : Nat) (h : Int) (hx : Nd w x h) (hxn : x ∉ root :: L.map (·.1)) :
    ∃ n, n ∈ root :: L.map (·.1) ∧ w.cell? ⟨root, 2, none⟩ = some (.pointer (some ⟨n, 0, none⟩)) ∧
      Rc ((((w.setCell ⟨x, 1, none⟩ (.pointer (some ⟨root, 0, none⟩))).setCell ⟨x, 2, none⟩ (.pointer (some ⟨n, 0, none⟩))).setCell ⟨n, 1, none⟩ (.pointer (some ⟨x, 0, none⟩))).setCell ⟨root, 2, none⟩ (.pointer (some ⟨x, 0, none⟩))) root ((x, h) :: L) := by
  obtain ⟨n, Q, hq⟩ := cons_ex root (L.map (·.1))
  have hch := H.ch
  rw [hq] at hch
  have hnod := List.nodup_cons.1 H.nod
  have hn : n ∈ root :: L.map (·.1) := by
    have : n ∈ L.map (·.1) ++ [root] := by rw [hq]; exact List.mem_cons_self ..
    simp only [List.mem_append, List.mem_singleton] at this
    rcases this with h | h
    · exact List.mem_cons_of_mem _ h
    · rw [h]; exact List.mem_cons_self ..
  have hdl : (n :: Q).dropLast = L.map (·.1) := by rw [← hq, List.dropLast_concat]
  have hnd2 : (n :: Q).Nodup := by
    rw [← hq, List.nodup_append]
    exact ⟨hnod.2, by simp, fun a ha b hb e => hnod.1 (by rw [List.mem_singleton] at hb; rw [← hb, ← e]; exact ha)⟩
  have hxq : x ∉ n :: Q := by
    rw [← hq]
    intro e
    simp only [List.mem_append, List.mem_singleton] at e
    rcases e with e | e
    · exact hxn (List.mem_cons_of_mem _ e)
    · exact hxn (by rw [e]; exact List.mem_cons_self ..)
  obtain ⟨u1, e1⟩ := hx.c1
  obtain ⟨u2, e2⟩ := hx.c2
  have hc := Ch.front Q root x n hch (by rw [hdl]; exact hnod.1) (by rw [hdl]; exact fun e => hxn (List.mem_cons_of_mem _ e)) (fun e => hxq (List.mem_cons_of_mem _ e)) (List.nodup_cons.1 hnd2).1 (fun e => hxn (by rw [e]; exact List.mem_cons_self ..)) (fun e => hxq (by rw [e]; exact List.mem_cons_self ..)) (u3 := undef) (u4 := undef) e1 e2
  refine ⟨n, hn, hc.1, ?_, ?_, ?_, ?_⟩
  · exact (((H.nd0.set1 _ _).set2 _ _).set1 _ _).set2 _ _
  · intro q hq2
    rcases List.mem_cons.1 hq2 with rfl | hq2
    · exact (((hx.set1 _ _).set2 _ _).set1 _ _).set2 _ _
    · exact ((((H.nds q hq2).set1 _ _).set2 _ _).set1 _ _).set2 _ _
  · rw [List.map_cons, List.cons_append, hq]; exact hc.2
  · rw [List.map_cons]
    refine List.nodup_cons.2 ⟨?_, List.nodup_cons.2 ⟨fun e => hxn (List.mem_cons_of_mem _ e), hnod.2⟩⟩
    intro e
    rcases List.mem_cons.1 e with e | e
    · exact hxn (by have e2 : root = x := e; rw [← e2]; exact List.mem_cons_self ..)
    · exact hnod.1 e
theorem Rc.out {w : World} {root : Nat} {A B : List (Nat × Int)} {x : Nat} {h : Int} (H : Rc w root (A ++ (x, h) :: B)) :
    ∃ p n, p ∈ root :: (A ++ (x, h) :: B).map (·.1) ∧ n ∈ root :: (A ++ (x, h) :: B).map (·.1) ∧ w.cell? ⟨x, 1, none⟩ = some (.pointer (some ⟨p, 0, none⟩)) ∧ w.cell? ⟨x, 2, none⟩ = some (.pointer (some ⟨n, 0, none⟩)) ∧
      Rc ((w.setCell ⟨p, 2, none⟩ (.pointer (some ⟨n, 0, none⟩))).setCell ⟨n, 1, none⟩ (.pointer (some ⟨p, 0, none⟩))) root (A ++ B) ∧ Nd ((w.setCell ⟨p, 2, none⟩ (.pointer (some ⟨n, 0, none⟩))).setCell ⟨n, 1, none⟩ (.pointer (some ⟨p, 0, none⟩))) x h ∧ x ∉ root :: (A ++ B).map (·.1) := by
  obtain ⟨P, p, hP⟩ := snoc_ex root (A.map (·.1))
  obtain ⟨n, Q, hQ⟩ := cons_ex root (B.map (·.1))
  have hnod := H.nod
  rw [List.map_append, List.map_cons, ← List.cons_append] at hnod
  have hn1 := List.nodup_append.1 hnod
  have hxB := List.nodup_cons.1 hn1.2.1
  have hch := H.ch
  rw [List.map_append, List.map_cons, List.append_assoc, List.cons_append, hQ, ← List.cons_append, hP] at hch
  have hrA : root ∉ A.map (·.1) := (List.nodup_cons.1 hn1.1).1
  have hrB : root ∉ B.map (·.1) := fun e => hn1.2.2 root (List.mem_cons_self ..) root (List.mem_cons_of_mem _ e) rfl
  have hPn : (P ++ [p]).Nodup := by rw [← hP]; exact hn1.1
  have hpP : p ∉ P := fun e => (List.nodup_append.1 hPn).2.2 p e p (by simp) rfl
  have hpm : p ∈ root :: A.map (·.1) := by rw [hP]; simp
  have hdl : (n :: Q).dropLast = B.map (·.1) := by rw [← hQ, List.dropLast_concat]
  have hpB : p ∉ B.map (·.1) := fun e => hn1.2.2 p hpm p (List.mem_cons_of_mem _ e) rfl
  have htl : (P ++ [p]).tail = A.map (·.1) := by rw [← hP]; rfl
  have hnm : n = root ∨ n ∈ B.map (·.1) := by
    have : n ∈ B.map (·.1) ++ [root] := by rw [hQ]; exact List.mem_cons_self ..
    simp only [List.mem_append, List.mem_singleton] at this
    exact this.symm
  have hnA : n ∉ A.map (·.1) := fun e => by
    rcases hnm with h | h
    · rw [h] at e; exact hrA e
    · exact hn1.2.2 n (List.mem_cons_of_mem _ e) n (List.mem_cons_of_mem _ h) rfl
  have hQn : (n :: Q).Nodup := by
    rw [← hQ, List.nodup_append]
    exact ⟨hxB.2, by simp, fun a ha b hb e => hrB (by rw [List.mem_singleton] at hb; rw [← hb, ← e]; exact ha)⟩
  have hpL : p ∈ root :: (A ++ (x, h) :: B).map (·.1) := by
    rw [List.map_append, ← List.cons_append]; exact List.mem_append_left _ hpm
  have hnL : n ∈ root :: (A ++ (x, h) :: B).map (·.1) := by
    rcases hnm with h | h
    · rw [h]; exact List.mem_cons_self ..
    · rw [List.map_append, ← List.cons_append]; exact List.mem_append_right _ (List.mem_cons_of_mem _ h)
  obtain ⟨hh1, hd1⟩ := H.nd hpL
  obtain ⟨hh2, hd2⟩ := H.nd hnL
  obtain ⟨u2, e2⟩ := hd1.c2
  obtain ⟨u1, e1⟩ := hd2.c1
  obtain ⟨r1, r2, r3⟩ := Ch.out P Q p x n hch hpP (by rw [hdl]; exact hpB) (by rw [htl]; exact hnA) (List.nodup_cons.1 hQn).1 e1 e2
  refine ⟨p, n, hpL, hnL, r1, r2, ⟨(H.nd0.set2 _ _).set1 _ _, fun q hq => ((H.nds q ?_).set2 _ _).set1 _ _, ?_, ?_⟩, ((H.nds (x, h) (by simp)).set2 _ _).set1 _ _, ?_⟩
  · rcases List.mem_append.1 hq with h | h
    · exact List.mem_append_left _ h
    · exact List.mem_append_right _ (List.mem_cons_of_mem _ h)
  · rw [List.map_append, List.append_assoc, hQ, ← List.cons_append, hP]; exact r3
  · rw [List.map_append, ← List.cons_append, List.nodup_append]
    exact ⟨hn1.1, hxB.2, fun a ha b hb e => hn1.2.2 a ha b (List.mem_cons_of_mem _ hb) e⟩
  · intro e
    rw [List.map_append, ← List.cons_append] at e
    rcases List.mem_append.1 e with e | e
    · exact hn1.2.2 x e x (List.mem_cons_self ..) rfl
    · exact hxB.1 e
/-- The last one. -/
theorem Rc.last {w : World} {root : Nat} {A : List (Nat × Int)} {x : Nat} {h : Int} (H : Rc w root (A ++ [(x, h)])) : w.cell? ⟨root, 1, none⟩ = some (.pointer (some ⟨x, 0, none⟩)) := by
  have hch := H.ch
  rw [List.map_append, List.map_cons, List.map_nil, List.append_assoc, List.singleton_append, ← List.cons_append, Ch.append] at hch
  exact hch.2.2.1
/-- What the map of a ring holds. -/
def atF (L : List (Nat × Int)) (x : Int) : Option Int := (L.find? (fun q => q.2 == x)).map (fun q => (q.1 : Int))
/-- A cache: its ring, and its map. -/
structure QSt (w : World) (rb root mb bnd : Nat) (L : List (Nat × Int)) (wr : World) : Prop where
  rg : Rg wr rb root mb
  rc : Rc wr root L
  map : MapV ptrElem wr mb bnd (atF L) L.length
  keys : (L.map (·.2)).Nodup
  wf : ∀ q ∈ L, (Lit.int .u64 q.2).wf = true
  below : Below w.heap.size w wr
  rb0 : w.heap.size ≤ rb
  root0 : w.heap.size ≤ root
  mb0 : w.heap.size ≤ mb
  bl0 : ∀ q ∈ L, w.heap.size ≤ q.1
theorem QSt.rbne {w wr : World} {rb root mb bnd : Nat} {L : List (Nat × Int)} (H : QSt w rb root mb bnd L wr) : rb ∉ root :: L.map (·.1) := fun e => by
  obtain ⟨h, p, n, hn⟩ := H.rc.nd e
  exact blk_ne H.rg hn (by decide) rfl
theorem QSt.mbne {w wr : World} {rb root mb bnd : Nat} {L : List (Nat × Int)} (H : QSt w rb root mb bnd L wr) : mb ∉ root :: L.map (·.1) := fun e => by
  obtain ⟨h, p, n, hn⟩ := H.rc.nd e
  exact H.map.ne_cells hn rfl
theorem QSt.mbrb {w wr : World} {rb root mb bnd : Nat} {L : List (Nat × Int)} (H : QSt w rb root mb bnd L wr) : mb ≠ rb := H.map.ne_cells H.rg
theorem atF_cons (L : List (Nat × Int)) (x : Nat) (h y : Int) : atF ((x, h) :: L) y = if y = h then some (x : Int) else atF L y := by
  unfold atF
  rw [List.find?_cons]
  by_cases c : y = h
  · subst c; simp
  · rw [if_neg c, show ((x, h).2 == y) = false by simpa using (fun e => c e.symm)]
theorem atF_none {L : List (Nat × Int)} {h : Int} (hn : h ∉ L.map (·.2)) : atF L h = none := by
  unfold atF
  rw [List.find?_eq_none.2 (fun q hq => ?_)]; rfl
  simp only [beq_iff_eq]
  exact fun e => hn (List.mem_map.2 ⟨q, hq, e⟩)
theorem atF_some {A B : List (Nat × Int)} {x : Nat} {h : Int} (hn : ((A ++ (x, h) :: B).map (·.2)).Nodup) : atF (A ++ (x, h) :: B) h = some (x : Int) := by
  induction A with
  | nil => rw [List.nil_append, atF_cons, if_pos rfl]
  | cons q A ih =>
    obtain ⟨b, g⟩ := q
    rw [List.cons_append, List.map_cons] at hn
    have h1 := List.nodup_cons.1 hn
    rw [List.cons_append, atF_cons, if_neg, ih h1.2]
    intro e
    exact h1.1 (by subst e; simp)
theorem atF_cut (A B : List (Nat × Int)) (x : Nat) (h y : Int) (hn : ((A ++ (x, h) :: B).map (·.2)).Nodup) : (if y = h then none else atF (A ++ (x, h) :: B) y) = atF (A ++ B) y := by
  have hm : h ∉ (A ++ B).map (·.2) := by
    rw [List.map_append, List.map_cons] at hn
    have h1 := List.nodup_append.1 hn
    rw [List.map_append]
    intro e
    rcases List.mem_append.1 e with e | e
    · exact h1.2.2 h e h (List.mem_cons_self ..) rfl
    · exact (List.nodup_cons.1 h1.2.1).1 e
  by_cases c : y = h
  · subst c; rw [if_pos rfl, atF_none hm]
  · rw [if_neg c]
    unfold atF
    rw [List.find?_append, List.find?_append, List.find?_cons]
    rw [show ((x, h).2 == y) = false by simpa using (fun e => c e.symm)]
/-- A new link is in front, and in the map. -/
theorem QSt.front {w wr : World} {rb root mb bnd : Nat} {L : List (Nat × Int)} (H : QSt w rb root mb bnd L wr) (h : Int) (hw : (Lit.int .u64 h).wf = true) (hn : h ∉ L.map (·.2)) (x : Nat) (hx : wr.heap.size = x) {w1 w2 w3 : World} (h1 : wr.alloc (.cells #[.int .u64 h, .pointer none, .pointer none] 64) = w1) (n : Nat) (k : Nat) (hnm : n ∈ root :: L.map (·.1))
    (h2 : w2 = ((((w1.setCell ⟨x, 1, none⟩ (.pointer (some ⟨root, 0, none⟩))).setCell ⟨x, 2, none⟩ (.pointer (some ⟨n, 0, none⟩))).setCell ⟨n, 1, none⟩ (.pointer (some ⟨x, 0, none⟩))).setCell ⟨root, 2, none⟩ (.pointer (some ⟨x, 0, none⟩))).drewN k)
    (hrc : Rc ((((w1.setCell ⟨x, 1, none⟩ (.pointer (some ⟨root, 0, none⟩))).setCell ⟨x, 2, none⟩ (.pointer (some ⟨n, 0, none⟩))).setCell ⟨n, 1, none⟩ (.pointer (some ⟨x, 0, none⟩))).setCell ⟨root, 2, none⟩ (.pointer (some ⟨x, 0, none⟩))) root ((x, h) :: L))
    (hm3 : MapV ptrElem w3 mb (bnd + 1) (fun y => if y = h then some (x : Int) else atF L y) (if (atF L h).isSome then L.length else L.length + 1)) (hg : w2.grownBy w3 (some mb)) : QSt w rb root mb (bnd + 1) ((x, h) :: L) w3 := by
  subst hx
  have hlt : ∀ b ∈ root :: L.map (·.1), b < wr.heap.size := fun b hb => by obtain ⟨h, hn⟩ := H.rc.nd hb; exact hn.lt
  have hrl := blk_lt H.rg
  have hsz : wr.heap.size ≠ rb := by omega
  have nrb : n ≠ rb := fun e => H.rbne (by rw [← e]; exact hnm)
  have rrb : root ≠ rb := fun e => H.rbne (by rw [← e]; exact List.mem_cons_self ..)
  have n0 : w.heap.size ≤ n := by
    rcases List.mem_cons.1 hnm with h | h
    · rw [h]; exact H.root0
    · obtain ⟨q, hq, rfl⟩ := List.mem_map.1 h; exact H.bl0 q hq
  have hb1 : Below w.heap.size w w1 := by rw [← h1]; exact below_alloc H.below _
  have hb2 : Below w.heap.size w w2 := by
    rw [h2]
    exact pw_below_drewN ((((hb1.setCell H.below.size _).setCell H.below.size _).setCell n0 _).setCell H.root0 _) k
  have hrg1 : Rg w1 rb root mb := by rw [← h1]; exact blk_alloc H.rg _
  have hrg2 : Rg w2 rb root mb := by
    rw [h2]
    exact blk_drewN (blk_far (blk_far (blk_far (blk_far hrg1 (p := ⟨wr.heap.size, 1, none⟩) (Ne.symm hsz) _) (p := ⟨wr.heap.size, 2, none⟩) (Ne.symm hsz) _) (p := ⟨n, 1, none⟩) (Ne.symm nrb) _) (p := ⟨root, 2, none⟩) (Ne.symm rrb) _) k
  have hrc2 : Rc w2 root ((wr.heap.size, h) :: L) := by rw [h2]; exact hrc.below (pw_below_drewN (Below.refl _ _) k)
  have hmm : mb ∉ root :: ((wr.heap.size, h) :: L).map (·.1) := fun e => by
    rw [List.map_cons] at e
    have := H.map.lt
    rcases List.mem_cons.1 e with e | e
    · exact H.mbne (by rw [e]; exact List.mem_cons_self ..)
    · rcases List.mem_cons.1 e with e | e
      · have e2 : mb = wr.heap.size := e
        omega
      · exact H.mbne (List.mem_cons_of_mem _ e)
  refine ⟨blk_grown hrg2 hg (fun e => H.mbrb (Option.some.inj e).symm), hrc2.grown hg hmm, ?_, ?_, ?_, hb2.grown hg hb2.size (fun k hk => by cases hk; exact H.mb0), H.rb0, H.root0, H.mb0, ?_⟩
  · rw [atF_none hn] at hm3
    exact hm3.congr rfl (fun y _ => atF_cons L _ h y)
  · rw [List.map_cons]; exact List.nodup_cons.2 ⟨hn, H.keys⟩
  · intro q hq
    rcases List.mem_cons.1 hq with rfl | hq
    · exact hw
    · exact H.wf q hq
  · intro q hq
    rcases List.mem_cons.1 hq with rfl | hq
    · exact H.below.size
    · exact H.bl0 q hq
/-- A link is out of the ring; the map is as it was. -/
theorem QSt.outRing {w wr : World} {rb root mb bnd : Nat} {A B : List (Nat × Int)} {x : Nat} {h : Int} (H : QSt w rb root mb bnd (A ++ (x, h) :: B) wr) {w2 : World} {p n k : Nat} (hp : p ∈ root :: (A ++ (x, h) :: B).map (·.1)) (hn : n ∈ root :: (A ++ (x, h) :: B).map (·.1))
    (h2 : w2 = ((wr.setCell ⟨p, 2, none⟩ (.pointer (some ⟨n, 0, none⟩))).setCell ⟨n, 1, none⟩ (.pointer (some ⟨p, 0, none⟩))).drewN k)
    (hrc : Rc ((wr.setCell ⟨p, 2, none⟩ (.pointer (some ⟨n, 0, none⟩))).setCell ⟨n, 1, none⟩ (.pointer (some ⟨p, 0, none⟩))) root (A ++ B)) :
    Rg w2 rb root mb ∧ Rc w2 root (A ++ B) ∧ MapV ptrElem w2 mb bnd (atF (A ++ (x, h) :: B)) (A ++ (x, h) :: B).length ∧ Below w.heap.size w w2 := by
  have base : ∀ b ∈ root :: (A ++ (x, h) :: B).map (·.1), w.heap.size ≤ b := fun b hb => by
    rcases List.mem_cons.1 hb with h | h
    · rw [h]; exact H.root0
    · obtain ⟨q, hq, rfl⟩ := List.mem_map.1 h; exact H.bl0 q hq
  refine ⟨?_, ?_, ?_, ?_⟩
  · rw [h2]; exact blk_drewN (blk_far (blk_far H.rg (p := ⟨p, 2, none⟩) (fun e => H.rbne (by rw [e]; exact hp)) _) (p := ⟨n, 1, none⟩) (fun e => H.rbne (by rw [e]; exact hn)) _) k
  · rw [h2]; exact hrc.below (pw_below_drewN (Below.refl _ _) k)
  · rw [h2]; exact MapV.drewN (MapV.setCell (MapV.setCell H.map (p := ⟨p, 2, none⟩) (fun e => H.mbne (by rw [e]; exact hp)) _) (p := ⟨n, 1, none⟩) (fun e => H.mbne (by rw [e]; exact hn)) _) k
  · rw [h2]; exact pw_below_drewN ((H.below.setCell (base p hp) _).setCell (base n hn) _) k
/-- .. and out of the map. -/
theorem QSt.cut {w wr : World} {rb root mb bnd : Nat} {A B : List (Nat × Int)} {x : Nat} {h : Int} (H : QSt w rb root mb bnd (A ++ (x, h) :: B) wr) {w4 w5 : World} (rg : Rg w4 rb root mb) (rc : Rc w4 root (A ++ B)) (bl : Below w.heap.size w w4)
    (hm : MapV ptrElem w5 mb bnd (fun y => if y = h then none else atF (A ++ (x, h) :: B) y) ((A ++ (x, h) :: B).length - (if (atF (A ++ (x, h) :: B) h).isSome then 1 else 0))) (hg : w4.grownBy w5 (some mb)) : QSt w rb root mb bnd (A ++ B) w5 := by
  have hk := H.keys
  have sub : (A ++ B).Sublist (A ++ (x, h) :: B) := List.Sublist.append_left (List.sublist_cons_self _ _) A
  have hnb : mb ∉ root :: (A ++ B).map (·.1) := fun e => H.mbne (by
    rcases List.mem_cons.1 e with e | e
    · rw [e]; exact List.mem_cons_self ..
    · exact List.mem_cons_of_mem _ ((sub.map _).subset e))
  refine ⟨blk_grown rg hg (fun e => H.mbrb (Option.some.inj e).symm), rc.grown hg hnb, ?_, hk.sublist (sub.map _), fun q hq => H.wf q (sub.subset hq), bl.grown hg bl.size (fun k hk => by cases hk; exact H.mb0), H.rb0, H.root0, H.mb0, fun q hq => H.bl0 q (sub.subset hq)⟩
  rw [atF_some hk] at hm
  have e : (A ++ (x, h) :: B).length - (if (some (x : Int)).isSome then 1 else 0) = (A ++ B).length := by simp [List.length_append]
  rw [e] at hm
  exact hm.congr rfl (fun y _ => (atF_cut A B x h y hk).symm)
/-- A cache's step: by age, or by use. -/
def qst (again : Bool) (n : Nat) (c : List Int) (h : Int) : List Int × Bool := if h ∈ c then ((if again = true then h :: c.erase h else c), true) else ((h :: c).take n, false)
def qC (L : List Nat) (n : Nat) (again : Bool) : Nat → List Int
  | 0 => []
  | i + 1 => (qst again n (qC L n again i) ((L.getD i 0 : Nat) : Int)).1
def qH (L : List Nat) (n : Nat) (again : Bool) : Nat → Nat
  | 0 => 0
  | i + 1 => qH L n again i + (if (qst again n (qC L n again i) ((L.getD i 0 : Nat) : Int)).2 = true then 1 else 0)
theorem qH_le (L : List Nat) (n : Nat) (again : Bool) (i : Nat) : qH L n again i ≤ i := by
  induction i with
  | zero => exact Nat.le_refl _
  | succ i ih => simp only [qH]; split <;> omega
theorem QSt.start {w w1 w' : World} (hb : Below w.heap.size w w1) (h1 : Rg w' (w1.heap.size + 2) w1.heap.size (w1.heap.size + 1)) (h2 : Lk w' w1.heap.size 0 w1.heap.size w1.heap.size) (h3 : w'.heap[w1.heap.size + 1]? = some (.map #[] 0)) (h4 : Below w1.heap.size w1 w') : QSt w (w1.heap.size + 2) w1.heap.size (w1.heap.size + 1) 0 [] w' := by
  have := hb.size
  refine ⟨h1, ⟨⟨_, _, h2⟩, by simp, ⟨h2.c2, h2.c1, trivial⟩, by simp⟩, MapV.new h3, by simp, by simp, below_then hb hb.size h4, by omega, by omega, by omega, by simp⟩
theorem atF_perm (A B : List (Nat × Int)) (x : Nat) (h y : Int) (hn : ((A ++ (x, h) :: B).map (·.2)).Nodup) : atF ((x, h) :: (A ++ B)) y = atF (A ++ (x, h) :: B) y := by
  rw [atF_cons]
  by_cases c : y = h
  · subst c; rw [if_pos rfl, atF_some hn]
  · rw [if_neg c, ← atF_cut A B x h y hn, if_neg c]
/-- A link is put in front again. -/
theorem QSt.again {w wr : World} {rb root mb bnd : Nat} {A B : List (Nat × Int)} {x : Nat} {h : Int} (H : QSt w rb root mb bnd (A ++ (x, h) :: B) wr) {w4 w5 : World} {n k : Nat} (rg : Rg w4 rb root mb) (mv : MapV ptrElem w4 mb bnd (atF (A ++ (x, h) :: B)) (A ++ (x, h) :: B).length) (bl : Below w.heap.size w w4) (hnm : n ∈ root :: (A ++ B).map (·.1))
    (h5 : w5 = ((((w4.setCell ⟨x, 1, none⟩ (.pointer (some ⟨root, 0, none⟩))).setCell ⟨x, 2, none⟩ (.pointer (some ⟨n, 0, none⟩))).setCell ⟨n, 1, none⟩ (.pointer (some ⟨x, 0, none⟩))).setCell ⟨root, 2, none⟩ (.pointer (some ⟨x, 0, none⟩))).drewN k)
    (hrc : Rc ((((w4.setCell ⟨x, 1, none⟩ (.pointer (some ⟨root, 0, none⟩))).setCell ⟨x, 2, none⟩ (.pointer (some ⟨n, 0, none⟩))).setCell ⟨n, 1, none⟩ (.pointer (some ⟨x, 0, none⟩))).setCell ⟨root, 2, none⟩ (.pointer (some ⟨x, 0, none⟩))) root ((x, h) :: (A ++ B))) : QSt w rb root mb bnd ((x, h) :: (A ++ B)) w5 := by
  have hk := H.keys
  have perm : ((x, h) :: (A ++ B)).Perm (A ++ (x, h) :: B) := (List.perm_middle).symm
  have hxm : x ∈ root :: (A ++ (x, h) :: B).map (·.1) := List.mem_cons_of_mem _ (List.mem_map.2 ⟨(x, h), by simp, rfl⟩)
  have hnm2 : n ∈ root :: (A ++ (x, h) :: B).map (·.1) := by
    rcases List.mem_cons.1 hnm with e | e
    · rw [e]; exact List.mem_cons_self ..
    · exact List.mem_cons_of_mem _ (((List.Sublist.append_left (List.sublist_cons_self _ _) A).map _).subset e)
  have hrm : root ∈ root :: (A ++ (x, h) :: B).map (·.1) := List.mem_cons_self ..
  have base : ∀ b ∈ root :: (A ++ (x, h) :: B).map (·.1), w.heap.size ≤ b := fun b hb => by
    rcases List.mem_cons.1 hb with h | h
    · rw [h]; exact H.root0
    · obtain ⟨q, hq, rfl⟩ := List.mem_map.1 h; exact H.bl0 q hq
  have nrb : ∀ b ∈ root :: (A ++ (x, h) :: B).map (·.1), rb ≠ b := fun b hb e => H.rbne (by rw [e]; exact hb)
  have nmb : ∀ b ∈ root :: (A ++ (x, h) :: B).map (·.1), mb ≠ b := fun b hb e => H.mbne (by rw [e]; exact hb)
  refine ⟨?_, ?_, ?_, (perm.map _).nodup_iff.2 hk, fun q hq => H.wf q (perm.subset hq), ?_, H.rb0, H.root0, H.mb0, fun q hq => H.bl0 q (perm.subset hq)⟩
  · rw [h5]; exact blk_drewN (blk_far (blk_far (blk_far (blk_far rg (p := ⟨x, 1, none⟩) (nrb x hxm) _) (p := ⟨x, 2, none⟩) (nrb x hxm) _) (p := ⟨n, 1, none⟩) (nrb n hnm2) _) (p := ⟨root, 2, none⟩) (nrb root hrm) _) k
  · rw [h5]; exact hrc.below (pw_below_drewN (Below.refl _ _) k)
  · rw [h5, show ((x, h) :: (A ++ B)).length = (A ++ (x, h) :: B).length from perm.length_eq]
    exact MapV.congr (MapV.drewN (MapV.setCell (MapV.setCell (MapV.setCell (MapV.setCell mv (p := ⟨x, 1, none⟩) (nmb x hxm) _) (p := ⟨x, 2, none⟩) (nmb x hxm) _) (p := ⟨n, 1, none⟩) (nmb n hnm2) _) (p := ⟨root, 2, none⟩) (nmb root hrm) _) k) rfl (fun y _ => atF_perm A B x h y hk)
  · rw [h5]; exact pw_below_drewN ((((bl.setCell (base x hxm) _).setCell (base x hxm) _).setCell (base n hnm2) _).setCell (base root hrm) _) k
theorem keys_erase (A B : List (Nat × Int)) (x : Nat) (h : Int) (hn : ((A ++ (x, h) :: B).map (·.2)).Nodup) : ((A ++ (x, h) :: B).map (·.2)).erase h = (A ++ B).map (·.2) := by
  rw [List.map_append, List.map_cons] at hn ⊢
  have h1 := List.nodup_append.1 hn
  rw [List.erase_append_right _ (fun e => h1.2.2 h e h (List.mem_cons_self ..) rfl), List.erase_cons_head, List.map_append]
set_option maxHeartbeats 4000000 in
set_option maxRecDepth 100000 in
theorem newRing_walk (w : World) :
    Calls Try.prog 37 #[] w fun e w' => e = .returned (.pointer (some ⟨w.heap.size + 2, 0, none⟩)) ∧ Rg w' (w.heap.size + 2) w.heap.size (w.heap.size + 1) ∧ Lk w' w.heap.size 0 w.heap.size w.heap.size ∧ w'.heap[w.heap.size + 1]? = some (.map #[] 0) ∧ Below w.heap.size w w' := by
  have hmm := @run_makeMap Try.prog
  go_enter Try.func37, Try.ntmps37
  go_wp2
  go_region
  go_wp2
  go_ret
  refine ⟨rfl, ?_, ?_, ?_, ?_⟩
  · have h := blk_new ((w.alloc (Obj.cells #[Value.int IntKind.u64 0, Value.pointer (some ⟨w.heap.size, 0, none⟩), Value.pointer (some ⟨w.heap.size, 0, none⟩)] 64)).alloc (Obj.map #[] 0)) (Obj.cells #[Value.pointer (some ⟨w.heap.size, 0, none⟩), Value.map (some (w.heap.size + 1))] 58)
    simp only [World.size_alloc] at h
    exact h
  · exact blk_alloc (blk_alloc (blk_new w _) _) _
  · have h := blk_new (w.alloc (Obj.cells #[Value.int IntKind.u64 0, Value.pointer (some ⟨w.heap.size, 0, none⟩), Value.pointer (some ⟨w.heap.size, 0, none⟩)] 64)) (Obj.map #[] 0)
    simp only [World.size_alloc] at h
    exact blk_alloc h _
  · exact below_drew (below_alloc (below_alloc (below_alloc (Below.refl _ _) _) _) _)
end Go.Proofs.Yteaidghanfjigaa.QCurveCurves
