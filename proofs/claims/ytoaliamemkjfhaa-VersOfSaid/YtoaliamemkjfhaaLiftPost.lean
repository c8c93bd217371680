/-
  Behind a range over a function: results out of cells, and the mark's end.
-/
import Derived.Test.YtoaliamemkjfhaaLift
import Derived.Test.YtoaliamemkjfhaaWWords
import Derived.Shelf.Abstract
namespace Go.Proofs.YtoaliamemkjfhaaLift
open Go Go.RowKit
set_option linter.unusedVariables false
section
variable {P : Program} {tmps : Array Value} {w : World}
theorem load_one {g : Nat} {ty t : TypeId} {v : Value} {fr : Nat × Nat} {d : TypeDesc} (hg : w.heap[g]? = some (.cells #[v] t fr)) (hd : (match d with | .struct _ | .array _ _ => true | _ => false) = false) (hu : P.underlying ty = some d) :
    (loadVar ty ⟨g, 0, none⟩).run P w = .ok v w := by
  have hc : w.cell? ⟨g, 0, none⟩ = some v := by simp [World.cell?, hg]
  have h := Go.Proofs.run_isAgg_plain (P := P) hu (by cases d <;> simp_all) w
  simp only [loadVar, Sem.run_bind, h, Result.andThen_ok, Bool.false_eq_true, if_false]
  simp [go_sem, hc]
inductive Res (P : Program) (tmps : Array Value) (w : World) : List ResultVar → List Value → Prop where
  | nil : Res P tmps w [] []
  | tmp {u : Tmp} {rs : List ResultVar} {vs : List Value} (h : Res P tmps w rs vs) : Res P tmps w (.tmp u :: rs) (tmps.getD u undef :: vs)
  | cell {p : Tmp} {ty : TypeId} {rs : List ResultVar} {vs : List Value} (g : Nat) (v : Value)
      (hp : tmps.getD p undef = .pointer (some ⟨g, 0, none⟩)) (hr : (loadVar ty ⟨g, 0, none⟩).run P w = .ok v w)
      (h : Res P tmps w rs vs) : Res P tmps w (.cell p ty :: rs) (v :: vs)
theorem res_run {rs : List ResultVar} {vs : List Value} (hv : Res P tmps w rs vs) (f : ResultVar → Sem Value) (hf : ∀ u, f (.tmp u) = pure (tmps.getD u undef)) (hc : ∀ a t, f (.cell a t) = (do loadVar t (← asAddr (tmps.getD a undef)))) :
    (rs.mapM f).run P w = .ok vs w := by
  induction hv with
  | nil => simp
  | tmp h ih => simp [List.mapM_cons, hf, ih]
  | cell g v hp hr h ih =>
    rw [List.mapM_cons, hc, hp]
    simp [asAddr, hr, ih]
theorem results_res {fn : Func} {rs : List ResultVar} {vs : List Value} (h : fn.results = rs.toArray) (hl : vs.length ≠ 1) (hv : Res P tmps w rs vs) : (results fn tmps).run P w = .ok (.tuple vs.toArray) w := by
  unfold results
  rw [h, List.mapM_toArray]
  simp only [Sem.run_bind, Sem.run_map]
  rw [res_run hv]
  · simp [hl]
  · intro u
    rfl
  · intro a t
    rfl
end
section
variable {F : Fence} {n : Nat} {P : Program} {fn : Func} {R : Ending → World → Prop} {a : Act} {w : World} {v : Value}
theorem postM_ret (hr : (results fn a.tmps).run P w = .ok v w) (hd : a.defers = []) (hR : R (.returned v) w) : bodyPostM F n P fn R .ret a w := by
  show LeavesInM F n P fn a.tmps R a.defers .returning w
  rw [hd]
  exact ⟨v, hr, hR⟩
theorem postM_mark {D : Nat} (hd : a.defers = [{ target := .collected D, args := #[] }]) (hD : w.heap[D]? = some (.deferred (some [])))
    (hr : (results fn a.tmps).run P (w.putObj D (.deferred none)) = .ok v (w.putObj D (.deferred none))) (hR : R (.returned v) (w.putObj D (.deferred none))) : bodyPostM F n P fn R .ret a w := by
  show LeavesInM F n P fn a.tmps R a.defers .returning w
  rw [hd]
  exact ⟨by simp, .inl ⟨_, _, rfl, run_takeDeferred hD, v, hr, hR⟩⟩
end
/-- An own row, behind what leaves all cells. -/
theorem calm_row {B : Nat} {A A' : World} (hc : Calm B A A') {α : Type} {d : Go.Proofs.YtoaliamemkjfhaaW.PrintWords.Kd α} {e base : Nat} {ok : Nat → Prop} {v : Value} {xs : List α} (h : d.R e A base ok v xs) : d.R e A' base ok v xs :=
  Go.Proofs.YtoaliamemkjfhaaW.PrintWords.Kd.R_mono (Go.Proofs.YtoaliamemkjfhaaW.PrintWords.Kd.R_move (Go.Proofs.YtoaliamemkjfhaaW.PrintWords.Kd.R_bound h) (fun k hk => by obtain ⟨_, _, _, q, _, cells, hq⟩ := hk; exact (hc.block k _ hq (.inl rfl)).trans hq.symm)) (fun k hk => hk.1)
theorem params1 (p : Tmp) (x : Value) (ts : Array Value) : (((#[p] : Array Tmp).zip #[x]).foldl (fun t (p, v) => t.setIfInBounds p v) ts) = ts.setIfInBounds p x := by simp [Array.zip]
/-- Three blocks, one behind the other. -/
theorem alloc3 (w : World) (o p q : Obj) : (((w.alloc o).alloc p).alloc q).heap[w.heap.size]? = some o ∧ (((w.alloc o).alloc p).alloc q).heap[w.heap.size + 1]? = some p ∧ (((w.alloc o).alloc p).alloc q).heap[w.heap.size + 1 + 1]? = some q ∧ Below w.heap.size w (((w.alloc o).alloc p).alloc q) := by
  have s1 : (w.alloc o).heap.size = w.heap.size + 1 := by simp
  have s2 : ((w.alloc o).alloc p).heap.size = w.heap.size + 1 + 1 := by simp
  refine ⟨?_, ?_, ?_, ?_⟩
  · rw [Below.heap_alloc _ _ _ (by omega), Below.heap_alloc _ _ _ (by omega)]; exact World.alloc_heap_new _ _
  · rw [Below.heap_alloc _ _ _ (by omega), ← s1]; exact World.alloc_heap_new _ _
  · rw [← s2]; exact World.alloc_heap_new _ _
  · exact (((Below.refl _ w).alloc (Nat.le_refl _) _).alloc (by omega) _).alloc (by omega) _
/-- A slice's cell, and a fault's three, written: how all lies then. -/
theorem stored13 {W : World} {b4 b5 : Nat} {t4 t5 : TypeId} {v0 p q s : Value} (hne : b4 ≠ b5) (g4 : W.heap[b4]? = some (.cells #[v0] t4 (0, 0))) (g5 : W.heap[b5]? = some (.cells #[p, q, s] t5 (0, 0))) (v x y z : Value) :
    ((((W.setCell ⟨b4, 0, none⟩ v).setCell ⟨b5, 0, none⟩ x).setCell ⟨b5, 1, none⟩ y).setCell ⟨b5, 2, none⟩ z).heap[b4]? = some (.cells #[v] t4 (0, 0)) ∧
    ((((W.setCell ⟨b4, 0, none⟩ v).setCell ⟨b5, 0, none⟩ x).setCell ⟨b5, 1, none⟩ y).setCell ⟨b5, 2, none⟩ z).heap[b5]? = some (.cells #[x, y, z] t5 (0, 0)) ∧
    (∀ k, k ≠ b4 → k ≠ b5 → ((((W.setCell ⟨b4, 0, none⟩ v).setCell ⟨b5, 0, none⟩ x).setCell ⟨b5, 1, none⟩ y).setCell ⟨b5, 2, none⟩ z).heap[k]? = W.heap[k]?) ∧
    (∀ n W0, Below n W0 W → n ≤ b4 → n ≤ b5 → Below n W0 ((((W.setCell ⟨b4, 0, none⟩ v).setCell ⟨b5, 0, none⟩ x).setCell ⟨b5, 1, none⟩ y).setCell ⟨b5, 2, none⟩ z)) ∧
    W.heap.size ≤ ((((W.setCell ⟨b4, 0, none⟩ v).setCell ⟨b5, 0, none⟩ x).setCell ⟨b5, 1, none⟩ y).setCell ⟨b5, 2, none⟩ z).heap.size := by
  have far : ∀ (A : World) (b i : Nat) (u : Value) (k : Nat), k ≠ b → (A.setCell ⟨b, i, none⟩ u).heap[k]? = A.heap[k]? := fun A b i u k hk => Below.heap_setCell A ⟨b, i, none⟩ u k hk
  have blk := @Go.Proofs.YtoaliamemkjfhaaW.PrintWords.blk_set
  have l5 := blk (blk (blk ((far W b4 0 v b5 (Ne.symm hne)).trans g5) 0 x) 1 y) 2 z
  refine ⟨?_, l5, ?_, ?_, ?_⟩
  · rw [far _ _ _ _ _ hne, far _ _ _ _ _ hne, far _ _ _ _ _ hne]
    exact blk g4 0 v
  · intro k h4 h5
    rw [far _ _ _ _ _ h5, far _ _ _ _ _ h5, far _ _ _ _ _ h5, far _ _ _ _ _ h4]
  · intro n W0 hb h4 h5
    have st : ∀ (A : World) (b i : Nat) (u : Value), n ≤ b → Below n W0 A → Below n W0 (A.setCell ⟨b, i, none⟩ u) := fun A b i u hn hA => hA.setCell hn _
    exact st _ _ _ _ h5 (st _ _ _ _ h5 (st _ _ _ _ h5 (st _ _ _ _ h4 hb)))
  · have sz : ∀ (A : World) (b i : Nat) (u : Value), A.heap.size ≤ (A.setCell ⟨b, i, none⟩ u).heap.size := fun A b i u => (KeepsOthers.setCell A ⟨b, i, none⟩ u).size
    exact Nat.le_trans (sz _ _ _ _) (Nat.le_trans (sz _ _ _ _) (Nat.le_trans (sz _ _ _ _) (sz _ _ _ _)))
end Go.Proofs.YtoaliamemkjfhaaLift

