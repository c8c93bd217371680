/-
  Parameters that are slices of structs of whole numbers: opened.
-/
import Derived.Test.YtpdecpiiidoleaaWWords
import Derived.Deep.Slices
import Derived.Lib.SmallJoins
import Derived.ChangeSame
namespace Go.Proofs.YtpdecpiiidoleaaLift
open Go Go.RowKit Go.ChangeShapes Go.WideShapes Go.Deep Go.Joins Go.Proofs.YtpdecpiiidoleaaW.PrintWords
section
variable {H : Type} {enc : TypeId × Value → H} {P : Program} {w : World}
theorem open_structs4 {t e : TypeId} {f0 f1 f2 f3 : Field} {k0 k1 k2 k3 : IntKind} {α : Type} (d : Kd α) (mk : Int → Int → Int → Int → α)
    (hK : ∀ x0 x1 x2 x3, d.K w (mk x0 x1 x2 x3) [.int k0 x0, .int k1 x1, .int k2 x2, .int k3 x3]) (hz : d.sz = 4)
    (ht : P.underlying t = some (.slice e)) (he : P.underlying e = some (.struct #[f0, f1, f2, f3])) (ce : P.cellsOf e = 4)
    (o0 : f0.offset = 0 ∧ f1.offset = 1 ∧ f2.offset = 2 ∧ f3.offset = 3) (c0 : P.cellsOf f0.type = 1 ∧ P.cellsOf f1.type = 1 ∧ P.cellsOf f2.type = 1 ∧ P.cellsOf f3.type = 1)
    (u0 : P.underlying f0.type = some (.int k0)) (u1 : P.underlying f1.type = some (.int k1)) (u2 : P.underlying f2.type = some (.int k2)) (u3 : P.underlying f3.type = some (.int k3))
    {A : Option Addr} {len cap : Nat} {dx : DataW H} {ps : List MemPlace} (h : DataW.Trod enc P w 0 (fun _ => true) true t (.slice A len cap) dx ps) :
    ∃ l : List α, l.length = len ∧ d.C w A l.length l ∧ l.length ≤ cap ∧ l.length ≤ maxLen ∧ ∀ x ∈ l, ∃ x0 x1 x2 x3, x = mk x0 x1 x2 x3 ∧ (Lit.int k0 x0).wf = true ∧ (Lit.int k1 x1).wf = true ∧ (Lit.int k2 x2).wf = true ∧ (Lit.int k3 x3).wf = true := by
  obtain ⟨fuel, hf⟩ := h
  rcases open_slice ht hf with ⟨hcs, _⟩ | ⟨a, n, cc, m, fu, D, Pl, hcs, _, hl, hm, hmm, _, hx⟩
  · simp [Value.cells] at hcs
    obtain ⟨rfl, rfl, rfl⟩ := hcs
    exact ⟨[], rfl, ⟨rfl, by simp, fun h => absurd h (by simp)⟩, Nat.le_refl _, by simp, fun x hx => by cases hx⟩
  · simp [Value.cells] at hcs
    obtain ⟨rfl, rfl, rfl⟩ := hcs
    have hmc : m = cap := by rw [hmm]; rfl
    subst hmc
    have each : ∀ i, i < len → ∃ q : Int × Int × Int × Int, (∀ j u, ([.int k0 q.1, .int k1 q.2.1, .int k2 q.2.2.1, .int k3 q.2.2.2] : List Value)[j]? = some u → w.cell? (a.add (i * 4 + j)) = some u) ∧
        (Lit.int k0 q.1).wf = true ∧ (Lit.int k1 q.2.1).wf = true ∧ (Lit.int k2 q.2.2.1).wf = true ∧ (Lit.int k3 q.2.2.2).wf = true := by
      intro i hi
      obtain ⟨cs', h1, h2⟩ := hx i (by omega)
      rw [ce] at h1
      obtain ⟨_, hlen, hcell⟩ := World.cells?_some h1
      obtain ⟨y0, y1, y2, y3, k, _, _, g0, g1, g2, g3⟩ := trod_struct4 he h2
      match cs', hlen with
      | [v0, v1, v2, v3], _ =>
        rw [o0.1, c0.1] at g0
        rw [o0.2.1, c0.2.1] at g1
        rw [o0.2.2.1, c0.2.2.1] at g2
        rw [o0.2.2.2, c0.2.2.2] at g3
        obtain ⟨n0, e0, _, w0⟩ := DataW.trod_int u0 g0
        obtain ⟨n1, e1, _, w1⟩ := DataW.trod_int u1 g1
        obtain ⟨n2, e2, _, w2⟩ := DataW.trod_int u2 g2
        obtain ⟨n3, e3, _, w3⟩ := DataW.trod_int u3 g3
        simp at e0 e1 e2 e3
        subst e0 e1 e2 e3
        refine ⟨(n0, n1, n2, n3), fun j u hj => ?_, w0, w1, w2, w3⟩
        have hj4 : j < 4 := by
          have := (List.getElem?_eq_some_iff.1 hj).1
          simpa using this
        have := hcell j (by omega)
        rw [Go.Deep.add_add] at this
        rw [this]
        exact hj
    obtain ⟨q, hq⟩ := choose_lt each
    refine ⟨(List.range len).map fun i => mk (q i).1 (q i).2.1 (q i).2.2.1 (q i).2.2.2, by simp, ⟨rfl, by simp [maxLen] at hm ⊢; omega, fun _ => ⟨a, rfl, fun j p hj => ?_⟩⟩, by simp; exact hl, by simp; omega, fun x hx => ?_⟩
    · rw [List.getElem?_map] at hj
      obtain ⟨i, hi, rfl⟩ := Option.map_eq_some_iff.1 hj
      have hij : i = j ∧ j < len := by
        have h1 := List.getElem?_eq_some_iff.1 hi
        obtain ⟨h2, h3⟩ := h1
        simp at h2 h3
        exact ⟨h3.symm, h2⟩
      obtain ⟨rfl, hi⟩ := hij
      exact ⟨_, by simp [hz], hK _ _ _ _, fun j u hju => by rw [hz]; exact (hq i hi).1 j u hju⟩
    · obtain ⟨i, hi, rfl⟩ := List.mem_map.1 hx
      have := hq i (List.mem_range.1 hi)
      exact ⟨_, _, _, _, rfl, this.2⟩
end
end Go.Proofs.YtpdecpiiidoleaaLift
