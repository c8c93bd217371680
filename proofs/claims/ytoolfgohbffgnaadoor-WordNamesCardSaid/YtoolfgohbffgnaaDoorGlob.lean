/-
  The table of names of word, as it lies; it lies there still behind what writes elsewhere.
-/
import Derived.Test.YtoolfgohbffgnaaDoorWWords
import Derived.Below
import Derived.LaidLaws
import Derived.Lib.LaidTab
namespace Go.Proofs.YtoolfgohbffgnaaDoorGlob
open Go Go.RowKit Go.Proofs.YtoolfgohbffgnaaDoorW.PrintWords
/-- The names. -/
def names : List ByteArray := [⟨#[97, 100, 100]⟩, ⟨#[115, 117, 98]⟩, ⟨#[115, 108, 108]⟩, ⟨#[115, 108, 116]⟩, ⟨#[115, 108, 116, 117]⟩, ⟨#[120, 111, 114]⟩, ⟨#[115, 114, 108]⟩, ⟨#[115, 114, 97]⟩, ⟨#[111, 114]⟩, ⟨#[97, 110, 100]⟩, ⟨#[109, 117, 108]⟩, ⟨#[109, 117, 108, 104]⟩, ⟨#[109, 117, 108, 104, 115, 117]⟩, ⟨#[109, 117, 108, 104, 117]⟩, ⟨#[100, 105, 118]⟩, ⟨#[100, 105, 118, 117]⟩, ⟨#[114, 101, 109]⟩, ⟨#[114, 101, 109, 117]⟩, ⟨#[97, 100, 100, 119]⟩, ⟨#[115, 117, 98, 119]⟩, ⟨#[115, 108, 108, 119]⟩, ⟨#[115, 114, 108, 119]⟩, ⟨#[115, 114, 97, 119]⟩, ⟨#[109, 117, 108, 119]⟩, ⟨#[100, 105, 118, 119]⟩, ⟨#[100, 105, 118, 117, 119]⟩, ⟨#[114, 101, 109, 119]⟩, ⟨#[114, 101, 109, 117, 119]⟩]
theorem names_len : names.length = 28 := rfl
/-- The table of names lies in the first block. -/
def Is (w : World) : Prop := ∃ t fr, w.heap[0]? = some (.cells (names.map Value.string).toArray t fr)
theorem Is.below {w w' : World} {n : Nat} (h : Is w) (hb : Below n w w') (hn : 0 < n) : Is w' := by
  obtain ⟨t, fr, h⟩ := h
  exact ⟨t, fr, (hb.block 0 hn).trans h⟩
theorem Is.pos {w : World} (h : Is w) : 0 < w.heap.size := by
  obtain ⟨t, fr, h⟩ := h
  exact (Array.getElem?_eq_some_iff.1 h).1
theorem Is.under {w w' : World} (h : Is w) (hb : Below w.heap.size w w') : Is w' := h.below hb h.pos
theorem Is.drewN {w : World} (h : Is w) (n : Nat) : Is (w.drewN n) := h
theorem Is.drew {w : World} (h : Is w) : Is w.drew := h
theorem Is.cell {w : World} (h : Is w) (i : Nat) (hi : i < 28) : w.cell? ⟨0, i, none⟩ = some (.string (names.getD i ⟨#[]⟩)) := by
  obtain ⟨t, fr, h⟩ := h
  simp only [World.cell?, h]
  have hi' : i < names.length := hi
  simp [List.getD, hi']
theorem Is.C {w : World} (h : Is w) : Kd.string.C w (some ⟨0, 0, none⟩) names.length names := by
  refine ⟨rfl, by decide, fun _ => ⟨_, rfl, fun j p hj => ⟨[.string p], rfl, rfl, fun i u hu => ?_⟩⟩⟩
  have hj' := (List.getElem?_eq_some_iff.1 hj).1
  have h1 := h.cell j hj'
  rcases i with _ | i
  · simp at hu
    subst hu
    have e : names.getD j ⟨#[]⟩ = p := by simp [List.getD, hj]
    rw [e] at h1
    by_cases h0 : j = 0
    · subst h0
      simpa [Addr.add, Kd.string, Kd.scalar] using h1
    · simpa [Addr.add, Kd.string, Kd.scalar, h0] using h1
  · simp at hu
end Go.Proofs.YtoolfgohbffgnaaDoorGlob
