/-
  SysvApart without a program: what is counted.
-/
import Derived.Test.YtmoldjiooccppaaBk
namespace Go.Proofs.YtmoldjiooccppaaA
set_option linter.unusedVariables false
open Go
section
variable (names : List ByteArray) (nb : Nat)
/-- A bucket of which some symbol below i was asked. -/
def seenB (i h : Nat) : Bool := (List.range i).any fun j => j != 0 && bkt names nb j == h
def headOf (i : Nat) : Nat := (bl names nb (bkt names nb i) names.length).headD 0
def headB (i x : Nat) : Bool := (List.range i).any fun j => j != 0 && headOf names nb j == x
def cntOf (i : Nat) : List Nat := (List.range names.length).map fun j => if (j != 0 && seenB names nb i (bkt names nb j)) = true then 1 else 0
end
/-- Each of a list counted once more. -/
def bump (w : List Nat) (c : List Nat) : List Nat := w.foldl (fun c j => c.set j (c.getD j 0 + 1)) c
section
variable {names : List ByteArray} {nb : Nat}
theorem seenB_iff {i h : Nat} : seenB names nb i h = true ↔ ∃ j, j < i ∧ j ≠ 0 ∧ bkt names nb j = h := by
  unfold seenB
  simp only [List.any_eq_true, List.mem_range, Bool.and_eq_true, bne_iff_ne, beq_iff_eq]
theorem headB_iff {i x : Nat} : headB names nb i x = true ↔ ∃ j, j < i ∧ j ≠ 0 ∧ headOf names nb j = x := by
  unfold headB
  simp only [List.any_eq_true, List.mem_range, Bool.and_eq_true, bne_iff_ne, beq_iff_eq]
theorem bl_ne {i : Nat} (h0 : i ≠ 0) (hi : i < names.length) : ∃ t, bl names nb (bkt names nb i) names.length = headOf names nb i :: t := by
  unfold headOf
  cases h : bl names nb (bkt names nb i) names.length with
  | nil => have := bl_mem.2 (show i < names.length ∧ i ≠ 0 ∧ bkt names nb i = bkt names nb i from ⟨hi, h0, rfl⟩); rw [h] at this; cases this
  | cons y t => exact ⟨t, rfl⟩
theorem head_in {i : Nat} (h0 : i ≠ 0) (hi : i < names.length) : headOf names nb i < names.length ∧ headOf names nb i ≠ 0 ∧ bkt names nb (headOf names nb i) = bkt names nb i := by
  obtain ⟨t, h⟩ := bl_ne (nb := nb) h0 hi
  obtain ⟨h1, h2, h3, _⟩ := bl_cons h
  exact ⟨h1, h2, h3⟩
theorem head_seen {i : Nat} (h0 : i ≠ 0) (hi : i < names.length) : headB names nb i (headOf names nb i) = seenB names nb i (bkt names nb i) := by
  rw [Bool.eq_iff_iff, headB_iff, seenB_iff]
  constructor
  · rintro ⟨j, h1, h2, h3⟩
    refine ⟨j, h1, h2, ?_⟩
    have e1 := (head_in (nb := nb) h2 (show j < names.length by omega)).2.2
    have e2 := (head_in (nb := nb) h0 hi).2.2
    rw [← e1, h3, e2]
  · rintro ⟨j, h1, h2, h3⟩
    exact ⟨j, h1, h2, by unfold headOf; rw [h3]⟩
theorem seenB_succ {i h : Nat} (h0 : i ≠ 0) : seenB names nb (i + 1) h = (seenB names nb i h || bkt names nb i == h) := by
  rw [Bool.eq_iff_iff, Bool.or_eq_true, seenB_iff, seenB_iff, beq_iff_eq]
  constructor
  · rintro ⟨j, h1, h2, h3⟩
    by_cases e : j = i
    · subst e; exact .inr h3
    · exact .inl ⟨j, by omega, h2, h3⟩
  · rintro (⟨j, h1, h2, h3⟩ | h1)
    · exact ⟨j, by omega, h2, h3⟩
    · exact ⟨i, by omega, h0, h1⟩
theorem headB_succ {i x : Nat} (h0 : i ≠ 0) : headB names nb (i + 1) x = (headB names nb i x || headOf names nb i == x) := by
  rw [Bool.eq_iff_iff, Bool.or_eq_true, headB_iff, headB_iff, beq_iff_eq]
  constructor
  · rintro ⟨j, h1, h2, h3⟩
    by_cases e : j = i
    · subst e; exact .inr h3
    · exact .inl ⟨j, by omega, h2, h3⟩
  · rintro (⟨j, h1, h2, h3⟩ | h1)
    · exact ⟨j, by omega, h2, h3⟩
    · exact ⟨i, by omega, h0, h1⟩
theorem cnt_length (i : Nat) : (cntOf names nb i).length = names.length := by simp [cntOf]
theorem cnt_get {i j : Nat} (hj : j < names.length) : (cntOf names nb i).getD j 0 = if (j != 0 && seenB names nb i (bkt names nb j)) = true then 1 else 0 := by
  unfold cntOf
  rw [List.getD_eq_getElem?_getD, List.getElem?_map, List.getElem?_range hj]; rfl
theorem cnt_seen {i : Nat} (h0 : i ≠ 0) (hs : seenB names nb i (bkt names nb i) = true) : cntOf names nb (i + 1) = cntOf names nb i := by
  unfold cntOf
  refine List.map_congr_left fun j _ => ?_
  have : seenB names nb (i + 1) (bkt names nb j) = seenB names nb i (bkt names nb j) := by
    rw [seenB_succ h0]
    by_cases e : bkt names nb i = bkt names nb j
    · rw [← e, hs]; rfl
    · simp [e]
  rw [this]
theorem head_same {i x : Nat} (h0 : i ≠ 0) (hi : i < names.length) (hs : seenB names nb i (bkt names nb i) = true) : headB names nb (i + 1) x = headB names nb i x := by
  rw [headB_succ h0]
  by_cases e : headOf names nb i = x
  · subst e; rw [head_seen h0 hi, hs]; rfl
  · simp [e]
theorem bump_get : ∀ {w c : List Nat} (j : Nat), w.Nodup → (∀ x ∈ w, x < c.length) → (bump w c).getD j 0 = c.getD j 0 + (if j ∈ w then 1 else 0) ∧ (bump w c).length = c.length
  | [], c, j, _, _ => by simp [bump]
  | y :: w, c, j, hn, hw => by
    obtain ⟨h1, h2⟩ := List.nodup_cons.1 hn
    have hy := hw y (by simp)
    obtain ⟨h3, h4⟩ := bump_get (w := w) (c := c.set y (c.getD y 0 + 1)) j h2 (fun x hx => by rw [List.length_set]; exact hw x (by simp [hx]))
    refine ⟨?_, by show (bump w (c.set y (c.getD y 0 + 1))).length = _; rw [h4, List.length_set]⟩
    show (bump w (c.set y (c.getD y 0 + 1))).getD j 0 = _
    rw [h3, getD_set]
    by_cases e : y = j
    · subst e
      rw [if_pos ⟨rfl, hy⟩, if_neg h1, if_pos (by simp)]
    · rw [if_neg (fun h => e h.1)]
      have : (j ∈ y :: w) ↔ j ∈ w := by simp [Ne.symm e]
      simp [this]
theorem ext_getD {a b : List Nat} (hl : a.length = b.length) (h : ∀ j, j < a.length → a.getD j 0 = b.getD j 0) : a = b := by
  apply List.ext_getElem hl
  intro j h1 h2
  have := h j h1
  rw [List.getD_eq_getElem?_getD, List.getD_eq_getElem?_getD, List.getElem?_eq_getElem h1, List.getElem?_eq_getElem h2] at this
  exact this
theorem cnt_new {i : Nat} (h0 : i ≠ 0) (hi : i < names.length) (hs : seenB names nb i (bkt names nb i) = false) : cntOf names nb (i + 1) = bump (bl names nb (bkt names nb i) names.length) (cntOf names nb i) := by
  have hb := fun j => bump_get (w := bl names nb (bkt names nb i) names.length) (c := cntOf names nb i) j (bl_nodup _) (fun x hx => by rw [cnt_length]; exact (bl_mem.1 hx).1)
  refine ext_getD (by rw [(hb 0).2, cnt_length, cnt_length]) fun j hj => ?_
  rw [cnt_length] at hj
  rw [(hb j).1, cnt_get hj, cnt_get hj, seenB_succ h0]
  by_cases e0 : j = 0
  · subst e0
    have : ¬ 0 ∈ bl names nb (bkt names nb i) names.length := fun h => (bl_mem.1 h).2.1 rfl
    simp [this]
  · by_cases e : bkt names nb i = bkt names nb j
    · have hm : j ∈ bl names nb (bkt names nb i) names.length := bl_mem.2 ⟨hj, e0, e.symm⟩
      rw [if_pos hm, ← e, hs]
      simp [e0]
    · have hm : ¬ j ∈ bl names nb (bkt names nb i) names.length := fun h => e (bl_mem.1 h).2.2.symm
      rw [if_neg hm]
      simp [e]
theorem cnt_start : cntOf names nb 1 = List.replicate names.length 0 := by
  refine ext_getD (by simp [cntOf]) fun j hj => ?_
  rw [cnt_length] at hj
  rw [cnt_get hj]
  have : seenB names nb 1 (bkt names nb j) = false := by
    rw [Bool.eq_false_iff]
    intro h
    obtain ⟨k, h1, h2, _⟩ := seenB_iff.1 h
    omega
  rw [this]
  simp [List.getD_eq_getElem?_getD, List.getElem?_replicate, hj]
theorem cnt_end {j : Nat} (h0 : j ≠ 0) (hj : j < names.length) : (cntOf names nb names.length).getD j 0 = 1 := by
  rw [cnt_get hj, seenB_iff.2 ⟨j, hj, h0, rfl⟩]
  simp [h0]
theorem headB_start (x : Nat) : headB names nb 1 x = false := by
  rw [Bool.eq_false_iff]
  intro h
  obtain ⟨k, h1, h2, _⟩ := headB_iff.1 h
  omega
theorem built_small (nb : Nat) : ∀ n, n ≤ names.length → (∀ x ∈ (buildN names nb n).1, x ≤ names.length) ∧ ∀ x ∈ (buildN names nb n).2, x ≤ names.length
  | 0, _ => by
    refine ⟨fun x hx => ?_, fun x hx => ?_⟩
    · have := List.eq_of_mem_replicate (show x ∈ List.replicate nb 0 from hx); omega
    · have := List.eq_of_mem_replicate (show x ∈ List.replicate names.length 0 from hx); omega
  | n + 1, h => by
    by_cases e : n = 0
    · subst e
      refine ⟨fun x hx => ?_, fun x hx => ?_⟩
      · have := List.eq_of_mem_replicate (show x ∈ List.replicate nb 0 from hx); omega
      · have := List.eq_of_mem_replicate (show x ∈ List.replicate names.length 0 from hx); omega
    · obtain ⟨h1, h2⟩ := built_small nb n (by omega)
      have e1 : buildN names nb (n + 1) = buildStep names nb n (buildN names nb n) := by rw [buildN, if_neg e]
      rw [e1]
      refine ⟨fun x hx => ?_, fun x hx => ?_⟩
      · rcases List.mem_or_eq_of_mem_set (show x ∈ (buildN names nb n).1.set _ n from hx) with h3 | h3
        · exact h1 x h3
        · omega
      · rcases List.mem_or_eq_of_mem_set (show x ∈ (buildN names nb n).2.set n _ from hx) with h3 | h3
        · exact h2 x h3
        · subst h3
          rw [List.getD_eq_getElem?_getD]
          cases h4 : (buildN names nb n).1[hash (names.getD n ⟨#[]⟩) % nb]? with
          | none => simp
          | some y => exact h1 y (List.mem_of_getElem? h4)
theorem bump_snoc (w c : List Nat) (x : Nat) : bump (w ++ [x]) c = (bump w c).set x ((bump w c).getD x 0 + 1) := by
  unfold bump; rw [List.foldl_append]; rfl
theorem bump_small {i k : Nat} (h : Nat) (j : Nat) (hj : j < names.length) : ((bump ((bl names nb h names.length).take k) (cntOf names nb i)).getD j 0 ≤ 2) ∧ (bump ((bl names nb h names.length).take k) (cntOf names nb i)).length = names.length := by
  have hs : ((bl names nb h names.length).take k).Nodup := (bl_nodup _).sublist (List.take_sublist _ _)
  obtain ⟨h1, h2⟩ := bump_get (w := (bl names nb h names.length).take k) (c := cntOf names nb i) j hs (fun x hx => by rw [cnt_length]; exact (bl_mem.1 (List.mem_of_mem_take hx)).1)
  refine ⟨?_, by rw [h2, cnt_length]⟩
  rw [h1, cnt_get hj]
  split <;> split <;> omega
end
end Go.Proofs.YtmoldjiooccppaaA
