/-
  The operations' names, and what is none.
-/
import Derived.Test.YtoolfgohbffgnaaDoorWordNPure
namespace Go.Proofs.YtoolfgohbffgnaaDoor.Pure
open Go Go.RowKit Go.Proofs.YtoolfgohbffgnaaDoor.PNn Go.Proofs.YtoolfgohbffgnaaDoorW.PrintWords Go.Proofs.YtoolfgohbffgnaaDoorW.PrintLast Go.Proofs.YtoolfgohbffgnaaDoorW.PrintMore Go.Proofs.YtoolfgohbffgnaaDoor.NiceN Go.Proofs.YtoolfgohbffgnaaDoorGlob
set_option linter.unusedVariables false

def at_ (j : Nat) : ByteArray := rdOf ByteArray.empty names (j : Int)
theorem inj : ∀ i, i < 28 → ∀ j, j < 28 → (at_ i).toList = (at_ j).toList → i = j := by decide +kernel
theorem full : ∀ i, i < 28 → (at_ i).toList ≠ ([] : List UInt8) := by decide +kernel
theorem named : ∀ i, i < 28 → names.getD i ⟨#[]⟩ = at_ i := fun i _ => rfl
theorem len : (names.length : Int) = 28 := rfl
theorem up {x y : Int} (h : y = x + 1) (h0 : 0 ≤ y) (h1 : y < 1000) : wrap64 (x + 1) = y := by unfold wrap64; omega

theorem index_found (s : ByteArray) (i : Nat) (hi : i < 28) (h : s.toList = (at_ i).toList) : Ev (fun k => slices_Index_string_string.f k names s) (i : Int) := by
  have all : ∀ d : Nat, d ≤ i → Ev (fun k => slices_Index_string_string.l0 k names s 28 ((i - d : Nat) : Int)) (i : Int) := by
    intro d
    induction d with
    | zero =>
      intro _
      refine Ev.step (f := fun _ => some (i : Int)) (fun k => ?_) (Ev.now _)
      simp only [slices_Index_string_string.l0, Nat.sub_zero]
      rw [if_pos (by omega), if_pos (by omega), if_pos (by rw [len]; omega), if_pos (show s.toList = (rdOf ByteArray.empty names (i : Int)).toList from h)]
    | succ d ih =>
      intro hd
      refine Ev.step (f := fun k => slices_Index_string_string.l0 k names s 28 ((i - d : Nat) : Int)) (fun k => ?_) (ih (by omega))
      have hne : ¬ s.toList = (rdOf ByteArray.empty names ((i - (d + 1) : Nat) : Int)).toList := by
        intro h2
        have := inj i hi (i - (d + 1)) (by omega) (h.symm.trans h2)
        omega
      simp only [slices_Index_string_string.l0]
      rw [if_pos (by omega), if_pos (by omega), if_pos (by rw [len]; omega), if_neg hne, up (y := ((i - d : Nat) : Int)) (by omega) (by omega) (by omega)]
  have := all i (Nat.le_refl _)
  rw [Nat.sub_self] at this
  exact this
theorem index_none (s : ByteArray) (h : ∀ i, i < 28 → ¬ s.toList = (at_ i).toList) : Ev (fun k => slices_Index_string_string.f k names s) (-1) := by
  have all : ∀ d : Nat, d ≤ 28 → Ev (fun k => slices_Index_string_string.l0 k names s 28 ((28 - d : Nat) : Int)) (-1) := by
    intro d
    induction d with
    | zero =>
      intro _
      refine Ev.step (f := fun _ => some (-1)) (fun k => ?_) (Ev.now _)
      simp only [slices_Index_string_string.l0, Nat.sub_zero]
      rw [if_neg (by omega)]
    | succ d ih =>
      intro hd
      refine Ev.step (f := fun k => slices_Index_string_string.l0 k names s 28 ((28 - d : Nat) : Int)) (fun k => ?_) (ih (by omega))
      have hne : ¬ s.toList = (rdOf ByteArray.empty names ((28 - (d + 1) : Nat) : Int)).toList := h (28 - (d + 1)) (by omega)
      simp only [slices_Index_string_string.l0]
      rw [if_pos (by omega), if_pos (by omega), if_pos (by rw [len]; omega), if_neg hne, up (y := ((28 - d : Nat) : Int)) (by omega) (by omega) (by omega)]
  exact all 28 (Nat.le_refl _)
/-- The law's own search, where nothing more is found. -/
theorem scan_none (s : ByteArray) (x7 x9 : Int) (x8 : Bool) (hx : x8 = decide (x9 ≥ 0)) (h7 : x7 = mx x9 0) : ∀ d : Nat, d ≤ 28 → (∀ i, 28 - d ≤ i → i < 28 → ¬ (at_ i).toList = s.toList) →
    Ev (fun k => turnbucklelaw05_WordNames.l0 k s names x7 x8 x9 ((28 - d : Nat) : Int)) true := by
  intro d
  induction d with
  | zero =>
    intro _ _
    refine Ev.step (f := fun _ => some true) (fun k => ?_) (Ev.now _)
    simp only [turnbucklelaw05_WordNames.l0, Nat.sub_zero]
    rw [if_neg (by rw [len]; omega), if_pos (by rw [hx, beq_self_eq_true]), h7, beq_self_eq_true]
  | succ d ih =>
    intro hd hn
    refine Ev.step (f := fun k => turnbucklelaw05_WordNames.l0 k s names x7 x8 x9 ((28 - d : Nat) : Int)) (fun k => ?_) (ih (by omega) (fun i h1 h2 => hn i (by omega) h2))
    have hne : ¬ (rdOf ByteArray.empty names ((28 - (d + 1) : Nat) : Int)).toList = s.toList := hn (28 - (d + 1)) (by omega) (by omega)
    simp only [turnbucklelaw05_WordNames.l0]
    rw [if_pos (by rw [len]; omega), if_pos (by omega), if_neg hne, up (y := ((28 - d : Nat) : Int)) (by omega) (by omega) (by omega)]
theorem scan_found (s : ByteArray) (i : Nat) (hi : i < 28) (h : (at_ i).toList = s.toList) : Ev (fun k => turnbucklelaw05_WordNames.l0 k s names (i : Int) true (-1) 0) true := by
  have all : ∀ d : Nat, d ≤ i → Ev (fun k => turnbucklelaw05_WordNames.l0 k s names (i : Int) true (-1) ((i - d : Nat) : Int)) true := by
    intro d
    induction d with
    | zero =>
      intro _
      have hmx : mx (i : Int) 0 = i := by unfold mx; omega
      have hl := scan_none s (i : Int) (i : Int) true (by rw [decide_eq_true (by omega)]) hmx.symm (28 - (i + 1)) (by omega) (fun j h1 h2 e => by
        have := inj i hi j h2 (h.trans e.symm)
        omega)
      rw [show 28 - (28 - (i + 1)) = i + 1 by omega] at hl
      refine Ev.step (f := fun k => turnbucklelaw05_WordNames.l0 k s names (i : Int) true (i : Int) ((i + 1 : Nat) : Int)) (fun k => ?_) hl
      have hp : (rdOf ByteArray.empty names (i : Int)).toList = s.toList := h
      simp only [turnbucklelaw05_WordNames.l0, Nat.sub_zero]
      rw [if_pos (by rw [len]; omega), if_pos (by omega), if_pos hp, up (y := ((i + 1 : Nat) : Int)) (by omega) (by omega) (by omega)]
    | succ d ih =>
      intro hd
      refine Ev.step (f := fun k => turnbucklelaw05_WordNames.l0 k s names (i : Int) true (-1) ((i - d : Nat) : Int)) (fun k => ?_) (ih (by omega))
      have hne : ¬ (rdOf ByteArray.empty names ((i - (d + 1) : Nat) : Int)).toList = s.toList := by
        intro h2
        have := inj i hi (i - (d + 1)) (by omega) (h.trans h2.symm)
        omega
      simp only [turnbucklelaw05_WordNames.l0]
      rw [if_pos (by rw [len]; omega), if_pos (by omega), if_neg hne, up (y := ((i - d : Nat) : Int)) (by omega) (by omega) (by omega)]
  have := all i (Nat.le_refl _)
  rw [Nat.sub_self] at this
  exact this
theorem j2_holds (s : ByteArray) : Ev (fun k => turnbucklelaw05_WordNames.j2 k s names false) true := by
  refine Ev.step (f := fun k => (word_Named.f k s).bind fun bt151 => turnbucklelaw05_WordNames.l0 k s names bt151.1 bt151.2 (-1) 0) (fun k => ?_) ?_
  · simp only [turnbucklelaw05_WordNames.j2]
    rw [if_neg (by decide)]
  by_cases h : ∃ i, i < 28 ∧ s.toList = (at_ i).toList
  · obtain ⟨i, hi, he⟩ := h
    have hN : Ev (fun k => word_Named.f k s) ((i : Int), true) := by
      have hmx : mx (i : Int) 0 = i := by unfold mx; omega
      refine Ev.bind (index_found s i hi he) ?_
      rw [hmx, decide_eq_true (by omega)]
      exact Ev.now _
    exact Ev.bind hN (scan_found s i hi he.symm)
  · have h' : ∀ i, i < 28 → ¬ s.toList = (at_ i).toList := fun i hi he => h ⟨i, hi, he⟩
    have hN : Ev (fun k => word_Named.f k s) ((0 : Int), false) := Ev.bind (index_none s h') (Ev.now _)
    exact Ev.bind hN (scan_none s 0 (-1) false (by decide) rfl 28 (Nat.le_refl _) (fun i _ hi he => h' i hi he.symm))
theorem do_none (o a b : Int) (h : o < 0 ∨ 28 ≤ o) : Ev (fun k => word_Do.f k o a b) 0 := by
  refine Ev.step (f := fun _ => some 0) (fun k => ?_) (Ev.now _)
  simp only [word_Do.f]
  by_cases h0 : o < 0
  · rw [if_pos h0]
    simp only [word_Do.j0]
    rw [if_pos trivial]
  · rw [if_neg h0, decide_eq_true (by omega)]
    simp only [word_Do.j0]
    rw [if_pos trivial]
theorem j1_holds (o : Int) (s x : ByteArray) (h : word_Op_Name.f o = some x) (hx : (0 ≤ o ∧ o < 28 ∧ x.toList ≠ ([] : List UInt8)) ∨ ((o < 0 ∨ 28 ≤ o) ∧ x.toList = ([] : List UInt8))) : Ev (fun k => turnbucklelaw05_WordNames.j1 k o s names x) true := by
  refine Ev.step (f := fun k => if x.toList = ([] : List UInt8) then ((word_Do.f k o 7 9).bind fun t150 => (turnbucklelaw05_WordNames.j2 k s names (t150 != 0))) else (turnbucklelaw05_WordNames.j2 k s names false)) (fun k => ?_) ?_
  · simp only [turnbucklelaw05_WordNames.j1, h, Option.bind_some, word_Op_Half.f]
    rw [if_pos trivial]
    by_cases h18 : o ≥ 18
    · rw [if_pos h18]
      simp only [Option.bind_some]
      rw [if_pos h18, bne_self_eq_false, if_neg (by decide)]
    · rw [if_neg h18]
      simp only [Option.bind_some]
      rw [if_neg h18, bne_self_eq_false, if_neg (by decide)]
  · rcases hx with ⟨h0, h1, hne⟩ | ⟨ho, he⟩
    · exact Ev.congr (fun k => if_neg hne) (j2_holds s)
    · refine Ev.congr (fun k => if_pos he) (Ev.bind (do_none o 7 9 ho) ?_)
      exact j2_holds s

theorem WordNames : turnbucklelaw05_WordNames.Pure := by
  intro o s _ _
  apply Ev.rounds
  unfold turnbucklelaw05_WordNames.f
  refine Ev.bind speaks ?_
  refine Ev.congr (fun k => if_pos rfl) ?_
  have hN : turnbuckleref05_Names.f = some names := rfl
  rw [hN]
  simp only [Option.bind_some]
  have hz : (⟨#[]⟩ : ByteArray).toList = ([] : List UInt8) := by decide +kernel
  by_cases h0 : o ≥ 0
  · refine Ev.congr (fun k => if_pos h0) ?_
    rw [len]
    by_cases h1 : o < 28
    · rw [decide_eq_true h1]
      obtain ⟨n, rfl⟩ := Int.eq_ofNat_of_zero_le h0
      refine Ev.step (f := fun k => turnbucklelaw05_WordNames.j1 k n s names (at_ n)) (fun k => ?_) (j1_holds _ s _ ?_ (.inl ⟨h0, h1, full n (by omega)⟩))
      · simp only [turnbucklelaw05_WordNames.j0]
        rw [if_pos trivial, if_pos h0, if_pos (by rw [len]; exact h1)]
        rfl
      · simp only [word_Op_Name.f]
        rw [if_neg (by omega), if_neg (by omega), Int.toNat_natCast]
        rfl
    · rw [decide_eq_false h1]
      refine Ev.step (f := fun k => turnbucklelaw05_WordNames.j1 k o s names ⟨#[]⟩) (fun k => ?_) (j1_holds _ s _ ?_ (.inr ⟨.inr (by omega), hz⟩))
      · simp only [turnbucklelaw05_WordNames.j0]
        rw [if_neg (by decide)]
      · simp only [word_Op_Name.f]
        rw [if_neg (by omega), if_pos (by omega)]
  · refine Ev.congr (fun k => if_neg h0) ?_
    refine Ev.step (f := fun k => turnbucklelaw05_WordNames.j1 k o s names ⟨#[]⟩) (fun k => ?_) (j1_holds _ s _ ?_ (.inr ⟨.inl (by omega), hz⟩))
    · simp only [turnbucklelaw05_WordNames.j0]
      rw [if_neg (by decide)]
    · simp only [word_Op_Name.f]
      rw [if_pos (by omega)]
end Go.Proofs.YtoolfgohbffgnaaDoor.Pure
