-- Written by a program of this session (a changed copy of the print of the kit). Not trusted: Lean checks it.
import Derived.Test.YtoolfgohbffgnaaDoorPNnx0
import Derived.Test.YtoolfgohbffgnaaDoorPNnx2
import Derived.Test.YtoolfgohbffgnaaDoorGlob
import Derived.Deep.DeepMust
namespace Go.Proofs.YtoolfgohbffgnaaDoor.PNn
open Go.RowKit Go.Proofs.YtoolfgohbffgnaaDoorW.PrintWords Go.Proofs.YtoolfgohbffgnaaDoorW.PrintLast Go.Proofs.YtoolfgohbffgnaaDoorW.PrintMore
attribute [local go_sem] max2_int min2_int max_two min_two max_three min_three max_four min_four   -- for this text's walks alone
set_option linter.unusedVariables false
set_option linter.unusedSimpArgs false

-- GIVENCHUNK
-- GIVEN rounds=1 making=0 global=1
-- DESCEND
-- NEEDS Derived.Test.YtoolfgohbffgnaaDoorGlob
-- NEEDS Derived.Deep.DeepMust
/-! ### word_Named: function 15 (given by hand) -/
section
open Go.Proofs.YtoolfgohbffgnaaDoorGlob
def word_Named.f (k : Nat) (a0 : ByteArray) : Option (Int × Bool) := (slices_Index_string_string.f k names a0).bind fun t => some (mx t 0, decide (0 ≤ t))
theorem word_Named.mono : ∀ a0 k, LeO (word_Named.f k a0) (word_Named.f (k + 1) a0) := by
  intro a0 k
  unfold word_Named.f
  exact LeO.bind (slices_Index_string_string.mono _ _ k) fun t => LeO.refl _
set_option maxHeartbeats 4000000 in
set_option maxRecDepth 100000 in
theorem word_Named.calls (k : Nat) (a0 : ByteArray) (r1 : Int) (r2 : Bool) (w : World) (hG_ : Is w) (h : word_Named.f k a0 = some (r1, r2)) :
    Calls Tryd.prog 15 #[.string a0] w fun e w' => e = .returned (.tuple #[.int .i64 r1, .bool r2]) ∧ Drawn0 w w' := by
  unfold word_Named.f at h
  have hL := names_len
  have hC := hG_.C
  rw [hL] at hC
  generalize names = nm at h hL hC
  obtain ⟨t, ht, h⟩ := Option.bind_eq_some_iff.mp h
  simp only [Option.some.injEq, Prod.mk.injEq] at h
  obtain ⟨rfl, rfl⟩ := h
  have h1 : Tryd.prog.arrayLen 40 = 28 := by kernel_rfl
  have h2 : Tryd.prog.elem 40 = 9 := by kernel_rfl
  have h3 : ∀ wx : World, (sizeOf 9).run Tryd.prog wx = .ok 1 wx := fun wx => by simp [go_sem]
  have hs : ∀ wx : World, (Instr.sliceAt 40 (.pointer (some ⟨0, 0, none⟩)) none none none).run Tryd.prog wx = .ok (.slice (some ⟨0, 0, none⟩) 28 28) wx := by
    intro wx
    rw [run_sliceAt_array_all (P := Tryd.prog) wx 40 ⟨0, 0, none⟩ (by kernel_rfl), h1, h2, h3]
    rfl
  replace hC := Aside0.mk hC
  replace ht := Aside0.mk ht
  clear hG_ h1 h2 h3 h
  have hcall := slices_Index_string_string.calls k (some ⟨0, 0, none⟩) 28 nm a0 t w (by rw [hL]; exact hC.out) (by omega) ht.out
  rw [hL] at hcall
  replace hcall := Aside0.mk hcall
  clear hL hC ht
  go_enter Tryd.func15, Tryd.ntmps15
  go_wp2_with (first | (go_at_call 23; go_must (refine hcall.out.mono ?_; rintro e w' ⟨rfl, ⟨nd, rfl⟩⟩)))
  · have e1 : mx t 0 = 0 := by unfold mx; omega
    rw [e1]
    go_ret2
    exact ⟨rfl, ⟨nd, rfl⟩⟩
  · have e1 : mx t 0 = t := by unfold mx; omega
    rw [e1]
    go_ret2
    exact ⟨rfl, ⟨nd, rfl⟩⟩
end

end Go.Proofs.YtoolfgohbffgnaaDoor.PNn
