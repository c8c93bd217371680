import Derived.Test.YtpdecpiiidoleaaRelaNice
import Derived.Test.YtpdecpiiidoleaaPAllx7
import Derived.Laws.Bits64b
namespace Go.Proofs.Ytpdecpiiidoleaa.Nice
open Go Go.RowKit Go.Proofs.Ytpdecpiiidoleaa.PAll Go.Proofs.YtpdecpiiidoleaaW.PrintWords Go.Proofs.YtpdecpiiidoleaaW.PrintLast Go.Proofs.YtpdecpiiidoleaaW.PrintMore
set_option linter.unusedVariables false

theorem rget_loop (s : ByteArray) (hs : s.size ≤ 8) : ∀ d : Nat, d ≤ s.size → Ev (fun k => turnbuckleref01_Get.l0 k s (getL ((bl s).drop d) : Nat) (d : Int)) (getL (bl s) : Nat) := by
  intro d
  induction d with
  | zero =>
    intro _
    refine Ev.step (f := fun _ => some (((getL (bl s) : Nat)) : Int)) (fun k => ?_) (Ev.now _)
    simp only [turnbuckleref01_Get.l0, List.drop_zero]
    rw [if_neg (by omega)]
  | succ d ih =>
    intro hd
    have hlt : getL ((bl s).drop (d + 1)) < 256 ^ 7 := by
      refine Nat.lt_of_lt_of_le (getL_lt _ (fun b hb => bl_lt s b (List.mem_of_mem_drop hb))) ?_
      rw [List.length_drop, bl_length]
      exact Nat.pow_le_pow_right (by omega) (by omega)
    have hb := bl_lt s _ (List.getElem_mem (l := bl s) (n := d) (by rw [bl_length]; omega))
    refine Ev.step (fun k => ?_) (ih (by omega))
    have e1 : ((d + 1 : Nat) : Int) - 1 = (d : Int) := by omega
    simp only [turnbuckleref01_Get.l0]
    rw [if_pos (by omega), if_pos (by omega), e1, w64 (x := (d : Int)) (by omega) (by omega), if_pos (by omega), if_pos (by omega), bt_bl s d (by omega)]
    congr 1
    generalize hB : (bl s)[d]'(by rw [bl_length]; omega) = B at hb
    rw [u64w (x := (B : Int)) (by omega) (by omega), u64w (x := 256 * _) (by omega) (by omega), u64w (by omega) (by omega)]
    rw [List.drop_eq_getElem_cons (i := d) (by rw [bl_length]; omega), hB]
    simp only [getL, List.foldr_cons]
    omega
theorem rget_ev (s : ByteArray) (hs0 : s.size ≤ 140737488351232) : Ev (fun k => turnbuckleref01_Get.f k s) (getS s : Nat) := by
  unfold turnbuckleref01_Get.f getS
  by_cases h : s.size ≤ 8
  · have h0 := rget_loop s h s.size (Nat.le_refl _)
    rw [List.drop_of_length_le (by rw [bl_length]; exact Nat.le_refl _)] at h0
    rw [if_pos h]
    exact h0
  · rw [if_neg h]
    refine Ev.step (f := fun _ => some 0) (fun k => ?_) (Ev.now _)
    simp only [turnbuckleref01_Get.l0]
    rw [if_pos (by omega), if_neg (by omega)]

end Go.Proofs.Ytpdecpiiidoleaa.Nice
