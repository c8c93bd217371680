-- Written by a program of this session (a changed copy of the print of the kit). Not trusted: Lean checks it.
import Derived.Test.YtpdecpiiidoleaaRows
import Derived.Test.YtpdecpiiidoleaaPAllx8
import Derived.Test.YtpdecpiiidoleaaPureRelaPuts
import Derived.WalkKit
import Derived.ProofKit
import Derived.Lib.SmallJoins
import Derived.OpenShut
import Derived.ShutString
import Derived.ChangeOld
import Derived.Below
import Derived.SizedLaws
namespace Go.Proofs.Ytpdecpiiidoleaa.relaPuts
open Go.ChangeShapes Go.WideShapes Go.ChangeAt Go.RowKit Go.Joins
open Go.ChangeMaps (open_string shut_string)
set_option linter.unusedVariables false
theorem own : ownKnob Try.prog.godebug = none := by kernel_rfl
set_option maxRecDepth 100000 in
theorem lifted (os : Os) (started : os.Started) (H : Type) (enc : TypeId × Value → H) :
    ReturnsInHanded {} Try.checked os 4 .any (Rows.relaPutsSpec.pre6 enc Try.prog Try.f4 Rows.relaPutsRow.domain false) (Rows.relaPutsSpec.post enc Try.prog Try.f4 false true false false) := by
  refine returnsInHanded_of_change_sized (C := Try.checked) own started (by kernel_rfl) Try.func4
    (ChangeSpec.witness6 (enc := enc) (C := Try.checked) false ⟨#[], #[.agg #[.int .u64 0, .int .i64 0, .int .i64 0, .int .u64 0]], []⟩ 8 (by kernel_rfl) (by kernel_rfl) (by kernel_rfl) (by kernel_rfl)) ?_
  intro W base args ds gs before hval0 hW hcnd hsz0 _
  have hsz : (DataW.weightsEach Try.prog (Try.f4.params.toList ++ Rows.relaPutsSpec.plain.varTypes Try.prog) (ds ++ gs)).all (· ≤ reachBytes) = true := hsz0
  have hval : ∀ (j : Nat) t v, Try.f4.params[j]? = some t → args[j]? = some v → Value.okWide Try.prog W .any base t v := hval0
  have hW' := hW
  obtain ⟨p, q, hA0, hV, rfl, hfz, hnd⟩ := hW
  have hA : DataW.TrodAll enc Try.prog W 0 (fun _ => true) true Try.f4.params.toList args.toList ds p := hA0
  rw [Try.params4] at hA hval hsz
  obtain ⟨v0, vs0, d0, ds0, p0, q0, hargs, rfl, rfl, h0, r0⟩ := trodAll_cons hA
  obtain ⟨rfl, rfl, rfl⟩ := trodAll_nil r0
  obtain rfl : args = #[v0] := by cases args; simp_all
  obtain ⟨rfl, rfl⟩ := trodVars_none hV
  obtain ⟨v0_0, v0_1, v0_2, v0_3, y0_0, y0_1, y0_2, y0_3, n0, rfl, rfl, rfl, t0_0, t0_1, t0_2, t0_3⟩ := open_agg4 Try.underlying28 (by kernel_rfl) (by kernel_rfl) (hval 0 28 v0 rfl rfl) h0
  obtain ⟨a0_0, e_, hx_, w0_0⟩ := DataW.trod_int (k := .u64) (by kernel_rfl) t0_0
  simp only [List.cons.injEq, and_true] at e_
  subst e_
  subst hx_
  obtain ⟨a0_1, e_, hx_, w0_1⟩ := DataW.trod_int (k := .i64) (by kernel_rfl) t0_1
  simp only [List.cons.injEq, and_true] at e_
  subst e_
  subst hx_
  obtain ⟨a0_2, e_, hx_, w0_2⟩ := DataW.trod_int (k := .i64) (by kernel_rfl) t0_2
  simp only [List.cons.injEq, and_true] at e_
  subst e_
  subst hx_
  obtain ⟨a0_3, e_, hx_, w0_3⟩ := DataW.trod_int (k := .u64) (by kernel_rfl) t0_3
  simp only [List.cons.injEq, and_true] at e_
  subst e_
  subst hx_
  clear hA0 hval0 hsz0 hsz
  refine (PAll.turnbucklelaw15_RelaPuts.walk Pure.RelaPuts a0_0 a0_1 a0_2 a0_3 W w0_0 w0_1 w0_2 w0_3).mono fun e W' ⟨he, bel⟩ => ?_
  subst he
  exact ⟨_, rfl, _, _, _, [], _, [], hW', trodAll_mk1 (shut_bool Try.underlying4 _), (trodAll_cons_mk (shut_agg4 Try.underlying28 (by kernel_rfl) (by kernel_rfl) (shut_int (k := .u64) (by kernel_rfl) w0_0) (shut_int (k := .i64) (by kernel_rfl) w0_1) (shut_int (k := .i64) (by kernel_rfl) w0_2) (shut_int (k := .u64) (by kernel_rfl) w0_3)) trodAll_mk0), rfl, bel.frame _, fun h => by cases h⟩
theorem over : Rows.relaPutsRow.holds Try.pinned (OpenSpec.ofChange Rows.relaPutsSpec) :=
  OpenClaim.holds_of_wide 4 Try.f4 rfl rfl rfl rfl rfl rfl rfl ⟨rfl, rfl, rfl, rfl, rfl⟩ rfl rfl rfl rfl rfl (by kernel_rfl) Try.func4 (by kernel_rfl)
    (of_decide_eq_true (by kernel_rfl)) (by unfold Func.isWrapper; first | (rw [if_pos (by decide +kernel)]; kernel_rfl) | (rw [if_neg (by decide +kernel)]; exact ⟨rfl, rfl⟩))
    (fun os started H enc _ => lifted os started H enc)
theorem proved : Rows.RelaPutsSaid := over
#print axioms proved
end Go.Proofs.Ytpdecpiiidoleaa.relaPuts
namespace Go.Proofs.Ytpdecpiiidoleaa
/-- The row, under a short name, for the claim. -/
theorem relaPuts_holds : Rows.RelaPutsSaid := relaPuts.proved
end Go.Proofs.Ytpdecpiiidoleaa
