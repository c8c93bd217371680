-- Written by a program of this session (a changed copy of the print of the kit). Not trusted: Lean checks it.
import Derived.Test.YtmekjomfdomogaaRows
import Derived.Test.YtmekjomfdomogaaPBix10
import Derived.Test.YtmekjomfdomogaaPureSymBinds
import Derived.WalkKit
import Derived.ProofKit
import Derived.Lib.SmallJoins
import Derived.OpenShut
import Derived.ShutString
import Derived.ChangeOld
import Derived.Below
import Derived.SizedLaws
import Derived.Test.YtmekjomfdomogaaLiftAgg6
namespace Go.Proofs.Ytmekjomfdomogaa.symBinds
open Go.Proofs.Ytmekjomfdomogaa.PBi Go.Proofs.YtmekjomfdomogaaW.PrintWords
open Go.Proofs.YtmekjomfdomogaaLift
open Go.ChangeShapes Go.WideShapes Go.ChangeAt Go.RowKit Go.Joins
open Go.ChangeMaps (open_string shut_string)
set_option linter.unusedVariables false
theorem own : ownKnob Try.prog.godebug = none := by kernel_rfl
set_option maxRecDepth 100000 in
theorem lifted (os : Os) (started : os.Started) (H : Type) (enc : TypeId × Value → H) :
    ReturnsInHanded {} Try.checked os 6 .any (Rows.symBindsSpec.pre6 enc Try.prog Try.f6 Rows.symBindsRow.domain false) (Rows.symBindsSpec.post enc Try.prog Try.f6 false true false false) := by
  refine returnsInHanded_of_change_sized (C := Try.checked) own started (by kernel_rfl) Try.func6
    (ChangeSpec.witness6 (enc := enc) (C := Try.checked) false ⟨#[], #[.agg #[.int .i64 0, .int .i64 0, .int .i64 0, .bool false, .int .u64 0, .int .u64 0]], []⟩ 8 (by kernel_rfl) (by kernel_rfl) (by kernel_rfl) (by kernel_rfl)) ?_
  intro W base args ds gs before hval0 hW hcnd hsz0 _
  have hsz : (DataW.weightsEach Try.prog (Try.f6.params.toList ++ Rows.symBindsSpec.plain.varTypes Try.prog) (ds ++ gs)).all (· ≤ reachBytes) = true := hsz0
  have hval : ∀ (j : Nat) t v, Try.f6.params[j]? = some t → args[j]? = some v → Value.okWide Try.prog W .any base t v := hval0
  have hW' := hW
  obtain ⟨p, q, hA0, hV, rfl, hfz, hnd⟩ := hW
  have hA : DataW.TrodAll enc Try.prog W 0 (fun _ => true) true Try.f6.params.toList args.toList ds p := hA0
  rw [Try.params6] at hA hval hsz
  obtain ⟨v0, vs0, d0, ds0, p0, q0, hargs, rfl, rfl, h0, r0⟩ := trodAll_cons hA
  obtain ⟨rfl, rfl, rfl⟩ := trodAll_nil r0
  obtain rfl : args = #[v0] := by cases args; simp_all
  obtain ⟨rfl, rfl⟩ := trodVars_none hV
  obtain ⟨v0_0, v0_1, v0_2, v0_3, v0_4, v0_5, y0_0, y0_1, y0_2, y0_3, y0_4, y0_5, n0, rfl, rfl, rfl, t0_0, t0_1, t0_2, t0_3, t0_4, t0_5⟩ := open_agg6 Try.underlying24 (by kernel_rfl) (by kernel_rfl) (hval 0 24 v0 rfl rfl) h0
  obtain ⟨a0_0, e_, hx_, w0_0⟩ := DataW.trod_int (k := .i64) (by kernel_rfl) t0_0
  simp only [List.cons.injEq, and_true] at e_
  subst e_
  subst hx_
  obtain ⟨a0_1, e_, hx_, w0_1⟩ := DataW.trod_int (k := .i64) (by kernel_rfl) t0_1
  simp only [List.cons.injEq, and_true] at e_
  subst e_
  subst hx_
  obtain ⟨a0_2, e_, hx_, w0_2⟩ := DataW.trod_int (k := .i64) (by kernel_rfl) t0_2
  simp only [List.cons.injEq, and_true] at e_
  subst e_
  subst hx_
  obtain ⟨a0_3, e_, hx_⟩ := DataW.trod_bool (by kernel_rfl) t0_3
  simp only [List.cons.injEq, and_true] at e_
  subst e_
  subst hx_
  obtain ⟨a0_4, e_, hx_, w0_4⟩ := DataW.trod_int (k := .u64) (by kernel_rfl) t0_4
  simp only [List.cons.injEq, and_true] at e_
  subst e_
  subst hx_
  obtain ⟨a0_5, e_, hx_, w0_5⟩ := DataW.trod_int (k := .u64) (by kernel_rfl) t0_5
  simp only [List.cons.injEq, and_true] at e_
  subst e_
  subst hx_
  clear hA0 hval0 hsz0 hsz
  refine (PBi.turnbucklelaw11_SymBinds.walk Pure.SymBinds a0_0 a0_1 a0_2 a0_3 a0_4 a0_5 W w0_0 w0_1 w0_2 w0_4 w0_5).mono fun e W' ⟨he, bel⟩ => ?_
  subst he
  exact ⟨_, rfl, _, _, _, [], _, [], hW', trodAll_mk1 (shut_bool Try.underlying4 _), (trodAll_cons_mk (shut_agg6 Try.underlying24 (by kernel_rfl) (by kernel_rfl) (shut_int (k := .i64) (by kernel_rfl) w0_0) (shut_int (k := .i64) (by kernel_rfl) w0_1) (shut_int (k := .i64) (by kernel_rfl) w0_2) (shut_bool (by kernel_rfl) _) (shut_int (k := .u64) (by kernel_rfl) w0_4) (shut_int (k := .u64) (by kernel_rfl) w0_5)) trodAll_mk0), rfl, bel.frame _, fun h => by cases h⟩
theorem over : Rows.symBindsRow.holds Try.pinned (OpenSpec.ofChange Rows.symBindsSpec) :=
  OpenClaim.holds_of_wide 6 Try.f6 rfl rfl rfl rfl rfl rfl rfl ⟨rfl, rfl, rfl, rfl, rfl⟩ rfl rfl rfl rfl rfl (by kernel_rfl) Try.func6 (by kernel_rfl)
    (of_decide_eq_true (by kernel_rfl)) (by unfold Func.isWrapper; first | (rw [if_pos (by decide +kernel)]; kernel_rfl) | (rw [if_neg (by decide +kernel)]; exact ⟨rfl, rfl⟩))
    (fun os started H enc _ => lifted os started H enc)
theorem proved : Rows.SymBindsSaid := over
#print axioms proved
end Go.Proofs.Ytmekjomfdomogaa.symBinds
namespace Go.Proofs.Ytmekjomfdomogaa
/-- The row, under a short name, for the claim. -/
theorem symBinds_holds : Rows.SymBindsSaid := symBinds.proved
end Go.Proofs.Ytmekjomfdomogaa
