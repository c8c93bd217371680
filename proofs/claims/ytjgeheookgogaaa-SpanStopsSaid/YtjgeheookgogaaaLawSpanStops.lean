/- The law SpanStops of the given program, for every input: it returns true, and changes nothing that was there before. -/
import Derived.Test.YtjgeheookgogaaaRows
import Derived.Test.YtjgeheookgogaaaM3
import Derived.WalkKit
import Derived.ProofKit
import Derived.OpenShut
import Derived.ShutString
import Derived.ChangeOld
import Derived.Below
import Derived.SizedLaws
import Derived.Carry
namespace Go.Proofs.Ytjgeheookgogaaa.spanStops
open Go.ChangeShapes Go.WideShapes Go.ChangeAt Go.RowKit
open Go.ChangeMaps (open_string shut_string)
set_option linter.unusedVariables false
theorem own : ownKnob Try.prog.godebug = none := by kernel_rfl
theorem laidOut : laidOutB Try.prog = true := by kernel_rfl
theorem u64_bounds {x : Int} (h : (Lit.int .u64 x).wf = true) : 0 ≤ x ∧ x ≤ 18446744073709551615 := by
  simp [Lit.wf, IntKind.min, IntKind.max, IntKind.signed, IntKind.bits] at h; omega
theorem i64_bounds {x : Int} (h : (Lit.int .i64 x).wf = true) : -9223372036854775808 ≤ x ∧ x ≤ 9223372036854775807 := by
  simp [Lit.wf, IntKind.min, IntKind.max, IntKind.signed, IntKind.bits] at h; omega
set_option maxRecDepth 100000 in
theorem lifted (os : Os) (started : os.Started) (H : Type) (enc : TypeId × Value → H) :
    ReturnsInHanded {} Try.checked os 3 .any (Rows.spanStopsSpec.pre6 enc Try.prog Try.f3 Rows.spanStopsRow.domain false) (Rows.spanStopsSpec.post enc Try.prog Try.f3 false true false false) := by
  refine returnsInHanded_of_change_sized (C := Try.checked) own started (by kernel_rfl) Try.func3
    (ChangeSpec.witness6 (enc := enc) (C := Try.checked) false ⟨#[], #[.slice none 0 0, .int .i64 0], []⟩ 8 (by kernel_rfl) (by kernel_rfl) (by kernel_rfl) (by kernel_rfl)) ?_
  intro W base args ds gs before hval0 hW hcnd hsz0 _
  have hsz : (DataW.weightsEach Try.prog (Try.f3.params.toList ++ Rows.spanStopsSpec.plain.varTypes Try.prog) (ds ++ gs)).all (· ≤ reachBytes) = true := hsz0
  have hval : ∀ (j : Nat) t v, Try.f3.params[j]? = some t → args[j]? = some v → Value.okWide Try.prog W .any base t v := hval0
  have hW' := hW
  obtain ⟨p, q, hA0, hV, rfl, hfz, hnd⟩ := hW
  have hA : DataW.TrodAll enc Try.prog W 0 (fun _ => true) true Try.f3.params.toList args.toList ds p := hA0
  rw [Try.params3] at hA hval hsz
  obtain ⟨v0, vs0, d0, ds0, p0, q0, hargs, rfl, rfl, h0, r0⟩ := trodAll_cons hA
  obtain ⟨v1, vs1, d1, ds1, p1, q1, rfl, rfl, rfl, h1, r1⟩ := trodAll_cons r0
  obtain ⟨rfl, rfl, rfl⟩ := trodAll_nil r1
  obtain rfl : args = #[v0, v1] := by cases args; simp_all
  obtain ⟨rfl, rfl⟩ := trodVars_none hV
  obtain ⟨a0, len0, cap0, rfl⟩ := okWide_slice Try.underlying22 (hval 0 22 v0 rfl rfl)
  have k0 := h0
  have lt0 : ∀ x ∈ p0, x.block < W.heap.size := by obtain ⟨m, hm⟩ := k0; exact DataW.trod_lt m _ _ _ hm
  have kk0 := k0
  obtain ⟨m0, hm0⟩ := kk0
  obtain ⟨z0, hS0, hs0⟩ := Go.Proofs.YtjgeheookgogaaaA.trod_elems Try.underlying22 (by kernel_rfl) (by decide) Go.Proofs.YtjgeheookgogaaaA.spc_w Go.Proofs.YtjgeheookgogaaaA.arr2_spc hm0
  obtain ⟨pl0, ob0, va0, pa0, sa0⟩ := Go.Proofs.YtjgeheookgogaaaA.parg_rowm Go.Proofs.YtjgeheookgogaaaA.spc_w (by decide) Go.Proofs.YtjgeheookgogaaaA.spc_sc hS0 (0)
  obtain ⟨a1, rfl, rfl, rfl, w1⟩ := open_int Try.underlying3 (hval 1 3 v1 rfl rfl) h1
  have i0 : Go.Proofs.YtjgeheookgogaaaA.InH ([ob0] ++ ([] ++ [])) 0 ([ob0] ++ ([] ++ [])) := Go.Proofs.YtjgeheookgogaaaA.InH.refl _
  have i1 : Go.Proofs.YtjgeheookgogaaaA.InH ([ob0] ++ ([] ++ [])) (0 + [pl0].length) ([] ++ []) := by rw [pa0.len]; exact i0.app.2
  clear hA0 hval0 hsz0 hsz
  refine (Go.Proofs.YtjgeheookgogaaaA.world_of_acallsP (P := Try.prog) (f := 3) (args := [va0, .int .i64 a1]) (args' := #[.slice a0 len0 cap0, .int .i64 a1]) (H := ([ob0] ++ ([] ++ []))) (ls := ([pl0] ++ ([] ++ []))) (v := .bool true) (.cons pa0 (.cons (.scalar _ rfl) (.nil _))) rfl (Go.Proofs.YtjgeheookgogaaaA.spanStops_ok va0 z0 (sa0 _ i0.app.1) hs0 a1 (Int.lt_add_one_of_le (i64_bounds w1).2))).mono fun e W' ⟨he, bel⟩ => ?_
  subst he
  exact ⟨_, rfl, _, _, _, [], _, [], hW', trodAll_mk1 (shut_bool Try.underlying4 _), (trodAll_cons_mk (Below.trod laidOut (by kernel_rfl) (of_decide_eq_true (by kernel_rfl)) k0 bel lt0) (trodAll_cons_mk (shut_int Try.underlying3 w1) trodAll_mk0)), rfl, bel.frame _, fun h => by cases h⟩
theorem over : Rows.spanStopsRow.holds Try.pinned (OpenSpec.ofChange Rows.spanStopsSpec) :=
  OpenClaim.holds_of_wide 3 Try.f3 rfl rfl rfl rfl rfl rfl rfl ⟨rfl, rfl, rfl, rfl, rfl⟩ rfl rfl rfl rfl rfl (by kernel_rfl) Try.func3 (by kernel_rfl)
    (of_decide_eq_true (by kernel_rfl)) (by unfold Func.isWrapper; first | (rw [if_pos (by decide +kernel)]; kernel_rfl) | (rw [if_neg (by decide +kernel)]; exact ⟨rfl, rfl⟩))
    (fun os started H enc _ => lifted os started H enc)
theorem proved : Rows.SpanStopsSaid := over
#print axioms proved
end Go.Proofs.Ytjgeheookgogaaa.spanStops
namespace Go.Proofs.Ytjgeheookgogaaa
/-- The row, under a short name, for the claim. -/
theorem spanStops_holds : Rows.SpanStopsSaid := spanStops.proved
end Go.Proofs.Ytjgeheookgogaaa
