/- The law VersOf of the given program, for every input: it returns true, and changes nothing that was there before. -/
import Derived.Test.YtoaliamemkjfhaaRows
import Derived.Test.YtoaliamemkjfhaaM4
import Derived.WalkKit
import Derived.ProofKit
import Derived.OpenShut
import Derived.ShutString
import Derived.ChangeOld
import Derived.Below
import Derived.SizedLaws
import Derived.Carry
namespace Go.Proofs.Ytoaliamemkjfhaa.versOf
open Go.ChangeShapes Go.WideShapes Go.ChangeAt Go.RowKit
open Go.ChangeMaps (open_string shut_string)
set_option linter.unusedVariables false
theorem own : ownKnob Try.prog.godebug = none := by kernel_rfl
theorem laidOut : laidOutB Try.prog = true := by kernel_rfl
theorem u64_bounds {x : Int} (h : (Lit.int .u64 x).wf = true) : 0 ≤ x ∧ x ≤ 18446744073709551615 := by
  simp [Lit.wf, IntKind.min, IntKind.max, IntKind.signed, IntKind.bits] at h; omega
theorem i64_bounds {x : Int} (h : (Lit.int .i64 x).wf = true) : -9223372036854775808 ≤ x ∧ x ≤ 9223372036854775807 := by
  simp [Lit.wf, IntKind.min, IntKind.max, IntKind.signed, IntKind.bits] at h; omega
set_option maxRecDepth 100000 in
theorem lifted (os : Os) (started : os.Started) (H : Type) (enc : TypeId × Value → H) :
    ReturnsInHanded {} Try.checked os 6 .any (Rows.versOfSpec.pre6 enc Try.prog Try.f6 Rows.versOfRow.domain false) (Rows.versOfSpec.post enc Try.prog Try.f6 false true false false) := by
  refine returnsInHanded_of_change_sized (C := Try.checked) own started (by kernel_rfl) Try.func6
    (ChangeSpec.witness6 (enc := enc) (C := Try.checked) false ⟨#[], #[.agg #[.slice none 0 0, .slice none 0 0], .string ByteArray.empty, .int .i64 0], []⟩ 8 (by kernel_rfl) (by kernel_rfl) (by kernel_rfl) (by kernel_rfl)) ?_
  intro W base args ds gs before hval0 hW hcnd hsz0 _
  have hsz : (DataW.weightsEach Try.prog (Try.f6.params.toList ++ Rows.versOfSpec.plain.varTypes Try.prog) (ds ++ gs)).all (· ≤ reachBytes) = true := hsz0
  have hval : ∀ (j : Nat) t v, Try.f6.params[j]? = some t → args[j]? = some v → Value.okWide Try.prog W .any base t v := hval0
  have hW' := hW
  obtain ⟨p, q, hA0, hV, rfl, hfz, hnd⟩ := hW
  have hA : DataW.TrodAll enc Try.prog W 0 (fun _ => true) true Try.f6.params.toList args.toList ds p := hA0
  rw [Try.params6] at hA hval hsz
  obtain ⟨v0, vs0, d0, ds0, p0, q0, hargs, rfl, rfl, h0, r0⟩ := trodAll_cons hA
  obtain ⟨v1, vs1, d1, ds1, p1, q1, rfl, rfl, rfl, h1, r1⟩ := trodAll_cons r0
  obtain ⟨v2, vs2, d2, ds2, p2, q2, rfl, rfl, rfl, h2, r2⟩ := trodAll_cons r1
  obtain ⟨rfl, rfl, rfl⟩ := trodAll_nil r2
  obtain rfl : args = #[v0, v1, v2] := by cases args; simp_all
  obtain ⟨rfl, rfl⟩ := trodVars_none hV
  obtain ⟨cs0, rfl, hcs0⟩ := Go.Proofs.YtoaliamemkjfhaaA.okWide_array Try.underlying44 (hval 0 44 v0 rfl rfl)
  obtain ⟨c0_0, c0_1, rfl⟩ := Go.Proofs.YtoaliamemkjfhaaA.arr_two (hcs0.trans (by kernel_rfl))
  have k0 := h0
  have lt0 : ∀ x ∈ p0, x.block < W.heap.size := by obtain ⟨m, hm⟩ := k0; exact DataW.trod_lt m _ _ _ hm
  have kk0 := k0
  obtain ⟨m0, hm0⟩ := kk0
  obtain ⟨n0, y0_0, y0_1, g0_0, g0_1⟩ := Go.Proofs.YtoaliamemkjfhaaA.trod_arr2 Try.underlying44 (by kernel_rfl) hm0
  obtain ⟨z0_0, hS0_0, hs0_0⟩ := Go.Proofs.YtoaliamemkjfhaaA.trod_ints Try.underlying40 Try.underlying3 (by kernel_rfl) g0_0
  obtain ⟨pl0_0, ob0_0, va0_0, pa0_0, sa0_0⟩ := Go.Proofs.YtoaliamemkjfhaaA.parg_row (fun _ => rfl) hS0_0 (0)
  obtain ⟨z0_1, hS0_1, hs0_1⟩ := Go.Proofs.YtoaliamemkjfhaaA.trod_ints Try.underlying40 Try.underlying3 (by kernel_rfl) g0_1
  obtain ⟨pl0_1, ob0_1, va0_1, pa0_1, sa0_1⟩ := Go.Proofs.YtoaliamemkjfhaaA.parg_row (fun _ => rfl) hS0_1 (0 + [pl0_0].length)
  have pa0 := Go.Proofs.YtoaliamemkjfhaaA.parg_agg (.cons pa0_0 (.cons pa0_1 (.nil _)))
  obtain ⟨a1, rfl, rfl, rfl, y1⟩ := open_string Try.underlying9 (hval 1 9 v1 rfl rfl) h1
  have w1 : a1.size ≤ 140737488351232 := by
    have z := sized_string hsz (j := 1) (t := 9) rfl rfl
    rw [Array.length_toList] at z
    exact z
  obtain ⟨a2, rfl, rfl, rfl, w2⟩ := open_int Try.underlying3 (hval 2 3 v2 rfl rfl) h2
  have i0 : Go.Proofs.YtoaliamemkjfhaaA.InH (([ob0_0] ++ ([ob0_1] ++ [])) ++ ([] ++ ([] ++ []))) 0 (([ob0_0] ++ ([ob0_1] ++ [])) ++ ([] ++ ([] ++ []))) := Go.Proofs.YtoaliamemkjfhaaA.InH.refl _
  have i1 : Go.Proofs.YtoaliamemkjfhaaA.InH (([ob0_0] ++ ([ob0_1] ++ [])) ++ ([] ++ ([] ++ []))) (0 + ([pl0_0] ++ ([pl0_1] ++ [])).length) ([] ++ ([] ++ [])) := by rw [pa0.len]; exact i0.app.2
  have i2 : Go.Proofs.YtoaliamemkjfhaaA.InH (([ob0_0] ++ ([ob0_1] ++ [])) ++ ([] ++ ([] ++ []))) (0 + ([pl0_0] ++ ([pl0_1] ++ [])).length) ([] ++ []) := by exact i1.app.2
  clear hA0 hval0 hsz0 hsz
  refine (Go.Proofs.YtoaliamemkjfhaaA.world_of_acallsP (P := Try.prog) (f := 6) (args := [.agg #[va0_0, va0_1], .string a1, .int .i64 a2]) (args' := #[.agg #[c0_0, c0_1], .string a1, .int .i64 a2]) (H := (([ob0_0] ++ ([ob0_1] ++ [])) ++ ([] ++ ([] ++ [])))) (ls := (([pl0_0] ++ ([pl0_1] ++ [])) ++ ([] ++ ([] ++ [])))) (v := .bool true) (.cons pa0 (.cons (.scalar _ rfl) (.cons (.scalar _ rfl) (.nil _)))) rfl (Go.Proofs.YtoaliamemkjfhaaA.vof_ok z0_0 z0_1 va0_0 va0_1 (sa0_0 _ i0.app.1.app.1) (sa0_1 _ i0.app.1.app.2.app.1) a1 (by omega) a2)).mono fun e W' ⟨he, bel⟩ => ?_
  subst he
  exact ⟨_, rfl, _, _, _, [], _, [], hW', trodAll_mk1 (shut_bool Try.underlying4 _), (trodAll_cons_mk (Below.trod laidOut (by kernel_rfl) (of_decide_eq_true (by kernel_rfl)) k0 bel lt0) (trodAll_cons_mk (shut_string Try.underlying9 y1) (trodAll_cons_mk (shut_int Try.underlying3 w2) trodAll_mk0))), rfl, bel.frame _, fun h => by cases h⟩
theorem over : Rows.versOfRow.holds Try.pinned (OpenSpec.ofChange Rows.versOfSpec) :=
  OpenClaim.holds_of_wide 6 Try.f6 rfl rfl rfl rfl rfl rfl rfl ⟨rfl, rfl, rfl, rfl, rfl⟩ rfl rfl rfl rfl rfl (by kernel_rfl) Try.func6 (by kernel_rfl)
    (of_decide_eq_true (by kernel_rfl)) (by unfold Func.isWrapper; first | (rw [if_pos (by decide +kernel)]; kernel_rfl) | (rw [if_neg (by decide +kernel)]; exact ⟨rfl, rfl⟩))
    (fun os started H enc _ => lifted os started H enc)
theorem proved : Rows.VersOfSaid := over
#print axioms proved
end Go.Proofs.Ytoaliamemkjfhaa.versOf
namespace Go.Proofs.Ytoaliamemkjfhaa
/-- The row, under a short name, for the claim. -/
theorem versOf_holds : Rows.VersOfSaid := versOf.proved
end Go.Proofs.Ytoaliamemkjfhaa
