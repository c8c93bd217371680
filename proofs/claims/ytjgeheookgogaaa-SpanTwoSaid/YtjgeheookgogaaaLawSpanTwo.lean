/- The law SpanTwo of the given program, for every input: it returns true, and changes nothing that was there before. -/
import Derived.Test.YtjgeheookgogaaaRows
import Derived.Test.YtjgeheookgogaaaM3
import Derived.WalkKit
import Derived.ProofKit
import Derived.OpenShut
import Derived.ShutString
import Derived.ChangeOld
import Derived.Below
import Derived.SizedLaws
import Derived.Carry
namespace Go.Proofs.Ytjgeheookgogaaa.spanTwo
open Go.ChangeShapes Go.WideShapes Go.ChangeAt Go.RowKit
open Go.ChangeMaps (open_string shut_string)
set_option linter.unusedVariables false
theorem own : ownKnob Try.prog.godebug = none := by kernel_rfl
theorem laidOut : laidOutB Try.prog = true := by kernel_rfl
theorem u64_bounds {x : Int} (h : (Lit.int .u64 x).wf = true) : 0 ≤ x ∧ x ≤ 18446744073709551615 := by
  simp [Lit.wf, IntKind.min, IntKind.max, IntKind.signed, IntKind.bits] at h; omega
theorem i64_bounds {x : Int} (h : (Lit.int .i64 x).wf = true) : -9223372036854775808 ≤ x ∧ x ≤ 9223372036854775807 := by
  simp [Lit.wf, IntKind.min, IntKind.max, IntKind.signed, IntKind.bits] at h; omega
set_option maxRecDepth 100000 in
theorem lifted (os : Os) (started : os.Started) (H : Type) (enc : TypeId × Value → H) :
    ReturnsInHanded {} Try.checked os 4 .any (Rows.spanTwoSpec.pre6 enc Try.prog Try.f4 Rows.spanTwoRow.domain false) (Rows.spanTwoSpec.post enc Try.prog Try.f4 false true false false) := by
  refine returnsInHanded_of_change_sized (C := Try.checked) own started (by kernel_rfl) Try.func4
    (ChangeSpec.witness6 (enc := enc) (C := Try.checked) false ⟨#[], #[.agg #[.int .u64 0, .int .u64 0], .agg #[.int .u64 0, .int .u64 0], .int .u64 0], []⟩ 8 (by kernel_rfl) (by kernel_rfl) (by kernel_rfl) (by kernel_rfl)) ?_
  intro W base args ds gs before hval0 hW hcnd hsz0 _
  have hsz : (DataW.weightsEach Try.prog (Try.f4.params.toList ++ Rows.spanTwoSpec.plain.varTypes Try.prog) (ds ++ gs)).all (· ≤ reachBytes) = true := hsz0
  have hval : ∀ (j : Nat) t v, Try.f4.params[j]? = some t → args[j]? = some v → Value.okWide Try.prog W .any base t v := hval0
  have hW' := hW
  obtain ⟨p, q, hA0, hV, rfl, hfz, hnd⟩ := hW
  have hA : DataW.TrodAll enc Try.prog W 0 (fun _ => true) true Try.f4.params.toList args.toList ds p := hA0
  rw [Try.params4] at hA hval hsz
  obtain ⟨v0, vs0, d0, ds0, p0, q0, hargs, rfl, rfl, h0, r0⟩ := trodAll_cons hA
  obtain ⟨v1, vs1, d1, ds1, p1, q1, rfl, rfl, rfl, h1, r1⟩ := trodAll_cons r0
  obtain ⟨v2, vs2, d2, ds2, p2, q2, rfl, rfl, rfl, h2, r2⟩ := trodAll_cons r1
  obtain ⟨rfl, rfl, rfl⟩ := trodAll_nil r2
  obtain rfl : args = #[v0, v1, v2] := by cases args; simp_all
  obtain ⟨rfl, rfl⟩ := trodVars_none hV
  obtain ⟨cs0, rfl, hcs0⟩ := Go.Proofs.YtjgeheookgogaaaA.okWide_array Try.underlying28 (hval 0 28 v0 rfl rfl)
  obtain ⟨c0_0, c0_1, rfl⟩ := Go.Proofs.YtjgeheookgogaaaA.arr_two (hcs0.trans (by kernel_rfl))
  have k0 := h0
  have lt0 : ∀ x ∈ p0, x.block < W.heap.size := by obtain ⟨m, hm⟩ := k0; exact DataW.trod_lt m _ _ _ hm
  have kk0 := k0
  obtain ⟨m0, hm0⟩ := kk0
  obtain ⟨a0_0, e0_0, w0_0⟩ := Go.Proofs.YtjgeheookgogaaaA.arr_u64 Try.underlying28 (by kernel_rfl) Try.underlying27 hm0 (i := 0) (by decide)
  obtain ⟨a0_1, e0_1, w0_1⟩ := Go.Proofs.YtjgeheookgogaaaA.arr_u64 Try.underlying28 (by kernel_rfl) Try.underlying27 hm0 (i := 1) (by decide)
  obtain rfl : c0_0 = _ := Option.some.inj e0_0
  obtain rfl : c0_1 = _ := Option.some.inj e0_1
  have pa0 := Go.Proofs.YtjgeheookgogaaaA.parg_sc (w := W) (vs := [.int .u64 ((a0_0 : Nat) : Int), .int .u64 ((a0_1 : Nat) : Int)]) (fun v hv => by simp at hv; rcases hv with rfl | rfl <;> rfl) (0)
  obtain ⟨cs1, rfl, hcs1⟩ := Go.Proofs.YtjgeheookgogaaaA.okWide_array Try.underlying28 (hval 1 28 v1 rfl rfl)
  obtain ⟨c1_0, c1_1, rfl⟩ := Go.Proofs.YtjgeheookgogaaaA.arr_two (hcs1.trans (by kernel_rfl))
  have k1 := h1
  have lt1 : ∀ x ∈ p1, x.block < W.heap.size := by obtain ⟨m, hm⟩ := k1; exact DataW.trod_lt m _ _ _ hm
  have kk1 := k1
  obtain ⟨m1, hm1⟩ := kk1
  obtain ⟨a1_0, e1_0, w1_0⟩ := Go.Proofs.YtjgeheookgogaaaA.arr_u64 Try.underlying28 (by kernel_rfl) Try.underlying27 hm1 (i := 0) (by decide)
  obtain ⟨a1_1, e1_1, w1_1⟩ := Go.Proofs.YtjgeheookgogaaaA.arr_u64 Try.underlying28 (by kernel_rfl) Try.underlying27 hm1 (i := 1) (by decide)
  obtain rfl : c1_0 = _ := Option.some.inj e1_0
  obtain rfl : c1_1 = _ := Option.some.inj e1_1
  have pa1 := Go.Proofs.YtjgeheookgogaaaA.parg_sc (w := W) (vs := [.int .u64 ((a1_0 : Nat) : Int), .int .u64 ((a1_1 : Nat) : Int)]) (fun v hv => by simp at hv; rcases hv with rfl | rfl <;> rfl) (0)
  obtain ⟨c2, rfl, rfl, rfl, w2⟩ := open_int Try.underlying27 (hval 2 27 v2 rfl rfl) h2
  obtain ⟨a2, rfl, x2⟩ := Go.Proofs.YtjgeheookgogaaaA.nat_of_u64 w2
  have i0 : Go.Proofs.YtjgeheookgogaaaA.InH ([] ++ ([] ++ ([] ++ []))) 0 ([] ++ ([] ++ ([] ++ []))) := Go.Proofs.YtjgeheookgogaaaA.InH.refl _
  have i1 : Go.Proofs.YtjgeheookgogaaaA.InH ([] ++ ([] ++ ([] ++ []))) (0) ([] ++ ([] ++ [])) := by exact i0.app.2
  have i2 : Go.Proofs.YtjgeheookgogaaaA.InH ([] ++ ([] ++ ([] ++ []))) (0) ([] ++ []) := by exact i1.app.2
  clear hA0 hval0 hsz0 hsz
  refine (Go.Proofs.YtjgeheookgogaaaA.world_of_acallsP (P := Try.prog) (f := 4) (args := [.agg #[.int .u64 ((a0_0 : Nat) : Int), .int .u64 ((a0_1 : Nat) : Int)], .agg #[.int .u64 ((a1_0 : Nat) : Int), .int .u64 ((a1_1 : Nat) : Int)], .int .u64 ((a2 : Nat) : Int)]) (args' := #[.agg #[.int .u64 ((a0_0 : Nat) : Int), .int .u64 ((a0_1 : Nat) : Int)], .agg #[.int .u64 ((a1_0 : Nat) : Int), .int .u64 ((a1_1 : Nat) : Int)], .int .u64 ((a2 : Nat) : Int)]) (H := ([] ++ ([] ++ ([] ++ [])))) (ls := ([] ++ ([] ++ ([] ++ [])))) (v := .bool true) (.cons pa0 (.cons pa1 (.cons (.scalar _ rfl) (.nil _)))) rfl (Go.Proofs.YtjgeheookgogaaaA.spanTwo_ok a0_0 a0_1 a1_0 a1_1 a2 w0_0 w0_1 w1_0 w1_1 x2)).mono fun e W' ⟨he, bel⟩ => ?_
  subst he
  exact ⟨_, rfl, _, _, _, [], _, [], hW', trodAll_mk1 (shut_bool Try.underlying4 _), (trodAll_cons_mk (Below.trod laidOut (by kernel_rfl) (of_decide_eq_true (by kernel_rfl)) k0 bel lt0) (trodAll_cons_mk (Below.trod laidOut (by kernel_rfl) (of_decide_eq_true (by kernel_rfl)) k1 bel lt1) (trodAll_cons_mk (shut_int Try.underlying27 w2) trodAll_mk0))), rfl, bel.frame _, fun h => by cases h⟩
theorem over : Rows.spanTwoRow.holds Try.pinned (OpenSpec.ofChange Rows.spanTwoSpec) :=
  OpenClaim.holds_of_wide 4 Try.f4 rfl rfl rfl rfl rfl rfl rfl ⟨rfl, rfl, rfl, rfl, rfl⟩ rfl rfl rfl rfl rfl (by kernel_rfl) Try.func4 (by kernel_rfl)
    (of_decide_eq_true (by kernel_rfl)) (by unfold Func.isWrapper; first | (rw [if_pos (by decide +kernel)]; kernel_rfl) | (rw [if_neg (by decide +kernel)]; exact ⟨rfl, rfl⟩))
    (fun os started H enc _ => lifted os started H enc)
theorem proved : Rows.SpanTwoSaid := over
#print axioms proved
end Go.Proofs.Ytjgeheookgogaaa.spanTwo
namespace Go.Proofs.Ytjgeheookgogaaa
/-- The row, under a short name, for the claim. -/
theorem spanTwo_holds : Rows.SpanTwoSaid := spanTwo.proved
end Go.Proofs.Ytjgeheookgogaaa
