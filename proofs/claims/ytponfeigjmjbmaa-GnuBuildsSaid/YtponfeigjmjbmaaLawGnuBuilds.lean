/- The law GnuBuilds of the given program, for every input: it returns true, and changes nothing that was there before. -/
import Derived.Test.YtponfeigjmjbmaaRows
import Derived.Test.YtponfeigjmjbmaaM7
import Derived.WalkKit
import Derived.ProofKit
import Derived.OpenShut
import Derived.ShutString
import Derived.ChangeOld
import Derived.Below
import Derived.SizedLaws
import Derived.Carry
namespace Go.Proofs.Ytponfeigjmjbmaa.gnuBuilds
open Go.ChangeShapes Go.WideShapes Go.ChangeAt Go.RowKit
open Go.ChangeMaps (open_string shut_string)
set_option linter.unusedVariables false
theorem own : ownKnob Try.prog.godebug = none := by kernel_rfl
theorem laidOut : laidOutB Try.prog = true := by kernel_rfl
theorem u64_bounds {x : Int} (h : (Lit.int .u64 x).wf = true) : 0 ≤ x ∧ x ≤ 18446744073709551615 := by
  simp [Lit.wf, IntKind.min, IntKind.max, IntKind.signed, IntKind.bits] at h; omega
theorem i64_bounds {x : Int} (h : (Lit.int .i64 x).wf = true) : -9223372036854775808 ≤ x ∧ x ≤ 9223372036854775807 := by
  simp [Lit.wf, IntKind.min, IntKind.max, IntKind.signed, IntKind.bits] at h; omega
set_option maxRecDepth 100000 in
theorem lifted (os : Os) (started : os.Started) (H : Type) (enc : TypeId × Value → H) :
    ReturnsInHanded {} Try.checked os 6 .any (Rows.gnuBuildsSpec.pre6 enc Try.prog Try.f6 Rows.gnuBuildsRow.domain false) (Rows.gnuBuildsSpec.post enc Try.prog Try.f6 false true false false) := by
  refine returnsInHanded_of_change_sized (C := Try.checked) own started (by kernel_rfl) Try.func6
    (ChangeSpec.witness6 (enc := enc) (C := Try.checked) false ⟨#[], #[.slice none 0 0, .agg #[.int .i64 0, .int .i64 0, .int .i64 0, .int .i64 0], .string ByteArray.empty], []⟩ 8 (by kernel_rfl) (by kernel_rfl) (by kernel_rfl) (by kernel_rfl)) ?_
  intro W base args ds gs before hval0 hW hcnd hsz0 _
  have hsz : (DataW.weightsEach Try.prog (Try.f6.params.toList ++ Rows.gnuBuildsSpec.plain.varTypes Try.prog) (ds ++ gs)).all (· ≤ reachBytes) = true := hsz0
  have hval : ∀ (j : Nat) t v, Try.f6.params[j]? = some t → args[j]? = some v → Value.okWide Try.prog W .any base t v := hval0
  have hW' := hW
  obtain ⟨p, q, hA0, hV, rfl, hfz, hnd⟩ := hW
  have hA : DataW.TrodAll enc Try.prog W 0 (fun _ => true) true Try.f6.params.toList args.toList ds p := hA0
  rw [Try.params6] at hA hval hsz
  obtain ⟨v0, vs0, d0, ds0, p0, q0, hargs, rfl, rfl, h0, r0⟩ := trodAll_cons hA
  obtain ⟨v1, vs1, d1, ds1, p1, q1, rfl, rfl, rfl, h1, r1⟩ := trodAll_cons r0
  obtain ⟨v2, vs2, d2, ds2, p2, q2, rfl, rfl, rfl, h2, r2⟩ := trodAll_cons r1
  obtain ⟨rfl, rfl, rfl⟩ := trodAll_nil r2
  obtain rfl : args = #[v0, v1, v2] := by cases args; simp_all
  obtain ⟨rfl, rfl⟩ := trodVars_none hV
  obtain ⟨a0, len0, cap0, rfl⟩ := okWide_slice Try.underlying23 (hval 0 23 v0 rfl rfl)
  have k0 := h0
  have lt0 : ∀ x ∈ p0, x.block < W.heap.size := by obtain ⟨m, hm⟩ := k0; exact DataW.trod_lt m _ _ _ hm
  have kk0 := k0
  obtain ⟨m0, hm0⟩ := kk0
  obtain ⟨zz0, hr0, hsz0_, hn0⟩ := Go.Proofs.YtponfeigjmjbmaaA.arg_strs Try.underlying23 Try.underlying9 (by kernel_rfl) (of_decide_eq_true (by kernel_rfl)) hsz (j := 0) rfl rfl (hval 0 23 _ rfl rfl) h0
  have hS0 := Go.Proofs.YtponfeigjmjbmaaA.slc_of_rowf hr0
  have hs0 : ∀ x ∈ zz0.take len0, x.size ≤ 140737488355328 := fun x hx => hsz0_ x (List.mem_of_mem_take hx)
  obtain ⟨z0, hz0_⟩ : ∃ z, z = zz0.take len0 := ⟨_, rfl⟩
  rw [← hz0_] at hS0 hs0
  have hl0 : z0.length ≤ 140737488355328 := by rw [hz0_, List.length_take]; omega
  obtain ⟨pl0, ob0, va0, pa0, sa0⟩ := Go.Proofs.YtponfeigjmjbmaaA.parg_row (fun _ => rfl) hS0 (0)
  obtain ⟨cs1, rfl, hcs1⟩ := Go.Proofs.YtponfeigjmjbmaaA.okWide_array Try.underlying22 (hval 1 22 v1 rfl rfl)
  obtain ⟨c1_0, c1_1, c1_2, c1_3, rfl⟩ := Go.Proofs.YtponfeigjmjbmaaA.arr_four (hcs1.trans (by kernel_rfl))
  have k1 := h1
  have lt1 : ∀ x ∈ p1, x.block < W.heap.size := by obtain ⟨m, hm⟩ := k1; exact DataW.trod_lt m _ _ _ hm
  have kk1 := k1
  obtain ⟨m1, hm1⟩ := kk1
  obtain ⟨a1_0, e1_0, w1_0⟩ := Go.Proofs.YtponfeigjmjbmaaA.arr_i64 Try.underlying22 (by kernel_rfl) Try.underlying3 hm1 (i := 0) (by decide)
  obtain ⟨a1_1, e1_1, w1_1⟩ := Go.Proofs.YtponfeigjmjbmaaA.arr_i64 Try.underlying22 (by kernel_rfl) Try.underlying3 hm1 (i := 1) (by decide)
  obtain ⟨a1_2, e1_2, w1_2⟩ := Go.Proofs.YtponfeigjmjbmaaA.arr_i64 Try.underlying22 (by kernel_rfl) Try.underlying3 hm1 (i := 2) (by decide)
  obtain ⟨a1_3, e1_3, w1_3⟩ := Go.Proofs.YtponfeigjmjbmaaA.arr_i64 Try.underlying22 (by kernel_rfl) Try.underlying3 hm1 (i := 3) (by decide)
  obtain rfl : c1_0 = _ := Option.some.inj e1_0
  obtain rfl : c1_1 = _ := Option.some.inj e1_1
  obtain rfl : c1_2 = _ := Option.some.inj e1_2
  obtain rfl : c1_3 = _ := Option.some.inj e1_3
  have pa1 := Go.Proofs.YtponfeigjmjbmaaA.parg_sc (w := W) (vs := [.int .i64 a1_0, .int .i64 a1_1, .int .i64 a1_2, .int .i64 a1_3]) (fun v hv => by simp at hv; rcases hv with rfl | rfl | rfl | rfl <;> rfl) (0 + [pl0].length)
  obtain ⟨a2, rfl, rfl, rfl, y2⟩ := open_string Try.underlying9 (hval 2 9 v2 rfl rfl) h2
  have w2 : a2.size ≤ 140737488351232 := by
    have z := sized_string hsz (j := 2) (t := 9) rfl rfl
    rw [Array.length_toList] at z
    exact z
  have i0 : Go.Proofs.YtponfeigjmjbmaaA.InH ([ob0] ++ ([] ++ ([] ++ []))) 0 ([ob0] ++ ([] ++ ([] ++ []))) := Go.Proofs.YtponfeigjmjbmaaA.InH.refl _
  have i1 : Go.Proofs.YtponfeigjmjbmaaA.InH ([ob0] ++ ([] ++ ([] ++ []))) (0 + [pl0].length) ([] ++ ([] ++ [])) := by rw [pa0.len]; exact i0.app.2
  have i2 : Go.Proofs.YtponfeigjmjbmaaA.InH ([ob0] ++ ([] ++ ([] ++ []))) (0 + [pl0].length) ([] ++ []) := by exact i1.app.2
  clear hA0 hval0 hsz0 hsz
  refine (Go.Proofs.YtponfeigjmjbmaaA.world_of_acallsP (P := Try.prog) (f := 6) (args := [va0, .agg #[.int .i64 a1_0, .int .i64 a1_1, .int .i64 a1_2, .int .i64 a1_3], .string a2]) (args' := #[.slice a0 len0 cap0, .agg #[.int .i64 a1_0, .int .i64 a1_1, .int .i64 a1_2, .int .i64 a1_3], .string a2]) (H := ([ob0] ++ ([] ++ ([] ++ [])))) (ls := ([pl0] ++ ([] ++ ([] ++ [])))) (v := .bool true) (.cons pa0 (.cons pa1 (.cons (.scalar _ rfl) (.nil _)))) rfl (Go.Proofs.YtponfeigjmjbmaaA.builds_ok va0 z0 (sa0 _ i0.app.1) hs0 a1_0 a1_1 a1_2 a1_3 a2 (by omega))).mono fun e W' ⟨he, bel⟩ => ?_
  subst he
  exact ⟨_, rfl, _, _, _, [], _, [], hW', trodAll_mk1 (shut_bool Try.underlying4 _), (trodAll_cons_mk (Below.trod laidOut (by kernel_rfl) (of_decide_eq_true (by kernel_rfl)) k0 bel lt0) (trodAll_cons_mk (Below.trod laidOut (by kernel_rfl) (of_decide_eq_true (by kernel_rfl)) k1 bel lt1) (trodAll_cons_mk (shut_string Try.underlying9 y2) trodAll_mk0))), rfl, bel.frame _, fun h => by cases h⟩
theorem over : Rows.gnuBuildsRow.holds Try.pinned (OpenSpec.ofChange Rows.gnuBuildsSpec) :=
  OpenClaim.holds_of_wide 6 Try.f6 rfl rfl rfl rfl rfl rfl rfl ⟨rfl, rfl, rfl, rfl, rfl⟩ rfl rfl rfl rfl rfl (by kernel_rfl) Try.func6 (by kernel_rfl)
    (of_decide_eq_true (by kernel_rfl)) (by unfold Func.isWrapper; first | (rw [if_pos (by decide +kernel)]; kernel_rfl) | (rw [if_neg (by decide +kernel)]; exact ⟨rfl, rfl⟩))
    (fun os started H enc _ => lifted os started H enc)
theorem proved : Rows.GnuBuildsSaid := over
#print axioms proved
end Go.Proofs.Ytponfeigjmjbmaa.gnuBuilds
namespace Go.Proofs.Ytponfeigjmjbmaa
/-- The row, under a short name, for the claim. -/
theorem gnuBuilds_holds : Rows.GnuBuildsSaid := gnuBuilds.proved
end Go.Proofs.Ytponfeigjmjbmaa
