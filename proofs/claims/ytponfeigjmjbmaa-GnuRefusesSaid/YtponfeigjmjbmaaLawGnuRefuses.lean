/- The law GnuRefuses of the given program, for every input: it returns true, and changes nothing that was there before. -/
import Derived.Test.YtponfeigjmjbmaaRows
import Derived.Test.YtponfeigjmjbmaaM5
import Derived.WalkKit
import Derived.ProofKit
import Derived.OpenShut
import Derived.ShutString
import Derived.ChangeOld
import Derived.Below
import Derived.SizedLaws
import Derived.Carry
namespace Go.Proofs.Ytponfeigjmjbmaa.gnuRefuses
open Go.ChangeShapes Go.WideShapes Go.ChangeAt Go.RowKit
open Go.ChangeMaps (open_string shut_string)
set_option linter.unusedVariables false
theorem own : ownKnob Try.prog.godebug = none := by kernel_rfl
theorem laidOut : laidOutB Try.prog = true := by kernel_rfl
theorem u64_bounds {x : Int} (h : (Lit.int .u64 x).wf = true) : 0 ≤ x ∧ x ≤ 18446744073709551615 := by
  simp [Lit.wf, IntKind.min, IntKind.max, IntKind.signed, IntKind.bits] at h; omega
theorem i64_bounds {x : Int} (h : (Lit.int .i64 x).wf = true) : -9223372036854775808 ≤ x ∧ x ≤ 9223372036854775807 := by
  simp [Lit.wf, IntKind.min, IntKind.max, IntKind.signed, IntKind.bits] at h; omega
set_option maxRecDepth 100000 in
theorem lifted (os : Os) (started : os.Started) (H : Type) (enc : TypeId × Value → H) :
    ReturnsInHanded {} Try.checked os 3 .any (Rows.gnuRefusesSpec.pre6 enc Try.prog Try.f3 Rows.gnuRefusesRow.domain false) (Rows.gnuRefusesSpec.post enc Try.prog Try.f3 false true false false) := by
  refine returnsInHanded_of_change_sized (C := Try.checked) own started (by kernel_rfl) Try.func3
    (ChangeSpec.witness6 (enc := enc) (C := Try.checked) false ⟨#[], #[.agg #[.int .i64 0, .int .i64 0, .int .i64 0, .int .i64 0], .slice none 0 0], []⟩ 8 (by kernel_rfl) (by kernel_rfl) (by kernel_rfl) (by kernel_rfl)) ?_
  intro W base args ds gs before hval0 hW hcnd hsz0 _
  have hsz : (DataW.weightsEach Try.prog (Try.f3.params.toList ++ Rows.gnuRefusesSpec.plain.varTypes Try.prog) (ds ++ gs)).all (· ≤ reachBytes) = true := hsz0
  have hval : ∀ (j : Nat) t v, Try.f3.params[j]? = some t → args[j]? = some v → Value.okWide Try.prog W .any base t v := hval0
  have hW' := hW
  obtain ⟨p, q, hA0, hV, rfl, hfz, hnd⟩ := hW
  have hA : DataW.TrodAll enc Try.prog W 0 (fun _ => true) true Try.f3.params.toList args.toList ds p := hA0
  rw [Try.params3] at hA hval hsz
  obtain ⟨v0, vs0, d0, ds0, p0, q0, hargs, rfl, rfl, h0, r0⟩ := trodAll_cons hA
  obtain ⟨v1, vs1, d1, ds1, p1, q1, rfl, rfl, rfl, h1, r1⟩ := trodAll_cons r0
  obtain ⟨rfl, rfl, rfl⟩ := trodAll_nil r1
  obtain rfl : args = #[v0, v1] := by cases args; simp_all
  obtain ⟨rfl, rfl⟩ := trodVars_none hV
  obtain ⟨cs0, rfl, hcs0⟩ := Go.Proofs.YtponfeigjmjbmaaA.okWide_array Try.underlying22 (hval 0 22 v0 rfl rfl)
  obtain ⟨c0_0, c0_1, c0_2, c0_3, rfl⟩ := Go.Proofs.YtponfeigjmjbmaaA.arr_four (hcs0.trans (by kernel_rfl))
  have k0 := h0
  have lt0 : ∀ x ∈ p0, x.block < W.heap.size := by obtain ⟨m, hm⟩ := k0; exact DataW.trod_lt m _ _ _ hm
  have kk0 := k0
  obtain ⟨m0, hm0⟩ := kk0
  obtain ⟨a0_0, e0_0, w0_0⟩ := Go.Proofs.YtponfeigjmjbmaaA.arr_i64 Try.underlying22 (by kernel_rfl) Try.underlying3 hm0 (i := 0) (by decide)
  obtain ⟨a0_1, e0_1, w0_1⟩ := Go.Proofs.YtponfeigjmjbmaaA.arr_i64 Try.underlying22 (by kernel_rfl) Try.underlying3 hm0 (i := 1) (by decide)
  obtain ⟨a0_2, e0_2, w0_2⟩ := Go.Proofs.YtponfeigjmjbmaaA.arr_i64 Try.underlying22 (by kernel_rfl) Try.underlying3 hm0 (i := 2) (by decide)
  obtain ⟨a0_3, e0_3, w0_3⟩ := Go.Proofs.YtponfeigjmjbmaaA.arr_i64 Try.underlying22 (by kernel_rfl) Try.underlying3 hm0 (i := 3) (by decide)
  obtain rfl : c0_0 = _ := Option.some.inj e0_0
  obtain rfl : c0_1 = _ := Option.some.inj e0_1
  obtain rfl : c0_2 = _ := Option.some.inj e0_2
  obtain rfl : c0_3 = _ := Option.some.inj e0_3
  have pa0 := Go.Proofs.YtponfeigjmjbmaaA.parg_sc (w := W) (vs := [.int .i64 a0_0, .int .i64 a0_1, .int .i64 a0_2, .int .i64 a0_3]) (fun v hv => by simp at hv; rcases hv with rfl | rfl | rfl | rfl <;> rfl) (0)
  obtain ⟨a1, len1, cap1, rfl⟩ := okWide_slice Try.underlying23 (hval 1 23 v1 rfl rfl)
  have k1 := h1
  have lt1 : ∀ x ∈ p1, x.block < W.heap.size := by obtain ⟨m, hm⟩ := k1; exact DataW.trod_lt m _ _ _ hm
  have kk1 := k1
  obtain ⟨m1, hm1⟩ := kk1
  obtain ⟨zz1, hr1, hsz1_, hn1⟩ := Go.Proofs.YtponfeigjmjbmaaA.arg_strs Try.underlying23 Try.underlying9 (by kernel_rfl) (of_decide_eq_true (by kernel_rfl)) hsz (j := 1) rfl rfl (hval 1 23 _ rfl rfl) h1
  have hS1 := Go.Proofs.YtponfeigjmjbmaaA.slc_of_rowf hr1
  have hs1 : ∀ x ∈ zz1.take len1, x.size ≤ 140737488355328 := fun x hx => hsz1_ x (List.mem_of_mem_take hx)
  obtain ⟨z1, hz1_⟩ : ∃ z, z = zz1.take len1 := ⟨_, rfl⟩
  rw [← hz1_] at hS1 hs1
  have hl1 : z1.length ≤ 140737488355328 := by rw [hz1_, List.length_take]; omega
  obtain ⟨pl1, ob1, va1, pa1, sa1⟩ := Go.Proofs.YtponfeigjmjbmaaA.parg_row (fun _ => rfl) hS1 (0)
  have i0 : Go.Proofs.YtponfeigjmjbmaaA.InH ([] ++ ([ob1] ++ [])) 0 ([] ++ ([ob1] ++ [])) := Go.Proofs.YtponfeigjmjbmaaA.InH.refl _
  have i1 : Go.Proofs.YtponfeigjmjbmaaA.InH ([] ++ ([ob1] ++ [])) (0) ([ob1] ++ []) := by exact i0.app.2
  clear hA0 hval0 hsz0 hsz
  refine (Go.Proofs.YtponfeigjmjbmaaA.world_of_acallsP (P := Try.prog) (f := 3) (args := [.agg #[.int .i64 a0_0, .int .i64 a0_1, .int .i64 a0_2, .int .i64 a0_3], va1]) (args' := #[.agg #[.int .i64 a0_0, .int .i64 a0_1, .int .i64 a0_2, .int .i64 a0_3], .slice a1 len1 cap1]) (H := ([] ++ ([ob1] ++ []))) (ls := ([] ++ ([pl1] ++ []))) (v := .bool true) (.cons pa0 (.cons pa1 (.nil _))) rfl (Go.Proofs.YtponfeigjmjbmaaA.refuses_ok va1 z1 (sa1 _ i1.app.1) hs1 a0_0 a0_1 a0_2 a0_3)).mono fun e W' ⟨he, bel⟩ => ?_
  subst he
  exact ⟨_, rfl, _, _, _, [], _, [], hW', trodAll_mk1 (shut_bool Try.underlying4 _), (trodAll_cons_mk (Below.trod laidOut (by kernel_rfl) (of_decide_eq_true (by kernel_rfl)) k0 bel lt0) (trodAll_cons_mk (Below.trod laidOut (by kernel_rfl) (of_decide_eq_true (by kernel_rfl)) k1 bel lt1) trodAll_mk0)), rfl, bel.frame _, fun h => by cases h⟩
theorem over : Rows.gnuRefusesRow.holds Try.pinned (OpenSpec.ofChange Rows.gnuRefusesSpec) :=
  OpenClaim.holds_of_wide 3 Try.f3 rfl rfl rfl rfl rfl rfl rfl ⟨rfl, rfl, rfl, rfl, rfl⟩ rfl rfl rfl rfl rfl (by kernel_rfl) Try.func3 (by kernel_rfl)
    (of_decide_eq_true (by kernel_rfl)) (by unfold Func.isWrapper; first | (rw [if_pos (by decide +kernel)]; kernel_rfl) | (rw [if_neg (by decide +kernel)]; exact ⟨rfl, rfl⟩))
    (fun os started H enc _ => lifted os started H enc)
theorem proved : Rows.GnuRefusesSaid := over
#print axioms proved
end Go.Proofs.Ytponfeigjmjbmaa.gnuRefuses
namespace Go.Proofs.Ytponfeigjmjbmaa
/-- The row, under a short name, for the claim. -/
theorem gnuRefuses_holds : Rows.GnuRefusesSaid := gnuRefuses.proved
end Go.Proofs.Ytponfeigjmjbmaa
