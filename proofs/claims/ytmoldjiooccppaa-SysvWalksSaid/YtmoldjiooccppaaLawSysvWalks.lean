/- The law SysvWalks of the given program, for every input: it returns true, and changes nothing that was there before. -/
import Derived.Test.YtmoldjiooccppaaRows
import Derived.Test.YtmoldjiooccppaaV4
import Derived.WalkKit
import Derived.ProofKit
import Derived.OpenShut
import Derived.ShutString
import Derived.ChangeOld
import Derived.Below
import Derived.SizedLaws
import Derived.Carry
import Derived.Test.YtmoldjiooccppaaA23
namespace Go.Proofs.Ytmoldjiooccppaa.sysvWalks
open Go.ChangeShapes Go.WideShapes Go.ChangeAt Go.RowKit
open Go.ChangeMaps (open_string shut_string)
set_option linter.unusedVariables false
theorem own : ownKnob Try.prog.godebug = none := by kernel_rfl
theorem laidOut : laidOutB Try.prog = true := by kernel_rfl
theorem u64_bounds {x : Int} (h : (Lit.int .u64 x).wf = true) : 0 ≤ x ∧ x ≤ 18446744073709551615 := by
  simp [Lit.wf, IntKind.min, IntKind.max, IntKind.signed, IntKind.bits] at h; omega
theorem i64_bounds {x : Int} (h : (Lit.int .i64 x).wf = true) : -9223372036854775808 ≤ x ∧ x ≤ 9223372036854775807 := by
  simp [Lit.wf, IntKind.min, IntKind.max, IntKind.signed, IntKind.bits] at h; omega
set_option maxRecDepth 100000 in
theorem lifted (os : Os) (started : os.Started) (H : Type) (enc : TypeId × Value → H) :
    ReturnsInHanded {} Try.checked os 4 .any (Rows.sysvWalksSpec.pre6 enc Try.prog Try.f4 Rows.sysvWalksRow.domain false) (Rows.sysvWalksSpec.post enc Try.prog Try.f4 false true false false) := by
  refine returnsInHanded_of_change_sized (C := Try.checked) own started (by kernel_rfl) Try.func4
    (ChangeSpec.witness6 (enc := enc) (C := Try.checked) false ⟨#[], #[.slice none 0 0, .slice none 0 0, .slice none 0 0], []⟩ 8 (by kernel_rfl) (by kernel_rfl) (by kernel_rfl) (by kernel_rfl)) ?_
  intro W base args ds gs before hval0 hW hcnd hsz0 _
  have hsz : (DataW.weightsEach Try.prog (Try.f4.params.toList ++ Rows.sysvWalksSpec.plain.varTypes Try.prog) (ds ++ gs)).all (· ≤ reachBytes) = true := hsz0
  have hval : ∀ (j : Nat) t v, Try.f4.params[j]? = some t → args[j]? = some v → Value.okWide Try.prog W .any base t v := hval0
  have hW' := hW
  obtain ⟨p, q, hA0, hV, rfl, hfz, hnd⟩ := hW
  have hA : DataW.TrodAll enc Try.prog W 0 (fun _ => true) true Try.f4.params.toList args.toList ds p := hA0
  rw [Try.params4] at hA hval hsz
  obtain ⟨v0, vs0, d0, ds0, p0, q0, hargs, rfl, rfl, h0, r0⟩ := trodAll_cons hA
  obtain ⟨v1, vs1, d1, ds1, p1, q1, rfl, rfl, rfl, h1, r1⟩ := trodAll_cons r0
  obtain ⟨v2, vs2, d2, ds2, p2, q2, rfl, rfl, rfl, h2, r2⟩ := trodAll_cons r1
  obtain ⟨rfl, rfl, rfl⟩ := trodAll_nil r2
  obtain rfl : args = #[v0, v1, v2] := by cases args; simp_all
  obtain ⟨rfl, rfl⟩ := trodVars_none hV
  obtain ⟨a0, len0, cap0, rfl⟩ := okWide_slice Try.underlying24 (hval 0 24 v0 rfl rfl)
  have k0 := h0
  have lt0 : ∀ x ∈ p0, x.block < W.heap.size := by obtain ⟨m, hm⟩ := k0; exact DataW.trod_lt m _ _ _ hm
  obtain ⟨z0, hr0, hs0⟩ := Go.Proofs.YtmoldjiooccppaaA.arg_ints Try.underlying24 Try.underlying31 (by kernel_rfl) (hval 0 24 _ rfl rfl) h0
  obtain ⟨z0, hr0, hs0⟩ := Go.Proofs.YtmoldjiooccppaaA.row_u32 hr0 hs0
  obtain ⟨ol0, o0, va0, sa0⟩ := Go.Proofs.YtmoldjiooccppaaA.sarg_of Go.Proofs.YtmoldjiooccppaaA.u32v (fun _ => rfl) 0 hr0
  obtain ⟨a1, len1, cap1, rfl⟩ := okWide_slice Try.underlying24 (hval 1 24 v1 rfl rfl)
  have k1 := h1
  have lt1 : ∀ x ∈ p1, x.block < W.heap.size := by obtain ⟨m, hm⟩ := k1; exact DataW.trod_lt m _ _ _ hm
  obtain ⟨z1, hr1, hs1⟩ := Go.Proofs.YtmoldjiooccppaaA.arg_ints Try.underlying24 Try.underlying31 (by kernel_rfl) (hval 1 24 _ rfl rfl) h1
  obtain ⟨z1, hr1, hs1⟩ := Go.Proofs.YtmoldjiooccppaaA.row_u32 hr1 hs1
  obtain ⟨ol1, o1, va1, sa1⟩ := Go.Proofs.YtmoldjiooccppaaA.sarg_of Go.Proofs.YtmoldjiooccppaaA.u32v (fun _ => rfl) 1 hr1
  obtain ⟨a2, len2, cap2, rfl⟩ := okWide_slice Try.underlying22 (hval 2 22 v2 rfl rfl)
  have k2 := h2
  have lt2 : ∀ x ∈ p2, x.block < W.heap.size := by obtain ⟨m, hm⟩ := k2; exact DataW.trod_lt m _ _ _ hm
  obtain ⟨z2, hr2, hs2, hn2⟩ := Go.Proofs.YtmoldjiooccppaaA.arg_strs Try.underlying22 Try.underlying9 (by kernel_rfl) (of_decide_eq_true (by kernel_rfl)) hsz (j := 2) rfl rfl (hval 2 22 _ rfl rfl) h2
  obtain ⟨ol2, o2, va2, sa2⟩ := Go.Proofs.YtmoldjiooccppaaA.sarg_of Go.Proofs.YtmoldjiooccppaaA.strv (fun _ => rfl) 2 hr2
  clear hA0 hval0 hsz0 hsz
  refine (Go.Proofs.YtmoldjiooccppaaA.world_of_acallsN (P := Try.prog) (f := 4) (args := [va0, va1, va2]) (args' := #[.slice a0 len0 cap0, .slice a1 len1 cap1, .slice a2 len2 cap2]) (H := [o0, o1, o2]) (ls := [ol0, ol1, ol2]) (v := .bool true) ⟨sa0.obj, ⟨sa1.obj, ⟨sa2.obj, trivial⟩⟩⟩ (.cons (sa0.val _ fun lc h => Go.Proofs.YtmoldjiooccppaaA.rhoOf_some (by subst h; rfl)) (.cons (sa1.val _ fun lc h => Go.Proofs.YtmoldjiooccppaaA.rhoOf_some (by subst h; rfl)) (.cons (sa2.val _ fun lc h => Go.Proofs.YtmoldjiooccppaaA.rhoOf_some (by subst h; rfl)) (.nil _)))) rfl (Go.Proofs.YtmoldjiooccppaaA.walks_ok (z0.take len0) (z1.take len1) (z2.take len2) va0 va1 va2 (sa0.sl _ rfl) (sa1.sl _ rfl) (sa2.sl _ rfl) (fun x hx => hs0 x (List.mem_of_mem_take hx)) (fun x hx => hs1 x (List.mem_of_mem_take hx)) (fun x hx => hs2 x (List.mem_of_mem_take hx)))).mono fun e W' ⟨he, bel⟩ => ?_
  subst he
  exact ⟨_, rfl, _, _, _, [], _, [], hW', trodAll_mk1 (shut_bool Try.underlying4 _), (trodAll_cons_mk (Below.trod laidOut (by kernel_rfl) (of_decide_eq_true (by kernel_rfl)) k0 bel lt0) (trodAll_cons_mk (Below.trod laidOut (by kernel_rfl) (of_decide_eq_true (by kernel_rfl)) k1 bel lt1) (trodAll_cons_mk (Below.trod laidOut (by kernel_rfl) (of_decide_eq_true (by kernel_rfl)) k2 bel lt2) trodAll_mk0))), rfl, bel.frame _, fun h => by cases h⟩
theorem over : Rows.sysvWalksRow.holds Try.pinned (OpenSpec.ofChange Rows.sysvWalksSpec) :=
  OpenClaim.holds_of_wide 4 Try.f4 rfl rfl rfl rfl rfl rfl rfl ⟨rfl, rfl, rfl, rfl, rfl⟩ rfl rfl rfl rfl rfl (by kernel_rfl) Try.func4 (by kernel_rfl)
    (of_decide_eq_true (by kernel_rfl)) (by unfold Func.isWrapper; first | (rw [if_pos (by decide +kernel)]; kernel_rfl) | (rw [if_neg (by decide +kernel)]; exact ⟨rfl, rfl⟩))
    (fun os started H enc _ => lifted os started H enc)
theorem proved : Rows.SysvWalksSaid := over
#print axioms proved
end Go.Proofs.Ytmoldjiooccppaa.sysvWalks
namespace Go.Proofs.Ytmoldjiooccppaa
/-- The row, under a short name, for the claim. -/
theorem sysvWalks_holds : Rows.SysvWalksSaid := sysvWalks.proved
end Go.Proofs.Ytmoldjiooccppaa
