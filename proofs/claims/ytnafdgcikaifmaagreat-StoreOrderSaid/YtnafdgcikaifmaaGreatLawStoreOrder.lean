/- The law StoreOrder of the given program, for every input: it returns true, and changes nothing that was there before. -/
import Derived.Test.YtnafdgcikaifmaaGreatRows
import Derived.Test.YtnafdgcikaifmaaGreatM3
import Derived.WalkKit
import Derived.ProofKit
import Derived.OpenShut
import Derived.ShutString
import Derived.ChangeOld
import Derived.Below
import Derived.SizedLaws
import Derived.Carry
namespace Go.Proofs.YtnafdgcikaifmaaGreat.storeOrder
open Go.ChangeShapes Go.WideShapes Go.ChangeAt Go.RowKit
open Go.ChangeMaps (open_string shut_string)
set_option linter.unusedVariables false
theorem own : ownKnob Tryz.prog.godebug = none := by kernel_rfl
theorem laidOut : laidOutB Tryz.prog = true := by kernel_rfl
theorem u64_bounds {x : Int} (h : (Lit.int .u64 x).wf = true) : 0 ≤ x ∧ x ≤ 18446744073709551615 := by
  simp [Lit.wf, IntKind.min, IntKind.max, IntKind.signed, IntKind.bits] at h; omega
theorem i64_bounds {x : Int} (h : (Lit.int .i64 x).wf = true) : -9223372036854775808 ≤ x ∧ x ≤ 9223372036854775807 := by
  simp [Lit.wf, IntKind.min, IntKind.max, IntKind.signed, IntKind.bits] at h; omega
set_option maxRecDepth 100000 in
theorem lifted (os : Os) (started : os.Started) (H : Type) (enc : TypeId × Value → H) :
    ReturnsInHanded {} Tryz.checked os 3 .any (Rows.storeOrderSpec.pre6 enc Tryz.prog Tryz.f3 Rows.storeOrderRow.domain false) (Rows.storeOrderSpec.post enc Tryz.prog Tryz.f3 false true false false) := by
  refine returnsInHanded_of_change_sized (C := Tryz.checked) own started (by kernel_rfl) Tryz.func3
    (ChangeSpec.witness6 (enc := enc) (C := Tryz.checked) false ⟨#[], #[.slice none 0 0, .int .i64 0], []⟩ 8 (by kernel_rfl) (by kernel_rfl) (by kernel_rfl) (by kernel_rfl)) ?_
  intro W base args ds gs before hval0 hW hcnd hsz0 _
  have hsz : (DataW.weightsEach Tryz.prog (Tryz.f3.params.toList ++ Rows.storeOrderSpec.plain.varTypes Tryz.prog) (ds ++ gs)).all (· ≤ reachBytes) = true := hsz0
  have hval : ∀ (j : Nat) t v, Tryz.f3.params[j]? = some t → args[j]? = some v → Value.okWide Tryz.prog W .any base t v := hval0
  have hW' := hW
  obtain ⟨p, q, hA0, hV, rfl, hfz, hnd⟩ := hW
  have hA : DataW.TrodAll enc Tryz.prog W 0 (fun _ => true) true Tryz.f3.params.toList args.toList ds p := hA0
  rw [Tryz.params3] at hA hval hsz
  obtain ⟨v0, vs0, d0, ds0, p0, q0, hargs, rfl, rfl, h0, r0⟩ := trodAll_cons hA
  obtain ⟨v1, vs1, d1, ds1, p1, q1, rfl, rfl, rfl, h1, r1⟩ := trodAll_cons r0
  obtain ⟨rfl, rfl, rfl⟩ := trodAll_nil r1
  obtain rfl : args = #[v0, v1] := by cases args; simp_all
  obtain ⟨rfl, rfl⟩ := trodVars_none hV
  obtain ⟨a0, len0, cap0, rfl⟩ := okWide_slice Tryz.underlying22 (hval 0 22 v0 rfl rfl)
  have k0 := h0
  have lt0 : ∀ x ∈ p0, x.block < W.heap.size := by obtain ⟨m, hm⟩ := k0; exact DataW.trod_lt m _ _ _ hm
  have kk0 := k0
  obtain ⟨m0, hm0⟩ := kk0
  obtain ⟨z0, hS0, hs0⟩ := Go.Proofs.YtnafdgcikaifmaaGreatA.trod_elems Tryz.underlying22 (by kernel_rfl) (by decide) Go.Proofs.YtnafdgcikaifmaaGreatA.filc_w Go.Proofs.YtnafdgcikaifmaaGreatA.elem_filc hm0
  obtain ⟨pl0, ob0, va0, pa0, sa0⟩ := Go.Proofs.YtnafdgcikaifmaaGreatA.parg_rowm Go.Proofs.YtnafdgcikaifmaaGreatA.filc_w (by decide) Go.Proofs.YtnafdgcikaifmaaGreatA.filc_sc hS0 (0)
  obtain ⟨a1, rfl, rfl, rfl, w1⟩ := open_int Tryz.underlying3 (hval 1 3 v1 rfl rfl) h1
  have i0 : Go.Proofs.YtnafdgcikaifmaaGreatA.InH ([ob0] ++ ([] ++ [])) 0 ([ob0] ++ ([] ++ [])) := Go.Proofs.YtnafdgcikaifmaaGreatA.InH.refl _
  have i1 : Go.Proofs.YtnafdgcikaifmaaGreatA.InH ([ob0] ++ ([] ++ [])) (0 + [pl0].length) ([] ++ []) := by rw [pa0.len]; exact i0.app.2
  clear hA0 hval0 hsz0 hsz
  refine (Go.Proofs.YtnafdgcikaifmaaGreatA.world_of_acallsP (P := Tryz.prog) (f := 3) (args := [va0, .int .i64 a1]) (args' := #[.slice a0 len0 cap0, .int .i64 a1]) (H := ([ob0] ++ ([] ++ []))) (ls := ([pl0] ++ ([] ++ []))) (v := .bool true) (.cons pa0 (.cons (.scalar _ rfl) (.nil _))) rfl (Go.Proofs.YtnafdgcikaifmaaGreatA.order_ok va0 z0 (sa0 _ i0.app.1) hs0 a1)).mono fun e W' ⟨he, bel⟩ => ?_
  subst he
  exact ⟨_, rfl, _, _, _, [], _, [], hW', trodAll_mk1 (shut_bool Tryz.underlying4 _), (trodAll_cons_mk (Below.trod laidOut (by kernel_rfl) (of_decide_eq_true (by kernel_rfl)) k0 bel lt0) (trodAll_cons_mk (shut_int Tryz.underlying3 w1) trodAll_mk0)), rfl, bel.frame _, fun h => by cases h⟩
theorem over : Rows.storeOrderRow.holds Tryz.pinned (OpenSpec.ofChange Rows.storeOrderSpec) :=
  OpenClaim.holds_of_wide 3 Tryz.f3 rfl rfl rfl rfl rfl rfl rfl ⟨rfl, rfl, rfl, rfl, rfl⟩ rfl rfl rfl rfl rfl (by kernel_rfl) Tryz.func3 (by kernel_rfl)
    (of_decide_eq_true (by kernel_rfl)) (by unfold Func.isWrapper; first | (rw [if_pos (by decide +kernel)]; kernel_rfl) | (rw [if_neg (by decide +kernel)]; exact ⟨rfl, rfl⟩))
    (fun os started H enc _ => lifted os started H enc)
theorem proved : Rows.StoreOrderSaid := over
#print axioms proved
end Go.Proofs.YtnafdgcikaifmaaGreat.storeOrder
namespace Go.Proofs.YtnafdgcikaifmaaGreat
/-- The row, under a short name, for the claim. -/
theorem storeOrder_holds : Rows.StoreOrderSaid := storeOrder.proved
end Go.Proofs.YtnafdgcikaifmaaGreat
