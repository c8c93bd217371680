/- The law StorePlays of the given program, for every input: it returns true, and changes nothing that was there before. -/
import Derived.Test.YtnafdgcikaifmaaGreatRows
import Derived.Test.YtnafdgcikaifmaaGreatM4
import Derived.WalkKit
import Derived.ProofKit
import Derived.OpenShut
import Derived.ShutString
import Derived.ChangeOld
import Derived.Below
import Derived.SizedLaws
import Derived.Carry
namespace Go.Proofs.YtnafdgcikaifmaaGreat.storePlays
open Go.ChangeShapes Go.WideShapes Go.ChangeAt Go.RowKit
open Go.ChangeMaps (open_string shut_string)
set_option linter.unusedVariables false
theorem own : ownKnob Tryz.prog.godebug = none := by kernel_rfl
theorem laidOut : laidOutB Tryz.prog = true := by kernel_rfl
theorem u64_bounds {x : Int} (h : (Lit.int .u64 x).wf = true) : 0 ≤ x ∧ x ≤ 18446744073709551615 := by
  simp [Lit.wf, IntKind.min, IntKind.max, IntKind.signed, IntKind.bits] at h; omega
theorem i64_bounds {x : Int} (h : (Lit.int .i64 x).wf = true) : -9223372036854775808 ≤ x ∧ x ≤ 9223372036854775807 := by
  simp [Lit.wf, IntKind.min, IntKind.max, IntKind.signed, IntKind.bits] at h; omega
set_option maxRecDepth 100000 in
theorem lifted (os : Os) (started : os.Started) (H : Type) (enc : TypeId × Value → H) :
    ReturnsInHanded {} Tryz.checked os 4 .any (Rows.storePlaysSpec.pre6 enc Tryz.prog Tryz.f4 Rows.storePlaysRow.domain false) (Rows.storePlaysSpec.post enc Tryz.prog Tryz.f4 false true false false) := by
  refine returnsInHanded_of_change_sized (C := Tryz.checked) own started (by kernel_rfl) Tryz.func4
    (ChangeSpec.witness6 (enc := enc) (C := Tryz.checked) false ⟨#[], #[.slice none 0 0, .slice none 0 0], []⟩ 8 (by kernel_rfl) (by kernel_rfl) (by kernel_rfl) (by kernel_rfl)) ?_
  intro W base args ds gs before hval0 hW hcnd hsz0 _
  have hsz : (DataW.weightsEach Tryz.prog (Tryz.f4.params.toList ++ Rows.storePlaysSpec.plain.varTypes Tryz.prog) (ds ++ gs)).all (· ≤ reachBytes) = true := hsz0
  have hval : ∀ (j : Nat) t v, Tryz.f4.params[j]? = some t → args[j]? = some v → Value.okWide Tryz.prog W .any base t v := hval0
  have hW' := hW
  obtain ⟨p, q, hA0, hV, rfl, hfz, hnd⟩ := hW
  have hA : DataW.TrodAll enc Tryz.prog W 0 (fun _ => true) true Tryz.f4.params.toList args.toList ds p := hA0
  rw [Tryz.params4] at hA hval hsz
  obtain ⟨v0, vs0, d0, ds0, p0, q0, hargs, rfl, rfl, h0, r0⟩ := trodAll_cons hA
  obtain ⟨v1, vs1, d1, ds1, p1, q1, rfl, rfl, rfl, h1, r1⟩ := trodAll_cons r0
  obtain ⟨rfl, rfl, rfl⟩ := trodAll_nil r1
  obtain rfl : args = #[v0, v1] := by cases args; simp_all
  obtain ⟨rfl, rfl⟩ := trodVars_none hV
  obtain ⟨a0, len0, cap0, rfl⟩ := okWide_slice Tryz.underlying22 (hval 0 22 v0 rfl rfl)
  have k0 := h0
  have lt0 : ∀ x ∈ p0, x.block < W.heap.size := by obtain ⟨m, hm⟩ := k0; exact DataW.trod_lt m _ _ _ hm
  have kk0 := k0
  obtain ⟨m0, hm0⟩ := kk0
  obtain ⟨z0, hS0, hs0⟩ := Go.Proofs.YtnafdgcikaifmaaGreatA.trod_elems Tryz.underlying22 (by kernel_rfl) (by decide) Go.Proofs.YtnafdgcikaifmaaGreatA.filc_w Go.Proofs.YtnafdgcikaifmaaGreatA.elem_filc hm0
  obtain ⟨pl0, ob0, va0, pa0, sa0⟩ := Go.Proofs.YtnafdgcikaifmaaGreatA.parg_rowm Go.Proofs.YtnafdgcikaifmaaGreatA.filc_w (by decide) Go.Proofs.YtnafdgcikaifmaaGreatA.filc_sc hS0 (0)
  obtain ⟨a1, len1, cap1, rfl⟩ := okWide_slice Tryz.underlying27 (hval 1 27 v1 rfl rfl)
  have k1 := h1
  have lt1 : ∀ x ∈ p1, x.block < W.heap.size := by obtain ⟨m, hm⟩ := k1; exact DataW.trod_lt m _ _ _ hm
  have kk1 := k1
  obtain ⟨m1, hm1⟩ := kk1
  obtain ⟨zz1, hr1, hsz1_, hn1⟩ := Go.Proofs.YtnafdgcikaifmaaGreatA.arg_strs Tryz.underlying27 Tryz.underlying9 (by kernel_rfl) (of_decide_eq_true (by kernel_rfl)) hsz (j := 1) rfl rfl (hval 1 27 _ rfl rfl) h1
  have hS1 := Go.Proofs.YtnafdgcikaifmaaGreatA.slc_of_rowf hr1
  have hs1 : ∀ x ∈ zz1.take len1, x.size ≤ 140737488355328 := fun x hx => hsz1_ x (List.mem_of_mem_take hx)
  obtain ⟨z1, hz1_⟩ : ∃ z, z = zz1.take len1 := ⟨_, rfl⟩
  rw [← hz1_] at hS1 hs1
  have hl1 : z1.length ≤ 140737488355328 := by rw [hz1_, List.length_take]; omega
  obtain ⟨pl1, ob1, va1, pa1, sa1⟩ := Go.Proofs.YtnafdgcikaifmaaGreatA.parg_row (fun _ => rfl) hS1 (0 + [pl0].length)
  have i0 : Go.Proofs.YtnafdgcikaifmaaGreatA.InH ([ob0] ++ ([ob1] ++ [])) 0 ([ob0] ++ ([ob1] ++ [])) := Go.Proofs.YtnafdgcikaifmaaGreatA.InH.refl _
  have i1 : Go.Proofs.YtnafdgcikaifmaaGreatA.InH ([ob0] ++ ([ob1] ++ [])) (0 + [pl0].length) ([ob1] ++ []) := by rw [pa0.len]; exact i0.app.2
  clear hA0 hval0 hsz0 hsz
  refine (Go.Proofs.YtnafdgcikaifmaaGreatA.world_of_acallsP (P := Tryz.prog) (f := 4) (args := [va0, va1]) (args' := #[.slice a0 len0 cap0, .slice a1 len1 cap1]) (H := ([ob0] ++ ([ob1] ++ []))) (ls := ([pl0] ++ ([pl1] ++ []))) (v := .bool true) (.cons pa0 (.cons pa1 (.nil _))) rfl (Go.Proofs.YtnafdgcikaifmaaGreatA.plays_ok va0 z0 (sa0 _ i0.app.1) hs0 va1 z1 (sa1 _ i1.app.1))).mono fun e W' ⟨he, bel⟩ => ?_
  subst he
  exact ⟨_, rfl, _, _, _, [], _, [], hW', trodAll_mk1 (shut_bool Tryz.underlying4 _), (trodAll_cons_mk (Below.trod laidOut (by kernel_rfl) (of_decide_eq_true (by kernel_rfl)) k0 bel lt0) (trodAll_cons_mk (Below.trod laidOut (by kernel_rfl) (of_decide_eq_true (by kernel_rfl)) k1 bel lt1) trodAll_mk0)), rfl, bel.frame _, fun h => by cases h⟩
theorem over : Rows.storePlaysRow.holds Tryz.pinned (OpenSpec.ofChange Rows.storePlaysSpec) :=
  OpenClaim.holds_of_wide 4 Tryz.f4 rfl rfl rfl rfl rfl rfl rfl ⟨rfl, rfl, rfl, rfl, rfl⟩ rfl rfl rfl rfl rfl (by kernel_rfl) Tryz.func4 (by kernel_rfl)
    (of_decide_eq_true (by kernel_rfl)) (by unfold Func.isWrapper; first | (rw [if_pos (by decide +kernel)]; kernel_rfl) | (rw [if_neg (by decide +kernel)]; exact ⟨rfl, rfl⟩))
    (fun os started H enc _ => lifted os started H enc)
theorem proved : Rows.StorePlaysSaid := over
#print axioms proved
end Go.Proofs.YtnafdgcikaifmaaGreat.storePlays
namespace Go.Proofs.YtnafdgcikaifmaaGreat
/-- The row, under a short name, for the claim. -/
theorem storePlays_holds : Rows.StorePlaysSaid := storePlays.proved
end Go.Proofs.YtnafdgcikaifmaaGreat
