/- The law DynAsks of the given program, for every input: it returns true, and changes nothing that was there before. -/
import Derived.Test.YthfndghgfabbjaaRows
import Derived.Test.YthfndghgfabbjaaM6
import Derived.WalkKit
import Derived.ProofKit
import Derived.OpenShut
import Derived.ShutString
import Derived.ChangeOld
import Derived.Below
import Derived.SizedLaws
import Derived.Carry
namespace Go.Proofs.Ythfndghgfabbjaa.dynAsks
open Go.ChangeShapes Go.WideShapes Go.ChangeAt Go.RowKit
open Go.ChangeMaps (open_string shut_string)
set_option linter.unusedVariables false
theorem own : ownKnob Try.prog.godebug = none := by kernel_rfl
theorem laidOut : laidOutB Try.prog = true := by kernel_rfl
theorem u64_bounds {x : Int} (h : (Lit.int .u64 x).wf = true) : 0 ≤ x ∧ x ≤ 18446744073709551615 := by
  simp [Lit.wf, IntKind.min, IntKind.max, IntKind.signed, IntKind.bits] at h; omega
theorem i64_bounds {x : Int} (h : (Lit.int .i64 x).wf = true) : -9223372036854775808 ≤ x ∧ x ≤ 9223372036854775807 := by
  simp [Lit.wf, IntKind.min, IntKind.max, IntKind.signed, IntKind.bits] at h; omega
set_option maxRecDepth 100000 in
theorem lifted (os : Os) (started : os.Started) (H : Type) (enc : TypeId × Value → H) :
    ReturnsInHanded {} Try.checked os 4 .any (Rows.dynAsksSpec.pre6 enc Try.prog Try.f4 Rows.dynAsksRow.domain false) (Rows.dynAsksSpec.post enc Try.prog Try.f4 false true false false) := by
  refine returnsInHanded_of_change_sized (C := Try.checked) own started (by kernel_rfl) Try.func4
    (ChangeSpec.witness6 (enc := enc) (C := Try.checked) false ⟨#[], #[.string ByteArray.empty, .slice none 0 0, .agg #[.int .u64 0, .int .u64 0, .int .u64 0]], []⟩ 8 (by kernel_rfl) (by kernel_rfl) (by kernel_rfl) (by kernel_rfl)) ?_
  intro W base args ds gs before hval0 hW hcnd hsz0 _
  have hsz : (DataW.weightsEach Try.prog (Try.f4.params.toList ++ Rows.dynAsksSpec.plain.varTypes Try.prog) (ds ++ gs)).all (· ≤ reachBytes) = true := hsz0
  have hval : ∀ (j : Nat) t v, Try.f4.params[j]? = some t → args[j]? = some v → Value.okWide Try.prog W .any base t v := hval0
  have hW' := hW
  obtain ⟨p, q, hA0, hV, rfl, hfz, hnd⟩ := hW
  have hA : DataW.TrodAll enc Try.prog W 0 (fun _ => true) true Try.f4.params.toList args.toList ds p := hA0
  rw [Try.params4] at hA hval hsz
  obtain ⟨v0, vs0, d0, ds0, p0, q0, hargs, rfl, rfl, h0, r0⟩ := trodAll_cons hA
  obtain ⟨v1, vs1, d1, ds1, p1, q1, rfl, rfl, rfl, h1, r1⟩ := trodAll_cons r0
  obtain ⟨v2, vs2, d2, ds2, p2, q2, rfl, rfl, rfl, h2, r2⟩ := trodAll_cons r1
  obtain ⟨rfl, rfl, rfl⟩ := trodAll_nil r2
  obtain rfl : args = #[v0, v1, v2] := by cases args; simp_all
  obtain ⟨rfl, rfl⟩ := trodVars_none hV
  obtain ⟨a0, rfl, rfl, rfl, y0⟩ := open_string Try.underlying9 (hval 0 9 v0 rfl rfl) h0
  have w0 : a0.size ≤ 140737488351232 := by
    have z := sized_string hsz (j := 0) (t := 9) rfl rfl
    rw [Array.length_toList] at z
    exact z
  obtain ⟨a1, len1, cap1, rfl⟩ := okWide_slice Try.underlying22 (hval 1 22 v1 rfl rfl)
  have k1 := h1
  have lt1 : ∀ x ∈ p1, x.block < W.heap.size := by obtain ⟨m, hm⟩ := k1; exact DataW.trod_lt m _ _ _ hm
  have kk1 := k1
  obtain ⟨m1, hm1⟩ := kk1
  obtain ⟨z1, hS1, hs1⟩ := Go.Proofs.YthfndghgfabbjaaA.trod_elems Try.underlying22 (by kernel_rfl) (by decide) Go.Proofs.YthfndghgfabbjaaA.entc_w Go.Proofs.YthfndghgfabbjaaA.elem_entc hm1
  obtain ⟨pl1, ob1, va1, pa1, sa1⟩ := Go.Proofs.YthfndghgfabbjaaA.parg_rowm Go.Proofs.YthfndghgfabbjaaA.entc_w (by decide) Go.Proofs.YthfndghgfabbjaaA.entc_sc hS1 (0)
  obtain ⟨cs2, rfl, hcs2⟩ := Go.Proofs.YthfndghgfabbjaaA.okWide_array Try.underlying50 (hval 2 50 v2 rfl rfl)
  obtain ⟨c2_0, c2_1, c2_2, rfl⟩ := Go.Proofs.YthfndghgfabbjaaA.arr_three (hcs2.trans (by kernel_rfl))
  have k2 := h2
  have lt2 : ∀ x ∈ p2, x.block < W.heap.size := by obtain ⟨m, hm⟩ := k2; exact DataW.trod_lt m _ _ _ hm
  have kk2 := k2
  obtain ⟨m2, hm2⟩ := kk2
  obtain ⟨a2_0, e2_0, w2_0⟩ := Go.Proofs.YthfndghgfabbjaaA.arr_u64 Try.underlying50 (by kernel_rfl) Try.underlying25 hm2 (i := 0) (by decide)
  obtain ⟨a2_1, e2_1, w2_1⟩ := Go.Proofs.YthfndghgfabbjaaA.arr_u64 Try.underlying50 (by kernel_rfl) Try.underlying25 hm2 (i := 1) (by decide)
  obtain ⟨a2_2, e2_2, w2_2⟩ := Go.Proofs.YthfndghgfabbjaaA.arr_u64 Try.underlying50 (by kernel_rfl) Try.underlying25 hm2 (i := 2) (by decide)
  obtain rfl : c2_0 = _ := Option.some.inj e2_0
  obtain rfl : c2_1 = _ := Option.some.inj e2_1
  obtain rfl : c2_2 = _ := Option.some.inj e2_2
  have pa2 := Go.Proofs.YthfndghgfabbjaaA.parg_sc (w := W) (vs := [.int .u64 ((a2_0 : Nat) : Int), .int .u64 ((a2_1 : Nat) : Int), .int .u64 ((a2_2 : Nat) : Int)]) (fun v hv => by simp at hv; rcases hv with rfl | rfl | rfl <;> rfl) (0 + [pl1].length)
  have i0 : Go.Proofs.YthfndghgfabbjaaA.InH ([] ++ ([ob1] ++ ([] ++ []))) 0 ([] ++ ([ob1] ++ ([] ++ []))) := Go.Proofs.YthfndghgfabbjaaA.InH.refl _
  have i1 : Go.Proofs.YthfndghgfabbjaaA.InH ([] ++ ([ob1] ++ ([] ++ []))) (0) ([ob1] ++ ([] ++ [])) := by exact i0.app.2
  have i2 : Go.Proofs.YthfndghgfabbjaaA.InH ([] ++ ([ob1] ++ ([] ++ []))) (0 + [pl1].length) ([] ++ []) := by rw [pa1.len]; exact i1.app.2
  clear hA0 hval0 hsz0 hsz
  refine (Go.Proofs.YthfndghgfabbjaaA.world_of_acallsP (P := Try.prog) (f := 4) (args := [.string a0, va1, .agg #[.int .u64 ((a2_0 : Nat) : Int), .int .u64 ((a2_1 : Nat) : Int), .int .u64 ((a2_2 : Nat) : Int)]]) (args' := #[.string a0, .slice a1 len1 cap1, .agg #[.int .u64 ((a2_0 : Nat) : Int), .int .u64 ((a2_1 : Nat) : Int), .int .u64 ((a2_2 : Nat) : Int)]]) (H := ([] ++ ([ob1] ++ ([] ++ [])))) (ls := ([] ++ ([pl1] ++ ([] ++ [])))) (v := .bool true) (.cons (.scalar _ rfl) (.cons pa1 (.cons pa2 (.nil _)))) rfl (Go.Proofs.YthfndghgfabbjaaA.dynAsks_ok a0 (by omega) va1 z1 (sa1 _ i1.app.1) hs1 a2_0 a2_1 a2_2 w2_0 w2_1 w2_2)).mono fun e W' ⟨he, bel⟩ => ?_
  subst he
  exact ⟨_, rfl, _, _, _, [], _, [], hW', trodAll_mk1 (shut_bool Try.underlying4 _), (trodAll_cons_mk (shut_string Try.underlying9 y0) (trodAll_cons_mk (Below.trod laidOut (by kernel_rfl) (of_decide_eq_true (by kernel_rfl)) k1 bel lt1) (trodAll_cons_mk (Below.trod laidOut (by kernel_rfl) (of_decide_eq_true (by kernel_rfl)) k2 bel lt2) trodAll_mk0))), rfl, bel.frame _, fun h => by cases h⟩
theorem over : Rows.dynAsksRow.holds Try.pinned (OpenSpec.ofChange Rows.dynAsksSpec) :=
  OpenClaim.holds_of_wide 4 Try.f4 rfl rfl rfl rfl rfl rfl rfl ⟨rfl, rfl, rfl, rfl, rfl⟩ rfl rfl rfl rfl rfl (by kernel_rfl) Try.func4 (by kernel_rfl)
    (of_decide_eq_true (by kernel_rfl)) (by unfold Func.isWrapper; first | (rw [if_pos (by decide +kernel)]; kernel_rfl) | (rw [if_neg (by decide +kernel)]; exact ⟨rfl, rfl⟩))
    (fun os started H enc _ => lifted os started H enc)
theorem proved : Rows.DynAsksSaid := over
#print axioms proved
end Go.Proofs.Ythfndghgfabbjaa.dynAsks
namespace Go.Proofs.Ythfndghgfabbjaa
/-- The row, under a short name, for the claim. -/
theorem dynAsks_holds : Rows.DynAsksSaid := dynAsks.proved
end Go.Proofs.Ythfndghgfabbjaa
