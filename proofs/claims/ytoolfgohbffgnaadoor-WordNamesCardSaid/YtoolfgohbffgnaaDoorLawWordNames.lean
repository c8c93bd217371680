-- Written by a program of this session (a changed copy of the print of the kit). Not trusted: Lean checks it.
import Derived.Test.YtoolfgohbffgnaaDoorRows
import Derived.Test.YtoolfgohbffgnaaDoorPNnx6
import Derived.Test.YtoolfgohbffgnaaDoorPureWordNames
import Derived.WalkKit
import Derived.ProofKit
import Derived.Lib.SmallJoins
import Derived.OpenShut
import Derived.ShutString
import Derived.ChangeOld
import Derived.Below
import Derived.SizedLaws
import Derived.SevenTiedAt
import Derived.Test.YtoolfgohbffgnaaDoorTie
import Derived.Test.YtoolfgohbffgnaaDoorCards
import Derived.Test.YtoolfgohbffgnaaDoorLaid
namespace Go.Proofs.YtoolfgohbffgnaaDoor.wordNames
open Go.ChangeShapes Go.WideShapes Go.ChangeAt Go.RowKit Go.Joins
open Go.ChangeMaps (open_string shut_string)
set_option linter.unusedVariables false
theorem own : ownKnob Tryd.prog.godebug = none := by kernel_rfl
set_option maxRecDepth 100000 in
theorem lifted (os : Os) (started : os.Started) (H : Type) (enc : TypeId × Value → H) :
    ReturnsInHanded {} Tryd.checked os 7 .any (fun w args => (Rows.wordNamesSpec.pre enc Tryd.prog Tryd.f7 Rows.wordNamesRow.domain false w args ∧ laidMet Tryd.prog Rows.wordNamesRow.laid w) ∧ sizedMet enc Tryd.prog Tryd.f7 (OpenSpec.ofChange Rows.wordNamesSpec) false w args) (Rows.wordNamesSpec.post enc Tryd.prog Tryd.f7 false true false false) := by
  refine returnsInHanded_of_change_and (X := fun w _ => laidMet Tryd.prog Rows.wordNamesRow.laid w) (fun _ _ _ hh h => h.of_heap hh) (C := Tryd.checked) own started (by kernel_rfl) Tryd.func7
    (ChangeSpec.witness_at (os := os) (X := fun w _ => laidMet Tryd.prog Rows.wordNamesRow.laid w) (enc := enc) (C := Tryd.checked) false (Go.Proofs.YtoolfgohbffgnaaDoorGlob.laidWorld os) #[.int .i64 0, .string ByteArray.empty] 8 rfl (by kernel_rfl) (by kernel_rfl) (by kernel_rfl) (by kernel_rfl) (by kernel_rfl) (Go.Proofs.YtoolfgohbffgnaaDoorGlob.laid_met os _)) ?_
  intro W base args ds gs before hval0 hW hcnd hsz0 hL _
  have hG : Go.Proofs.YtoolfgohbffgnaaDoorGlob.Is W := Go.Proofs.YtoolfgohbffgnaaDoorGlob.Is.of_laid hL
  clear hL
  have hsz : (DataW.weightsEach Tryd.prog (Tryd.f7.params.toList ++ Rows.wordNamesSpec.plain.varTypes Tryd.prog) (ds ++ gs)).all (· ≤ reachBytes) = true := hsz0
  have hval : ∀ (j : Nat) t v, Tryd.f7.params[j]? = some t → args[j]? = some v → Value.okWide Tryd.prog W .any base t v := hval0
  have hW' := hW
  obtain ⟨p, q, hA0, hV, rfl, hfz, hnd⟩ := hW
  have hA : DataW.TrodAll enc Tryd.prog W 0 (fun _ => true) true Tryd.f7.params.toList args.toList ds p := hA0
  rw [Tryd.params7] at hA hval hsz
  obtain ⟨v0, vs0, d0, ds0, p0, q0, hargs, rfl, rfl, h0, r0⟩ := trodAll_cons hA
  obtain ⟨v1, vs1, d1, ds1, p1, q1, rfl, rfl, rfl, h1, r1⟩ := trodAll_cons r0
  obtain ⟨rfl, rfl, rfl⟩ := trodAll_nil r1
  obtain rfl : args = #[v0, v1] := by cases args; simp_all
  obtain ⟨rfl, rfl⟩ := trodVars_none hV
  obtain ⟨a0, rfl, rfl, rfl, w0⟩ := open_int Tryd.underlying3 (hval 0 3 v0 rfl rfl) h0
  obtain ⟨a1, rfl, rfl, rfl, y1⟩ := open_string Tryd.underlying9 (hval 1 9 v1 rfl rfl) h1
  have w1 : a1.size ≤ 140737488351232 := by
    have z := sized_string hsz (j := 1) (t := 9) rfl rfl
    rw [Array.length_toList] at z
    exact z
  clear hA0 hval0 hsz0 hsz
  refine (PNn.turnbucklelaw05_WordNames.walk Pure.WordNames a0 a1 W w0 w1 hG).mono fun e W' ⟨he, bel⟩ => ?_
  subst he
  exact ⟨_, rfl, _, _, _, [], _, [], hW', trodAll_mk1 (shut_bool Tryd.underlying4 _), (trodAll_cons_mk (shut_int Tryd.underlying3 w0) (trodAll_cons_mk (shut_string Tryd.underlying9 y1) trodAll_mk0)), rfl, bel.frame _, fun h => by cases h⟩
theorem over : Rows.wordNamesRow.holds Tryd.pinned (OpenSpec.ofChange Rows.wordNamesSpec) :=
  OpenClaim.holds_of_wide 7 Tryd.f7 rfl rfl rfl rfl rfl rfl rfl ⟨rfl, rfl, rfl, rfl, rfl⟩ rfl rfl rfl rfl rfl (by kernel_rfl) Tryd.func7 (by kernel_rfl)
    (of_decide_eq_true (by kernel_rfl)) (by unfold Func.isWrapper; first | (rw [if_pos (by decide +kernel)]; kernel_rfl) | (rw [if_neg (by decide +kernel)]; exact ⟨rfl, rfl⟩))
    (fun os started H enc _ => lifted os started H enc)
theorem proved : Rows.WordNamesSaid := over
#print axioms proved
end Go.Proofs.YtoolfgohbffgnaaDoor.wordNames
namespace Go.Proofs.YtoolfgohbffgnaaDoor
/-- The row, under a short name, for the claim. -/
theorem wordNames_holds : Rows.WordNamesSaid := wordNames.proved
/-- The tied card: the row, its one listed variable tied to the program's text. -/
theorem wordNames_card : Rows.WordNamesCardSaid :=
  Claim7.holds_tied_plain_at .later [] [.widerDeep] true (true, "c830c46b7e78c655a48da6df24d4ea22f0119370fe9755dae2788f61510972d8") false
    wordNames_holds (fun _ h => by cases h) (by kernel_rfl) (fun _ h => by cases h) wordNames_row_tie rfl ⟨rfl, rfl⟩ (by kernel_rfl) rfl
    (fun f fn hf hfn => by
      obtain rfl : f = 7 := Option.some.inj ((show Tryd.prog.funcNamed "turnbuckle/turnbucklelaw05.WordNames" = some 7 by kernel_rfl).symm.trans hf) |>.symm
      obtain rfl : fn = Tryd.f7 := (Option.some.inj (Tryd.func7.symm.trans hfn)).symm
      exact ⟨by kernel_rfl, fun j t ht => by
        rw [Tryd.params7] at ht
        have hm : t ∈ [3, 9] := by have := Array.mem_of_getElem? ht; simp at this ⊢; omega
        have hall : ([3, 9].all fun u => !Tryd.prog.wantsStandIn u) = true := by kernel_rfl
        exact (show Tryd.prog.wantsStandIn t = false by simpa using List.all_eq_true.1 hall t hm)⟩)
    (by kernel_rfl)
#print axioms wordNames_card
end Go.Proofs.YtoolfgohbffgnaaDoor
