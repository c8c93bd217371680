/-
  What any bytes define.
-/
import Derived.Test.YtoaliamemkjfhaaVersPure
import Derived.Test.YtoaliamemkjfhaaPAllx10
namespace Go.Proofs.Ytoaliamemkjfhaa.Pure
open Go Go.RowKit Go.Proofs.Ytoaliamemkjfhaa.PAll Go.Proofs.YtoaliamemkjfhaaW.PrintWords Go.Proofs.YtoaliamemkjfhaaW.PrintLast Go.Proofs.Ytoaliamemkjfhaa.Nice Go.Proofs.Ytoaliamemkjfhaa.Vers
set_option linter.unusedVariables false

theorem same_loop (xs : List (Int × ByteArray)) (hx : xs.length ≤ 64) : ∀ (d i : Nat), i + d = xs.length → Ev (fun k => turnbucklelaw12_VersDefs.l0 k (xs.map S38of) (xs.map S37of) (i : Int)) true := by
  intro d
  induction d with
  | zero =>
    intro i hi
    refine Ev.step (f := fun _ => some true) (fun k => ?_) (Ev.now _)
    simp only [turnbucklelaw12_VersDefs.l0]
    rw [if_neg (by rw [List.length_map]; omega)]
  | succ d ih =>
    intro i hi
    have wi : wrap64 ((i : Int) + 1) = ((i + 1 : Nat) : Int) := by rw [w64 (by omega) (by omega)]; omega
    refine Ev.step (fun k => ?_) (ih (i + 1) (by omega))
    simp only [turnbucklelaw12_VersDefs.l0]
    have h : i < xs.length := by omega
    have g38 : rd_T38 (xs.map S38of) (i : Int) = S38of xs[i] := by
      unfold rd_T38
      rw [Int.toNat_natCast, List.getD_eq_getElem?_getD, List.getElem?_map, List.getElem?_eq_getElem h]
      rfl
    have g37 : rd_T37 (xs.map S37of) (i : Int) = S37of xs[i] := by
      unfold rd_T37
      rw [Int.toNat_natCast, List.getD_eq_getElem?_getD, List.getElem?_map, List.getElem?_eq_getElem h]
      rfl
    rw [if_pos (by rw [List.length_map]; omega), if_pos (by omega), if_pos (by rw [List.length_map]; omega), g38, g37, wi, if_neg (by simp [S38of, S37of])]
theorem run_len (b names : ByteArray) : ∀ (m a : Nat) (xs : List (Int × ByteArray)), (run b names m a xs).1.length ≤ xs.length + m
  | 0, a, xs => Nat.le_refl _
  | m + 1, a, xs => by
    unfold run
    split
    · refine Nat.le_trans (run_len b names m _ _) ?_
      simp; omega
    · exact Nat.zero_le _
theorem VersDefs : turnbucklelaw12_VersDefs.Pure := by
  intro b names n hb hn hw
  have hn64 := i64_bounds hw
  apply Ev.rounds
  unfold turnbucklelaw12_VersDefs.f
  refine Ev.bind law_speaks ?_
  refine Ev.congr (fun k => if_pos rfl) ?_
  have long : Ev (fun k => turnbucklelaw12_VersDefs.j0 k b names n true) true := Ev.step (f := fun _ => some true) (fun k => by simp only [turnbucklelaw12_VersDefs.j0, if_true]) (Ev.now _)
  by_cases h : (b.size : Int) > 4000
  · exact Ev.congr (fun k => if_pos h) long
  · refine Ev.congr (fun k => if_neg h) ?_
    by_cases h2 : (names.size : Int) > 1000
    · rw [decide_eq_true h2]; exact long
    · rw [decide_eq_false h2]
      -- both answers
      have both : ∃ (xs : List (Int × ByteArray)) (e p : Int), xs.length ≤ 64 ∧ Ev (fun k => vers_Defs.f k b names n) (xs.map S38of, e, p, ⟨#[]⟩) ∧ Ev (fun k => turnbuckleref12_Defs.f k b names n) (xs.map S37of, e, p) := by
        by_cases c : n < 0 ∨ n > 64
        · refine ⟨[], 6, 0, by decide, ?_, ?_⟩
          · unfold vers_Defs.f
            by_cases c1 : n < 0
            · simp only [if_pos c1]; exact Ev.now _
            · simp only [if_neg c1, if_pos (show n > 64 by omega)]; exact Ev.now _
          · unfold turnbuckleref12_Defs.f
            have hj : Ev (fun k => turnbuckleref12_Defs.j0 k b names n true) (([] : List S37), 6, 0) := Ev.step (f := fun _ => some (([] : List S37), 6, 0)) (fun k => by simp only [turnbuckleref12_Defs.j0, if_true]) (Ev.now _)
            by_cases c1 : n < 0
            · simp only [if_pos c1]; exact hj
            · simp only [if_neg c1, decide_eq_true (show n > 64 by omega)]; exact hj
        · obtain ⟨m, rfl⟩ := Int.eq_ofNat_of_zero_le (show 0 ≤ n by omega)
          refine ⟨(run b names m 0 []).1, (run b names m 0 []).2.1, ((run b names m 0 []).2.2 : Nat), ?_, defs_ev b names m hb hn (by omega), rdefs_ev b names m hb hn (by omega)⟩
          have := run_len b names m 0 []
          simp only [List.length_nil] at this
          omega
      obtain ⟨xs, e, p, hx, h1, h3⟩ := both
      refine Ev.step (f := fun k => (vers_Defs.f k b names n).bind fun bt178 => ((turnbuckleref12_Defs.f k b names n).bind fun bt185 => (if bt178.2.1 = bt185.2.1 then (if bt178.2.2.1 = bt185.2.2 then (turnbucklelaw12_VersDefs.j1 k bt178.1 bt185.1 ((bt178.1.length : Int) != (bt185.1.length : Int))) else (turnbucklelaw12_VersDefs.j1 k bt178.1 bt185.1 true)) else (turnbucklelaw12_VersDefs.j1 k bt178.1 bt185.1 true)))) (fun k => ?_) ?_
      · simp only [turnbucklelaw12_VersDefs.j0, Bool.false_eq_true, if_false]
      · refine Ev.bind h1 ?_
        refine Ev.bind h3 ?_
        simp only [if_true]
        have hl : (((xs.map S38of).length : Int) != ((xs.map S37of).length : Int)) = false := by simp
        rw [hl]
        refine Ev.step (fun k => ?_) (same_loop xs hx xs.length 0 (by omega))
        simp only [turnbucklelaw12_VersDefs.j1, Bool.false_eq_true, if_false]
        rfl
end Go.Proofs.Ytoaliamemkjfhaa.Pure
