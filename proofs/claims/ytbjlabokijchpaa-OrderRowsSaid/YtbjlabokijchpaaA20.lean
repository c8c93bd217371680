/-
  Ranges over functions, over a function's own blocks.
-/
import Derived.Test.YtbjlabokijchpaaA19
namespace Go.Proofs.YtbjlabokijchpaaA
set_option linter.unusedVariables false
open Go Go.RowKit Go.Shelf
section
variable {n : Nat} {P : Program} {N0 H0 L : AHeap} {n0 nt : Nat} {T : Nat → Value} {Q : AEx → ASt → Prop}
/-- What is owed behind the function that was ranged over. -/
def RangeL (n : Nat) (P : Program) (N0 H0 : AHeap) (n0 m : Nat) (lp : LoopState → Option Code → AObj) (nt : Nat) (T : Nat → Value) (Q : AEx → ASt → Prop) (H' : AHeap) : Prop :=
  ∃ L', H' = H0 ++ L' ∧ L'[m]? = some .mark ∧ ((L'[m + 1]? = some (lp .ready none) ∧ ∃ s2, Wk N0 ⟨nt, T, [n0 + m], H0 ++ L'.set (m + 1) .none⟩ s2 ∧ Q .normal s2) ∨
    ∃ c, L'[m + 1]? = some (lp .done (some c)) ∧ awp Fence.wide n P N0 c Q ⟨nt, T, [n0 + m], H0 ++ L'.set (m + 1) .none⟩)
theorem range_begin (h0 : H0.length = n0) {m : Nat} (hm : L.length = m) {t : Tmp} {gf : FuncId} {caps : Array Value} {ps : Array Tmp} {assign body : Code} (hg : T t = .func (.func gf) #[] caps) (hE : Enters P gf)
    (h : ∀ fn (lp : LoopState → Option Code → AObj), (∀ st pe, lp st pe = .loop st pe fn nt T ps assign body) → ACalls P gf (.func (.yield (n0 + (m + 1))) #[] #[] :: caps.toList) (H0 ++ (L ++ [.mark, lp .ready none])) (fun v H' => RangeL n P N0 H0 n0 m lp nt T Q H')) :
    awp Fence.wide n P N0 (.rangeFunc (.tmp t) ps assign body) Q ⟨nt, T, [], H0 ++ L⟩ := by
  subst hm
  have hl : (H0 ++ L).length = n0 + L.length := loc_len h0 rfl
  refine awp_range hg hE fun fn => ?_
  rw [hl, List.append_assoc]
  refine (h fn (fun st pe => .loop st pe fn nt T ps assign body) (fun _ _ => rfl)).mono ?_
  rintro v H' ⟨L', rfl, h1, h2⟩
  refine ⟨fun d hd => ?_, ?_⟩
  · simp only [List.mem_cons, List.not_mem_nil, or_false] at hd
    subst hd
    exact loc_get h0 h1
  · rcases h2 with ⟨h3, s2, h4, h5⟩ | ⟨c, h3, h4⟩
    · refine .inl ⟨loc_get h0 h3, s2, ?_, h5⟩
      rw [show n0 + L.length + 1 = n0 + (L.length + 1) from rfl, loc_set h0]; exact h4
    · refine .inr ⟨c, loc_get h0 h3, ?_⟩
      rw [show n0 + L.length + 1 = n0 + (L.length + 1) from rfl, loc_set h0]; exact h4
/-- How a round's body may be left. -/
def RoundL (H0 : AHeap) (m : Nat) (lp : LoopState → Option Code → AObj) (R : Bool → AHeap → Prop) : AEx → ASt → Prop
  | .normal, s => ∃ L, s.H = H0 ++ L ∧ L[m]? = some (lp .busy none) ∧ R true (H0 ++ L.set m (lp .ready none))
  | .ret, s => ∃ L, s.H = H0 ++ L ∧ L[m]? = some (lp .busy none) ∧ R false (H0 ++ L.set m (lp .done (some .ret)))
  | .exit id, s => ∃ L, s.H = H0 ++ L ∧ L[m]? = some (lp .busy none) ∧ R false (H0 ++ L.set m (lp .done (some (.exit id))))
  | .goto t, s => ∃ L, s.H = H0 ++ L ∧ L[m]? = some (lp .busy none) ∧ R false (H0 ++ L.set m (lp .done (some (.goto t))))
/-- yield is a round of a loop among the function's own blocks. -/
theorem ylds_roundL {m : Nat} {fn : FuncId} {ps : Array Tmp} {assign body : Code} {args : List Value} {R : Bool → AHeap → Prop} {lp : LoopState → Option Code → AObj} (hlp : ∀ st pe, lp st pe = .loop st pe fn nt T ps assign body) (h0 : H0.length = n0) (hl : L[m]? = some (lp .ready none)) (hps : ps.size = args.length) (hpn : ps.toList.all (fun p => Nat.blt p nt) = true)
    (h : ∀ l', Wd (Fence.wide.inRound l') → awp (Fence.wide.inRound l') 0 P (H0 ++ L) assign (AEx.then (fun s1 => ∃ T1 L1, s1 = ⟨nt, T1, [], H0 ++ L1⟩ ∧ L1[m]? = some (lp .ready none) ∧
      awp (Fence.wide.inRound l') 0 P (H0 ++ L) body (RoundL H0 m lp R) ⟨nt, T1, [], H0 ++ L1.set m (lp .busy none)⟩) (fun _ _ => False)) ⟨nt, setps T ps.toList args, [], H0 ++ L⟩) :
    Ylds P (.func (.yield (n0 + m)) #[] #[]) args (H0 ++ L) R := by
  have elp : lp = fun st pe => .loop st pe fn nt T ps assign body := by funext st pe; exact hlp st pe
  subst elp
  refine ylds_round (loc_get h0 hl) hps (fun p hp => ?_) fun l' => ?_
  · have := List.all_eq_true.1 hpn p hp
    exact Nat.le_of_ble_eq_true this
  have hw : Wd (Fence.wide.inRound l') := .inr ⟨_, rfl⟩
  have hh := h l' hw
  intro ρ a w hs
  refine wpIn_mono (hh ρ a w hs) ?_
  rintro e a' w' ⟨x, s', ρ', rfl, h2, h3, h4⟩
  refine ⟨x, s', ρ', rfl, ?_, h3, h4⟩
  cases x with
  | normal =>
    obtain ⟨T1, L1, rfl, k1, k2⟩ := h2
    refine ⟨rfl, loc_get h0 k1, ?_⟩
    show awp _ _ _ _ _ _ ⟨nt, T1, [], (H0 ++ L1).set (n0 + m) _⟩
    rw [loc_set h0]
    intro ρ a w hs
    refine wpIn_mono (k2 ρ a w hs) ?_
    rintro e a' w' ⟨x, s', ρ', rfl, h2, h3, h4⟩
    refine ⟨x, s', ρ', rfl, ?_, h3, h4⟩
    cases x <;> (obtain ⟨L2, e2, q1, q2⟩ := h2; refine ⟨by rw [e2]; exact loc_get h0 q1, ?_⟩; rw [e2, loc_set h0]; exact q2)
  | _ => exact h2.elim
/-- A return, one range having been made. -/
theorem ret_dropD {fn : Func} {QV : Value → AHeap → Prop} {vs : List Value} {v : Value} {s : ASt} (j : Nat) (hs : s = ⟨nt, T, [n0 + j], H0 ++ L⟩) (h0 : H0.length = n0) (hr : ARes P ⟨nt, T, [n0 + j], H0 ++ L.set j .none⟩ fn.results.toList vs) (hv : retv vs = v) (hn : noAddr v = true) (hQ : QV v H0) : Ret P H0 fn QV s := by
  subst hs hv
  have e : unmark [n0 + j] (H0 ++ L) = H0 ++ L.set j .none := loc_set h0 _
  have hg := gc_keep (H0 := H0) (L := L.set j .none) (L2 := []) rfl (js := []) .nil trivial
  rw [List.append_nil] at hg
  refine ⟨by simp, .inr ⟨vs, keep H0.length [], retv vs, H0, ?_, ?_, .noAddr hn, hQ⟩⟩
  · show ARes P { (⟨nt, T, [n0 + j], H0 ++ L⟩ : ASt) with H := unmark [n0 + j] (H0 ++ L) } _ _
    rw [e]; exact hr
  · show Gc H0 (keep H0.length []) (unmark [n0 + j] (H0 ++ L)) H0
    rw [e]; exact hg
end
end Go.Proofs.YtbjlabokijchpaaA
