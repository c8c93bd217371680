/-
  Ranges over functions, over blocks that bear names; what calls have turned.
-/
import Derived.Test.YtbjlabokijchpaaB3
namespace Go.Proofs.YtbjlabokijchpaaA
set_option linter.unusedVariables false
open Go Go.RowKit Go.Shelf
section
variable {n : Nat} {P : Program} {N0 : AHeap} {nt : Nat} {T : Nat → Value} {D : List Nat} {Q : AEx → ASt → Prop}
/-- What is owed behind the function that was ranged over. -/
def RangeB (n : Nat) (P : Program) (N0 : AHeap) (d l : Nat) (lp : LoopState → Option Code → AObj) (nt : Nat) (T : Nat → Value) (D : List Nat) (Q : AEx → ASt → Prop) (H' : AHeap) : Prop :=
  (∀ e ∈ d :: D, H'[e]? = some .mark) ∧ ((H'[l]? = some (lp .ready none) ∧ ∃ s2, Wk N0 ⟨nt, T, d :: D, H'.set l .none⟩ s2 ∧ Q .normal s2) ∨ ∃ c, H'[l]? = some (lp .done (some c)) ∧ awp Fence.wide n P N0 c Q ⟨nt, T, d :: D, H'.set l .none⟩)
theorem range_st {H0 : AHeap} {X : Nat → Prop} {Z : Rs} {H : AHeap} {F : List (Nat × AObj)} (hS : St H0 X Z H F) {t : Tmp} {gf : FuncId} {caps : Array Value} {ps : Array Tmp} {assign body : Code} (hg : T t = .func (.func gf) #[] caps) (hE : Enters P gf)
    (h : ∀ fn (lp : LoopState → Option Code → AObj) d l H', (∀ st pe, lp st pe = .loop st pe fn nt T ps assign body) → H.length ≤ d → St H0 X Z H' ((l, lp .ready none) :: (d, .mark) :: F) → ACalls P gf (.func (.yield l) #[] #[] :: caps.toList) H' (fun v H' => RangeB n P N0 d l lp nt T D Q H')) :
    awp Fence.wide n P N0 (.rangeFunc (.tmp t) ps assign body) Q ⟨nt, T, D, H⟩ := by
  refine awp_range hg hE fun fn => ?_
  have h1 := (hS.push .mark).push (.loop .ready none fn nt T ps assign body)
  rw [List.length_append, List.append_assoc] at h1
  exact h fn (fun st pe => .loop st pe fn nt T ps assign body) H.length (H.length + 1) _ (fun _ _ => rfl) (Nat.le_refl _) h1
/-- How a round's body may be left. -/
def RoundB (l : Nat) (lp : LoopState → Option Code → AObj) (R : Bool → AHeap → Prop) : AEx → ASt → Prop
  | .normal, s => s.H[l]? = some (lp .busy none) ∧ R true (s.H.set l (lp .ready none))
  | .ret, s => s.H[l]? = some (lp .busy none) ∧ R false (s.H.set l (lp .done (some .ret)))
  | .exit id, s => s.H[l]? = some (lp .busy none) ∧ R false (s.H.set l (lp .done (some (.exit id))))
  | .goto t, s => s.H[l]? = some (lp .busy none) ∧ R false (s.H.set l (lp .done (some (.goto t))))
/-- yield is a round of a loop. -/
theorem ylds_roundB {H : AHeap} {l : Nat} {fn : FuncId} {ps : Array Tmp} {assign body : Code} {args : List Value} {R : Bool → AHeap → Prop} {lp : LoopState → Option Code → AObj} (hlp : ∀ st pe, lp st pe = .loop st pe fn nt T ps assign body) (hl : H[l]? = some (lp .ready none)) (hps : ps.size = args.length) (hpn : ps.toList.all (fun p => Nat.blt p nt) = true)
    (h : ∀ l', Wd (Fence.wide.inRound l') → awp (Fence.wide.inRound l') 0 P H assign (AEx.then (fun s1 => ∃ T1 H1, s1 = ⟨nt, T1, [], H1⟩ ∧ H1[l]? = some (lp .ready none) ∧
      awp (Fence.wide.inRound l') 0 P H body (RoundB l lp R) ⟨nt, T1, [], H1.set l (lp .busy none)⟩) (fun _ _ => False)) ⟨nt, setps T ps.toList args, [], H⟩) :
    Ylds P (.func (.yield l) #[] #[]) args H R := by
  have elp : lp = fun st pe => .loop st pe fn nt T ps assign body := by funext st pe; exact hlp st pe
  subst elp
  refine ylds_round hl hps (fun p hp => ?_) fun l' => ?_
  · have := List.all_eq_true.1 hpn p hp
    exact Nat.le_of_ble_eq_true this
  have hw : Wd (Fence.wide.inRound l') := .inr ⟨_, rfl⟩
  have hh := h l' hw
  intro ρ a w hs
  refine wpIn_mono (hh ρ a w hs) ?_
  rintro e a' w' ⟨x, s', ρ', rfl, h2, h3, h4⟩
  refine ⟨x, s', ρ', rfl, ?_, h3, h4⟩
  cases x with
  | normal =>
    obtain ⟨T1, H1, rfl, k1, k2⟩ := h2
    refine ⟨rfl, k1, ?_⟩
    intro ρ a w hs
    refine wpIn_mono (k2 ρ a w hs) ?_
    rintro e a' w' ⟨x, s', ρ', rfl, h2, h3, h4⟩
    refine ⟨x, s', ρ', rfl, ?_, h3, h4⟩
    cases x <;> exact h2
  | _ => exact h2.elim
end
section
variable {H0 : AHeap} {X : Nat → Prop} {Z : Rs} {H H' : AHeap} {F F' : List (Nat × AObj)}
theorem St.nej (h : St H0 X Z H F) {i j b c : Nat} {o p : AObj} (hi : F[i]? = some (b, o)) (hj : F[j]? = some (c, p)) (hne : i ≠ j) : b ≠ c := h.ne hi hj hne
theorem St.kept (h : St H0 X Z H F) {Y : Nat → Prop} (k : Kp Y H H') {j b : Nat} {o : AObj} (hj : F[j]? = some (b, o)) (hy : ¬ Y b) : H'[b]? = some o := by
  have h1 := h.getj hj
  rw [k.get _ (lt_of_some h1) hy]; exact h1
/-- How some blocks stand. -/
def AllAt (H : AHeap) : List (Nat × AObj) → Prop
  | [] => True
  | p :: l => H[p.1]? = some p.2 ∧ AllAt H l
theorem AllAt.mem {H : AHeap} : ∀ {l : List (Nat × AObj)}, AllAt H l → ∀ p ∈ l, H[p.1]? = some p.2
  | [], _, p, hp => by cases hp
  | q :: l, h, p, hp => by
    rcases List.mem_cons.1 hp with rfl | hp
    · exact h.1
    · exact AllAt.mem h.2 p hp
/-- Behind a call that has turned some of the blocks. -/
theorem St.turnS (h : St H0 X Z H F) {Y : Nat → Prop} (k : Kp Y H H') (F' : List (Nat × AObj)) (hk : F'.map (·.1) = F.map (·.1)) (ha : AllAt H' F') (hY : ∀ b, Y b → b ∈ F.map (·.1)) : St H0 X Z H' F' :=
  h.turn k F' (by rw [hk]; exact h.nd) (fun p hp => .inr ⟨ha.mem p hp, .inr (by rw [← hk]; exact List.mem_map_of_mem hp)⟩) hY
end
end Go.Proofs.YtbjlabokijchpaaA
