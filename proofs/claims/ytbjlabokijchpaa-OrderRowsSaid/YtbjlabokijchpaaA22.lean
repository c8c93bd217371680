/-
  From a law's arguments, slices among them, to abstract states.
-/
import Derived.Test.YtbjlabokijchpaaA20
namespace Go.Proofs.YtbjlabokijchpaaA
set_option linter.unusedVariables false
open Go Go.RowKit Go.Shelf
/-- The places of the arguments' blocks. -/
def rhoOf (ls : List (Option Loc)) : Ren := fun b => match ls[b]? with | some (some l) => .at l | _ => .none
theorem rhoOf_at {ls : List (Option Loc)} {b : Nat} {l : Loc} (h : rhoOf ls b = .at l) : ls[b]? = some (some l) := by
  unfold rhoOf at h
  split at h
  · cases h; assumption
  · cases h
theorem rhoOf_some {ls : List (Option Loc)} {b : Nat} {l : Loc} (h : ls[b]? = some (some l)) : rhoOf ls b = .at l := by unfold rhoOf; rw [h]
/-- A block of an argument, or none. -/
def ArgO (W : World) (ol : Option Loc) (o : AObj) : Prop :=
  (ol = none ∧ o = .none) ∨ ∃ lc vs, ol = some lc ∧ o = .cells false vs 1 ∧ lc.blk < W.heap.size ∧ ∀ ρ, ORel ρ lc W (.cells false vs 1)
def ArgOs (W : World) : List (Option Loc) → AHeap → Prop
  | [], [] => True
  | ol :: ls, o :: H => ArgO W ol o ∧ ArgOs W ls H
  | _, _ => False
theorem ArgOs.at {W : World} : ∀ {ls : List (Option Loc)} {H : AHeap}, ArgOs W ls H → ∀ (b : Nat) (ol : Option Loc), ls[b]? = some ol → ∃ o : AObj, H[b]? = some o ∧ ArgO W ol o
  | [], [], _, b, ol, h => by simp at h
  | [], _ :: _, h, _, _, _ => h.elim
  | _ :: _, [], h, _, _, _ => h.elim
  | x :: ls, o :: H, ⟨h1, h2⟩, b, ol, h => by
    cases b with
    | zero => simp at h; subst h; exact ⟨o, by simp, h1⟩
    | succ b => simpa using ArgOs.at h2 b ol (by simpa using h)
theorem ArgOs.at' {W : World} : ∀ {ls : List (Option Loc)} {H : AHeap}, ArgOs W ls H → ∀ (b : Nat) (o : AObj), H[b]? = some o → ∃ ol : Option Loc, ls[b]? = some ol ∧ ArgO W ol o
  | [], [], _, b, o, h => by simp at h
  | [], _ :: _, h, _, _, _ => h.elim
  | _ :: _, [], h, _, _, _ => h.elim
  | x :: ls, o' :: H, ⟨h1, h2⟩, b, o, h => by
    cases b with
    | zero => simp at h; subst h; exact ⟨x, by simp, h1⟩
    | succ b => simpa using ArgOs.at' h2 b o (by simpa using h)
theorem ArgOs.len {W : World} : ∀ {ls : List (Option Loc)} {H : AHeap}, ArgOs W ls H → ls.length = H.length
  | [], [], _ => rfl
  | [], _ :: _, h => h.elim
  | _ :: _, [], h => h.elim
  | x :: ls, o' :: H, ⟨h1, h2⟩ => by simp [ArgOs.len h2]
theorem ArgO.nwr {W : World} {ol : Option Loc} {o : AObj} (h : ArgO W ol o) : o.wr = false := by
  rcases h with ⟨_, rfl⟩ | ⟨lc, vs, _, rfl, _⟩ <;> rfl
theorem world_of_acallsN {P : Program} {f : FuncId} {args : List Value} {args' : Array Value} {H : AHeap} {ls : List (Option Loc)} {v : Value} {w : World} (hA : ArgOs w ls H) (ha : LRel (rhoOf ls) args args'.toList) (hv : Scalar v = true) (h : ACalls P f args H (Rets v H)) :
    Calls P f args' w fun e w' => e = .returned v ∧ Below w.heap.size w w' := by
  have hnw : ∀ b, ¬ wr H b := fun b ⟨o, h1, h2⟩ => by
    obtain ⟨ol, _, h3⟩ := hA.at' b o h1
    rw [h3.nwr] at h2; cases h2
  have hh : HRel (rhoOf ls) H w := by
    refine ⟨fun b hb => ?_, fun b l hb => ?_, fun b c l m _ _ _ hw => absurd hw (hnw b), fun g vs sz hg => ?_, fun b hb => ?_⟩
    · unfold rhoOf
      rw [List.getElem?_eq_none (by rw [hA.len]; exact hb)]
    · obtain ⟨o, h1, h2⟩ := hA.at b _ (rhoOf_at hb)
      rcases h2 with ⟨h3, _⟩ | ⟨lc, vs, h3, rfl, h4, h5⟩
      · cases h3
      · cases h3; exact ⟨_, h1, h4, h5 _⟩
    · obtain ⟨ol, _, h3⟩ := hA.at' g _ hg
      rcases h3 with ⟨_, h3⟩ | ⟨lc, vs, _, h3, _⟩ <;> cases h3
    · unfold rhoOf at hb
      split at hb <;> cases hb
  refine (h _ w args' hh ha).mono ?_
  rintro e w' ⟨v1, v', H', ρ', rfl, ⟨rfl, rfl⟩, k1, k2, k3, k4⟩
  rw [k1.scalar_eq hv]
  exact ⟨rfl, k3.os, k3.tape, k3.output, k3.size, fun k hk => k3.keep k hk fun ⟨b, l, _, _, hw⟩ => hnw b hw⟩
/-- A slice that came as an argument: its block, its value. -/
structure SArg {α : Type} (f : α → Value) (w : World) (v : Value) (l : List α) (b : Nat) (ol : Option Loc) (o : AObj) (va : Value) : Prop where
  obj : ArgO w ol o
  val : ∀ ρ : Ren, (∀ lc, ol = some lc → ρ b = .at lc) → VRel ρ va v
  sl : ∀ H : AHeap, H[b]? = some o → Sl f H va l
theorem sarg_of {α : Type} (f : α → Value) (hf : ∀ x, Scalar (f x) = true) {w : World} {a : Option Addr} {len cap : Nat} {zs : List α} (b : Nat)
    (hrow : (a = none ∧ len = 0 ∧ cap = 0) ∨ ∃ x, a = some x ∧ x.spot = none ∧ len ≤ cap ∧ zs.length = cap ∧ (∃ cs T fr, w.heap[x.block]? = some (.cells cs T fr)) ∧ ∀ i (h : i < zs.length), w.cell? (x.add i) = some (f zs[i])) :
    ∃ ol o va, SArg f w (.slice a len cap) (zs.take len) b ol o va := by
  rcases hrow with ⟨rfl, rfl, rfl⟩ | ⟨x, rfl, hsp, hl, hz, ⟨cs, T, fr, hb⟩, hcell⟩
  · exact ⟨none, .none, .slice none 0 0, .inl ⟨rfl, rfl⟩, fun ρ _ => .nilSlice, fun H _ => by rw [List.take_zero]; exact .nil⟩
  · have hlt : x.block < w.heap.size := (Array.getElem?_eq_some_iff.1 hb).1
    have hx : x = ⟨x.block, x.off, none⟩ := by cases x; simp at hsp; subst hsp; rfl
    have hc : ∀ i (h : i < zs.length), cs[x.off + i]? = some (f zs[i]) := fun i h => by
      have := hcell i h
      have e1 : x.add i = ⟨x.block, x.off + i, none⟩ := by
        rw [hx]
        unfold Addr.add
        split
        · subst i; rfl
        · rfl
      rw [e1] at this
      unfold World.cell? at this
      simp only [hb, Option.isSome_none, Bool.false_eq_true, if_false] at this
      exact this
    by_cases h0 : cap = 0
    · subst h0
      obtain rfl : len = 0 := by omega
      refine ⟨some ⟨x.block, 0, 0, 1⟩, .cells false [] 1, .slice (some ⟨b, 0, none⟩) 0 0, .inr ⟨_, [], rfl, rfl, hlt, fun ρ => ⟨rfl, cs, T, fr, hb, by simp, by simp, fun i hi => by simp at hi, fun h => by cases h⟩⟩, fun ρ hρ => ?_, fun H hH => ?_⟩
      · rw [hx]
        exact .slice (hρ _ rfl) (Nat.le_refl _) (Nat.le_refl _) (.inr rfl) (by simp)
      · rw [List.take_zero]
        exact .inr ⟨b, 0, 0, [], rfl, .inl ⟨false, hH⟩, by simp, by simp, fun i h => by simp at h⟩
    · have hsz : x.off + cap ≤ cs.size := by
        have := hc (cap - 1) (by omega)
        have := (Array.getElem?_eq_some_iff.1 this).1
        omega
      refine ⟨some ⟨x.block, x.off, x.off + cap, 1⟩, .cells false (zs.map f) 1, .slice (some ⟨b, 0, none⟩) len cap, .inr ⟨_, _, rfl, rfl, hlt, fun ρ => ⟨rfl, cs, T, fr, hb, by simp [hz], hsz, fun i hi => ?_, fun h => by cases h⟩⟩, fun ρ hρ => ?_, fun H hH => ?_⟩
      · have hi' : i < zs.length := by simpa using hi
        have h1 := hc i hi'
        have e1 : (zs.map f).getD i undef = f zs[i] := by simp [hi']
        have e2 : cs.getD (x.off + i) undef = f zs[i] := by rw [Array.getD_eq_getD_getElem?, h1]; rfl
        rw [e1]
        show VRel ρ (f zs[i]) (cs.getD (x.off + i) undef)
        rw [e2]
        exact .scalar (hf _) ρ
      · rw [hx]
        exact .slice (hρ _ rfl) hl (Nat.le_refl _) (.inl rfl) (by simp)
      · have hll : (zs.take len).length = len := by rw [List.length_take]; omega
        refine .inr ⟨b, 0, cap, zs.map f, by rw [hll], .inl ⟨false, hH⟩, by rw [hll]; simp; omega, by rw [hll]; exact hl, fun i h => ?_⟩
        rw [hll] at h
        simp [show i < zs.length by omega]
theorem LRel.cons' {ρ : Ren} {v v' : Value} {vs vs' : List Value} (h : VRel ρ v v') (k : LRel ρ vs vs') : LRel ρ (v :: vs) (v' :: vs') := .cons h k
end Go.Proofs.YtbjlabokijchpaaA
