/-
  A round of a range over a function, walked by the plain words: what holds of a list of operations in a plain frame holds of it in a round's frame, where none of them is a defer statement. And the law of the statement, its elements told by their places.
-/
import Derived.RangeFuncNested
import Derived.RangeFuncBound
import Derived.RangeFuncCalls
import Derived.RangeFuncLeaves
import Derived.Shelf.Abstract
import Derived.WalkKit
import Derived.OwnWalkIn
import Derived.TacticsInMore
import Derived.LoopNIn
import Derived.LoopIn
namespace Go.Proofs.YtoaliamemkjfhaaLift
set_option linter.unusedVariables false
open Go Go.RowKit Go.Shelf

/-- The widest fence, in a round of loop l. -/
abbrev RW (l : Nat) : Fence := Fence.wide.inRound l

def noDefer (ops : List Oper) : Bool := ops.all fun o => match o.op with | .defer _ => false | _ => true
theorem noDefer_at {ops : List Oper} (h : noDefer ops = true) {o : Oper} (ho : o ∈ ops) (c : Call) : o.op ≠ .defer c := by
  intro e
  have := (List.all_eq_true.1 h) o ho
  rw [e] at this
  cases this

def NoOut (Q : Exit → Act → World → Prop) : Prop := ∀ a w, ¬ Q .outgrown a w
theorem NoOut.then {K : Act → World → Prop} {Q : Exit → Act → World → Prop} (h : NoOut Q) : NoOut (Exit.then K Q) := fun a w => h a w
theorem NoOut.inBlock {id : Nat} {Q : Exit → Act → World → Prop} (h : NoOut Q) : NoOut (Exit.inBlock id Q) := fun a w => h a w
theorem NoOut.out {Q : Exit → Act → World → Prop} (h : NoOut Q) : ¬ LetsOut Q := fun ⟨a, w, q⟩ => h a w q

variable {P : Program} {n l : Nat}
theorem op_round {o : Oper} {a : Act} {w : World} {K : Act → World → Prop} {Q : Exit → Act → World → Prop} (hd : ∀ c, o.op ≠ .defer c) (h : o.wp P a w K Q) : o.wpIn (RW l) n P a w K Q := by
  refine ⟨fun _ _ => trivial, ?_⟩
  rw [Oper.semAt_eq _ _ _ hd]
  simp only [Oper.wp] at h
  cases hr : (execOp a.eval o).run P w with
  | ok x w' =>
    rw [hr] at h
    cases x with
    | value v => exact h
    | skip => exact h
    | defer d => exact h
    | enter f args => exact ⟨fun hd => by simp [Fence.wide] at hd, CallsIn.inRound l (callsIn_wide.2 h)⟩
    | row row args =>
      refine ⟨fun hd => by simp [Fence.wide] at hd, fun c cs _ => ?_⟩
      obtain ⟨v, w1, hR, hs⟩ := h c cs
      exact ⟨v, w1, hR, stepsIn_wide.2 hs⟩
    | _ => exact h.elim
  | halt x w' =>
    rw [hr] at h
    cases x with
    | panic v => exact h
    | _ => exact h.elim

theorem list_round {ops : Array Oper} {Q : Exit → Act → World → Prop} (hQ : NoOut Q) : ∀ (lst : List Oper), noDefer lst = true → ∀ (a : Act) (w : World), wpList P ops Q lst a w → wpListIn (RW l) n P ops Q lst a w
  | [], _, _, _, h => h
  | o :: rest, hd, a, w, h => by
    have ih := list_round (ops := ops) hQ rest (by simp [noDefer] at hd ⊢; exact hd.2)
    unfold wpList at h
    unfold wpListIn
    split at h
    · rename_i hw
      rw [if_pos hw]
      rcases h with h | ⟨_, h⟩
      · exact op_round (noDefer_at hd List.mem_cons_self) (Oper.wp_mono (fun a w => ih a w) h)
      · exact absurd h hQ.out
    · rename_i hw
      rw [if_neg hw]
      exact ⟨fun _ _ => trivial, ih _ _ h⟩

/-- A region that draws no order. -/
theorem round_region {id : Nat} {lst : List Oper} {Q : Exit → Act → World → Prop} {a : Act} {w : World} (hd : noDefer lst = true) (hQ : NoOut Q) (h : wpList P lst.toArray Q lst a w) :
    (Code.region id lst.toArray false).wpIn (RW l) n P Q a w := wpIn_region_lit (list_round hQ lst hd a w h)
/-! ### The statement 'for .. := range f' -/
/-- All cells, and all that lies below B, lie as they lay. -/
structure Calm (B : Nat) (A A' : World) : Prop where
  os : A'.os = A.os
  tape : A'.tape = A.tape
  output : A'.output = A.output
  size : A.heap.size ≤ A'.heap.size
  block : ∀ k o, A.heap[k]? = some o → (o.isCells = true ∨ k < B) → A'.heap[k]? = some o
theorem Calm.of_below {B : Nat} {A A' : World} (h : Below A.heap.size A A') : Calm B A A' :=
  ⟨h.os, h.tape, h.output, h.size, fun k o ho _ => (h.block k (Array.getElem?_eq_some_iff.1 ho).1).trans ho⟩
theorem Calm.putObj {B : Nat} {A : World} {r : Nat} {o o' : Obj} (ho : A.heap[r]? = some o) (hc : o.isCells = false) (hB : B ≤ r) : Calm B A (A.putObj r o') :=
  ⟨rfl, rfl, rfl, by simp [World.putObj], fun k _ h1 h2 => by
    rw [World.putObj_heap_other]
    · exact h1
    · rintro rfl
      rw [ho] at h1
      cases h1
      rcases h2 with h2 | h2
      · rw [hc] at h2; cases h2
      · omega⟩
theorem Calm.below {B n₀ : Nat} {w A A' : World} (h : Calm B A A') (hb : Below n₀ w A) (hn : n₀ ≤ B) (hw : n₀ ≤ w.heap.size) : Below n₀ w A' :=
  ⟨h.os.trans hb.os, h.tape.trans hb.tape, h.output.trans hb.output, Nat.le_trans hb.size h.size, fun k hk => by
    have h1 := hb.block k hk
    have h2 : k < w.heap.size := by omega
    rw [Array.getElem?_eq_getElem h2] at h1 ⊢
    exact h.block k _ h1 (.inr (by omega))⟩
/-- What holds no cells, from B on, lies as it lay; nothing is gone. -/
def Leaves (B : Nat) (W W' : World) : Prop := W.heap.size ≤ W'.heap.size ∧ ∀ k o, B ≤ k → W.heap[k]? = some o → o.isCells = false → W'.heap[k]? = some o
theorem Leaves.refl (B : Nat) (W : World) : Leaves B W W := ⟨Nat.le_refl _, fun _ _ _ h _ => h⟩
theorem Leaves.trans {B : Nat} {W W1 W2 : World} (h : Leaves B W W1) (k : Leaves B W1 W2) : Leaves B W W2 := ⟨Nat.le_trans h.1 k.1, fun i o hi ho hc => k.2 i o hi (h.2 i o hi ho hc) hc⟩
theorem Leaves.of_below {B : Nat} {W W' : World} (h : Below W.heap.size W W') : Leaves B W W' := ⟨h.size, fun k o _ ho _ => (h.block k (Array.getElem?_eq_some_iff.1 ho).1).trans ho⟩
theorem Leaves.setCell {B : Nat} (W : World) (p : Addr) (v : Value) : Leaves B W (W.setCell p v) := by
  have h := KeepsOthers.setCell W p v
  exact ⟨h.size, fun k o _ ho hc => h.same k o ho hc⟩
theorem Leaves.grown {B : Nat} {W W' : World} {row : Option Nat} (h : W.grownBy W' row) (hs : W.heap.size ≤ W'.heap.size) (hr : ∀ k, row = some k → ∃ cs t fr, W.heap[k]? = some (.cells cs t fr)) : Leaves B W W' := by
  refine ⟨hs, fun k o _ ho hc => ?_⟩
  have hlt := (Array.getElem?_eq_some_iff.1 ho).1
  rw [h.block k hlt]
  · exact ho
  · intro e
    obtain ⟨cs, t, fr, hcs⟩ := hr k e.symm
    rw [hcs] at ho
    cases ho
    cases hc

/-- A call of yield answers a bool. -/
def YieldsB (P : Program) (y : Value) (args : Array Value) (W : World) (R : Bool → World → Prop) : Prop :=
  (∃ l, y = .func (.yield l) #[] #[] ∧ YieldAt Fence.wide 0 P l args W fun e W' => ∃ b, e = .returned (.bool b) ∧ R b W') ∨
  (∃ g caps, y = .func (.func g) #[] caps ∧ Enters P g ∧ Calls P g (args ++ caps) W fun e W' => ∃ b, e = .returned (.bool b) ∧ R b W')

/-- An iterator: the function g with what it captured; its elements are enc 0, .., enc (N - 1); what it reads lies in the blocks 'keep'. -/
def Iter (P : Program) (gf : Nat) (lb : Array Value) (enc : Nat → Array Value) (N : Nat) (keep : Nat → Prop) (w0 : World) : Prop :=
  ∀ (y : Value) (J Jx : Nat → World → Prop) (W : World), (∀ b, keep b → W.heap[b]? = w0.heap[b]?) →
    (∀ k A A', Below A.heap.size A A' → J k A → J k A') → (∀ k A A', Below A.heap.size A A' → Jx k A → Jx k A') →
    (∀ k W1, k < N → J k W1 → YieldsB P y (enc k) W1 fun b W' => (∀ c, keep c → W'.heap[c]? = W1.heap[c]?) ∧ W1.heap.size ≤ W'.heap.size ∧ (if b = true then J (k + 1) W' else Jx k W')) →
    J 0 W → Calls P gf (#[y] ++ lb) W fun e W' => e = .returned (.tuple #[]) ∧ (J N W' ∨ ∃ k, k < N ∧ Jx k W')

/-- How a round may be left. -/
def roundEnd (B : Nat) (keep : Nat → Prop) (I : World → Prop) (Ix : Code → World → Prop) (W : World) : Exit → Act → World → Prop
  | .normal, _, W' => Leaves B W W' ∧ (∀ c, keep c → W'.heap[c]? = W.heap[c]?) ∧ I W'
  | .ret, _, W' => Leaves B W W' ∧ (∀ c, keep c → W'.heap[c]? = W.heap[c]?) ∧ Ix .ret W'
  | .exit id, _, W' => Leaves B W W' ∧ (∀ c, keep c → W'.heap[c]? = W.heap[c]?) ∧ Ix (.exit id) W'
  | .goto t, _, W' => Leaves B W W' ∧ (∀ c, keep c → W'.heap[c]? = W.heap[c]?) ∧ Ix (.goto t) W'
  | .panic _, _, _ => False
  | .outgrown, _, _ => False
theorem NoOut.roundEnd {B : Nat} {keep : Nat → Prop} {I : World → Prop} {Ix : Code → World → Prop} {W : World} : NoOut (roundEnd B keep I Ix W) := fun _ _ h => h
theorem NoOut.false : NoOut (fun _ _ _ => False) := fun _ _ h => h

/-- What a round owes, in one form for the walk: its assignments, then its body. -/
def RoundOk (P : Program) (B l : Nat) (keep : Nat → Prop) (I' : World → Prop) (Ix : Code → World → Prop) (assign body : Code) (a : Act) (W : World) : Prop :=
  ∀ K : Act → World → Prop, (∀ a' W', Below W.heap.size W W' → (∀ W2, Calm B W' W2 → body.wpIn (RW l) 0 P (roundEnd B keep I' Ix W2) a' W2) → K a' W') → assign.wpIn (RW l) 0 P (Exit.then K (fun _ _ _ => False)) a W

end Go.Proofs.YtoaliamemkjfhaaLift

