/-
  The call of yield within an iterator's body, walked as one operation.
-/
import Derived.Test.YtoaliamemkjfhaaLift
namespace Go.Proofs.YtoaliamemkjfhaaLift
open Go Go.RowKit Go.Shelf
set_option linter.unusedVariables false
variable {P : Program} {n : Nat}

theorem round_any {l f : Nat} {tmps : Array Value} {assign body : Code} {w : World} {R : Ending → World → Prop} {m : Nat} (h : RoundIn Fence.wide m P l f tmps assign body w R) (n : Nat) : RoundIn Fence.wide n P l f tmps assign body w R :=
  ⟨h.1, fun c cs _ => h.2 c cs (room_wide _)⟩

theorem gate_yield {o : Oper} {rest : List Oper} {ops : Array Oper} {Q : Exit → Act → World → Prop} {a : Act} {w : World} {t : Tmp} {xs : Array Operand} {ts : Array TypeId}
    (_ho : o.op = .call { callee := .value (.tmp t), args := xs, argTypes := ts }) (h : wpListIn Fence.wide n P ops Q (o :: rest) a w) : wpListIn Fence.wide n P ops Q (o :: rest) a w := h
/-- The operation 'yield(..)': it answers a bool. -/
theorem yield_op {o : Oper} {rest : List Oper} {ops : Array Oper} {Q : Exit → Act → World → Prop} {a : Act} {w : World} {t : Tmp} {xs : Array Operand} {ts : Array TypeId}
    (ho : o.op = .call { callee := .value (.tmp t), args := xs, argTypes := ts }) (hg : o.guard = none) (y : Value) (args : Array Value) (hy : a.eval (.tmp t) = y) (hargs : xs.map a.eval = args)
    {R : Bool → World → Prop} (hY : YieldsB P y args w R) (h : ∀ b w', R b w' → wpListIn Fence.wide n P ops Q rest (a.put o.dst (.bool b)) w') :
    wpListIn Fence.wide n P ops Q (o :: rest) a w := by
  unfold wpListIn
  rw [if_pos (by simp [Region.wanted, hg])]
  refine ⟨fun _ _ => trivial, ?_⟩
  have hs : o.semAt Fence.wide.round a.eval = execOp a.eval o := rfl
  rw [hs]
  rcases hY with ⟨l, rfl, fn, tmps, assign, body, hrun, hR⟩ | ⟨g, caps, rfl, hE, hC⟩
  · have h1 : (execOp a.eval o).run P w = .ok (.round l fn tmps assign body) w := by
      simp only [execOp, ho, resolve, hy, hargs]
      simp [go_sem, invoke, hrun]
    rw [h1]
    refine ⟨fun h => by simp [Fence.wide] at h, round_any (hR.mono ?_) _⟩
    rintro e w' ⟨b, rfl, hb⟩
    exact h b w' hb
  · have h1 : (execOp a.eval o).run P w = .ok (.enter g (args ++ caps)) w := by
      simp only [execOp, ho, resolve, hy, hargs]
      simp [go_sem, invoke, hE _ _]
    rw [h1]
    refine ⟨fun h => by simp [Fence.wide] at h, callsIn_wide.2 (hC.mono ?_)⟩
    rintro e w' ⟨b, rfl, hb⟩
    exact h b w' hb
end Go.Proofs.YtoaliamemkjfhaaLift

