/-
  Operations over abstract states: the quiet ones.
-/
import Derived.Test.YtbjlabokijchpaaA2
namespace Go.Proofs.YtbjlabokijchpaaA
set_option linter.unusedVariables false
open Go Go.RowKit

def RunQ (P : Program) (R : Value → World → Prop) : Result Next → Prop
  | .ok (.value v) w' => R v w'
  | .ok .skip w' => R undef w'
  | .ok (.enter f args) w' => Calls P f args w' fun e w'' => ∃ v, e = .returned v ∧ R v w''
  | _ => False
/-- A quiet operation: it yields v, and makes the blocks Δ. -/
structure OpQ (P : Program) (o : Oper) (T : Nat → Value) (H : AHeap) (v : Value) (Δ : AHeap) : Prop where
  nd : ∀ c, o.op ≠ .defer c
  wr : ∀ x ∈ Δ, x.wr = true
  run : ∀ ρ e w, HRel ρ H w → (∀ x ∈ o.op.operands, VRel ρ (ev T x) (e x)) →
    RunQ P (fun v' w' => ∃ ρ', VRel ρ' v v' ∧ HRel ρ' (H ++ Δ) w' ∧ Ext ρ H w ρ' w') ((execOp e o).run P w)
/-- Operands whose values are known. -/
def cOk (H : AHeap) : Operand → Prop
  | .tmp _ => True
  | .const v => ∀ ρ, VRel ρ v v
  | .global g => ∃ vs sz, H[g]? = some (.glob vs sz)
  | .func _ => True
section
variable {F : Fence} {n : Nat} {P : Program} {N0 : AHeap} {s : ASt}
theorem ev_rel {ρ : Ren} {a : Act} {w : World} {nt : Nat} {T : Nat → Value} {H : AHeap} (hh : HRel ρ H w) (ht : TRel ρ nt T a.tmps) {x : Operand} (hc : cOk H x) : VRel ρ (ev T x) (a.eval x) := by
  cases x with
  | tmp t => rw [eval_tmp]; exact ht.2 t
  | const v => exact hc ρ
  | «global» g =>
    obtain ⟨vs, sz, hg⟩ := hc
    obtain ⟨l, h1, h2, h3⟩ := hh.glob g vs sz hg
    have := VRel.ptr (o := 0) h1
    rw [h2, h3] at this
    exact this
  | func f => exact .func trivial rfl (fun i hi => by simp at hi) rfl (fun i hi => by simp at hi)
theorem OpQ.ok (hF : Wd F) {o : Oper} {v : Value} {Δ : AHeap} {K : ASt → Prop} (hq : OpQ P o s.T s.H v Δ) (hc : ∀ x ∈ o.op.operands, cOk s.H x) (hd : dOk s.nt o.dst)
    (hk : K (ASt.put { s with H := s.H ++ Δ } o.dst v)) : OpOk F n P N0 o K s := by
  intro ρ a w hs
  have h := hq.run ρ a.eval w hs.heap (fun x hx => ev_rel hs.heap hs.tmps (hc x hx))
  refine ⟨fun f _ => hF.fn f, ?_⟩
  rw [Oper.semAt_eq _ _ _ hq.nd]
  have fin : ∀ v' w', (∃ ρ', VRel ρ' v v' ∧ HRel ρ' (s.H ++ Δ) w' ∧ Ext ρ s.H w ρ' w') → ∃ s' ρ', K s' ∧ SRel N0 ρ' s' (a.put o.dst v') w' ∧ Fr N0.length ρ s.H w ρ' s'.H w' := by
    rintro v' w' ⟨ρ', hv, hh, he⟩
    have hm : ∀ b, ρ b ≠ .none → ρ' b = ρ b ∨ ρ' b = .dead := fun b hb => .inl (he.old b (by
      by_cases e : b < s.H.length
      · exact e
      · exact absurd (hs.heap.bound b (by omega)) hb))
    have hD : ∀ (D : List Nat) (ds : List Deferred), DRel ρ s.H D ds → DRel ρ' (s.H ++ Δ) D ds := by
      intro D
      induction D with
      | nil => intro ds h; cases ds with | nil => trivial | cons _ _ => exact h.elim
      | cons d D ih =>
        intro ds h
        cases ds with
        | nil => exact h.elim
        | cons x ds =>
          obtain ⟨⟨l, h1, h2, h3⟩, h4⟩ := h
          have hlt : d < s.H.length := (List.getElem?_eq_some_iff.1 h2).1
          exact ⟨⟨l, (he.old d hlt).trans h1, by rw [List.getElem?_append_left hlt]; exact h2, h3⟩, ih ds h4⟩
    have hs1 : SRel N0 ρ' { s with H := s.H ++ Δ } a w' := ⟨hh, hs.tmps.mono hm, hD _ _ hs.defers, by simp; have := hs.len; omega, hs.entry.of fun b hb => .inl (he.old b (by have := hs.len; omega))⟩
    refine ⟨_, ρ', hk, hs1.put hd hv, ?_⟩
    rw [ASt.put_H]
    exact he.fr.mono hs.len
  generalize (execOp a.eval o).run P w = r at h ⊢
  cases r with
  | ok x w' =>
    cases x with
    | value v' => exact fin _ _ h
    | skip => exact fin _ _ h
    | enter f args =>
      refine ⟨fun hd => by rw [hF.depth] at hd; simp at hd, hF.calls (Calls.mono h ?_)⟩
      rintro e w'' ⟨v', rfl, hv⟩
      exact fin _ _ hv
    | _ => exact h.elim
  | halt x w' => exact h.elim

/-! ### Values without addresses -/
def Scalar : Value → Bool
  | .bool _ | .int _ _ | .float _ _ | .complex _ _ _ | .string _ | .pointer none | .slice none 0 0 | .map none | .nilFunc | .nilIface => true
  | _ => false
theorem scalar_dead {ρ : Ren} {v : Value} (hs : Scalar v = true) (h : deadOf ρ v) : False := by
  cases v with
  | pointer a => cases a with | none => exact h | some a => simp [Scalar] at hs
  | slice a n c => cases a with | none => exact h | some a => simp [Scalar] at hs
  | map a => cases a with | none => exact h | some a => simp [Scalar] at hs
  | func fn fs cs => simp [Scalar] at hs
  | _ => exact h
theorem VRel.scalar_eq {ρ : Ren} {v v' : Value} (h : VRel ρ v v') (hs : Scalar v = true) : v' = v := by
  cases h with
  | dead h => exact (scalar_dead hs h).elim
  | _ => first | rfl | simp [Scalar] at hs
theorem VRel.scalar {v : Value} (hs : Scalar v = true) (ρ : Ren) : VRel ρ v v := by
  cases v with
  | bool b => exact .bool b
  | int k n => exact .int k n
  | float k n => exact .float k n
  | complex k n m => exact .complex k n m
  | string s => exact .string s
  | pointer a => cases a with | none => exact .nilPtr | some a => simp [Scalar] at hs
  | slice a n c =>
    cases a with
    | some a => simp [Scalar] at hs
    | none =>
      unfold Scalar at hs
      split at hs <;> simp_all
      rename_i h
      obtain ⟨rfl, rfl⟩ := h
      exact .nilSlice
  | map r => cases r with | none => exact .nilMap | some a => simp [Scalar] at hs
  | nilFunc => exact .nilFunc
  | nilIface => exact .nilIface
  | _ => simp [Scalar] at hs
/-- What yields a value out of values without addresses, in whatever world. -/
theorem q_scalar {o : Oper} {T : Nat → Value} {H : AHeap} {v : Value} (hnd : ∀ c, o.op ≠ .defer c) (hns : ∀ cs b, o.op ≠ .select cs b) (hx : ∀ x ∈ o.op.operands, Scalar (ev T x) = true)
    (hv : Scalar v = true) (hr : ∀ w, (execOp (ev T) o).run P w = .ok (.value v) w) : OpQ P o T H v [] := by
  refine ⟨hnd, by simp, fun ρ e w hh he => ?_⟩
  have : execOp e o = execOp (ev T) o := execOp_congr o hns fun x h => (he x h).scalar_eq (hx x h)
  rw [this, hr w]
  exact ⟨ρ, .scalar hv ρ, by simpa using hh, .refl hh⟩
end
end Go.Proofs.YtbjlabokijchpaaA
