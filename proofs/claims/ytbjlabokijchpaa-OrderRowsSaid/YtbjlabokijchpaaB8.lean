/-
  a slice that may be nil, against nil; parts of an own slice; less capacity.
-/
import Derived.Test.YtbjlabokijchpaaB7
namespace Go.Proofs.YtbjlabokijchpaaA
set_option linter.unusedVariables false
open Go Go.RowKit Go.Shelf
section
variable {F : Fence} {nn : Nat} {P : Program} {N0 : AHeap} {s : ASt} {dst : Option Tmp} {ty : TypeId} {pos : String} {af : Array Edge} {g : Option (Nat × Bool)}
theorem o_isnil_sl {α : Type} {f : α → Value} {l : List α} {K : ASt → Prop} (hF : Wd F) {x : Operand} {sT el u : TypeId} {v : Value} (hu : P.underlying sT = some (.slice el)) (hx : ev s.T x = v) (h : Sl f s.H v l) (hcx : cOk s.H x) (hd : dOk s.nt dst)
    (hk : ∀ t : Bool, (t = true → l = []) → K (ASt.put s dst (.bool t))) :
    OpOk F nn P N0 ⟨dst, .binOp .eql sT x (.const (.slice none 0 0)) u, ty, pos, af, g⟩ K s := by
  rcases h with ⟨rfl, rfl⟩ | ⟨b, o, c, vs, rfl, hR, _⟩
  · intro ρ a w hs'
    have hh := hs'.heap
    have h1 := ev_rel hh hs'.tmps hcx
    rw [hx] at h1
    refine ⟨fun f _ => hF.fn f, ?_⟩
    rw [Oper.semAt_eq _ _ _ (by simp), run_slnil hu a (h1.scalar_eq rfl) w]
    refine ⟨_, ρ, hk true (fun _ => rfl), hs'.put hd (.bool true), ?_⟩
    rw [ASt.put_H]; exact .refl _ _ _ _
  · exact o_isnil hF hu hx hR.live hcx hd fun t ht => hk t fun h => List.length_eq_zero_iff.1 (ht h)
end
section
variable {Fc : Fence} {n : Nat} {P : Program} {N0 : AHeap} {ops : Array Oper} {rest : List Oper} {K : ASt → Prop} {nt : Nat} {T : Nat → Value} {D : List Nat} {d : Tmp} {tab : List Nat} {i : Nat} {ty : TypeId} {pos : String} {af : Array Edge} {g : Option (Nat × Bool)}
variable {H0 : AHeap} {X : Nat → Prop} {Z : Rs} {H : AHeap} {F F' : List (Nat × AObj)}
theorem x_isnil_sl {α : Type} {f : α → Value} {l : List α} (fl : List Nat) (hF : Wd Fc) (hfl : floatOk ops tab i fl = true) {x : Operand} {sT el u : TypeId} {v : Value} (hg : GYes ops ⟨some d, .binOp .eql sT x (.const (.slice none 0 0)) u, ty, pos, af, g⟩ T) (hu : P.underlying sT = some (.slice el)) (hx : ev T x = v) (h : Sl f H v l) (hcx : cOk H x) (hd : d < nt) (hfx : offF ops fl x = true)
    (hk : ∀ t : Bool, (t = true → l = []) → PendL P ops ⟨nt, upd T d (.bool t), D, H⟩ fl ∧ dList Fc n P N0 ops tab (i + 1) rest K ⟨nt, upd T d (.bool t), D, H⟩) :
    dList Fc n P N0 ops tab i (⟨some d, .binOp .eql sT x (.const (.slice none 0 0)) u, ty, pos, af, g⟩ :: rest) K ⟨nt, T, D, H⟩ := by
  refine dfR fl (fun v H' => H' = H ∧ ∃ t : Bool, v = .bool t ∧ (t = true → l = [])) hfl hg (fun T' hT K' hk' => ?_) (fun v H' ⟨e, t, hv, ht⟩ => by subst e hv; exact hk t ht)
  exact o_isnil_sl (s := ⟨nt, T', D, H⟩) hF hu ((offF_ev hfx hT).trans hx) h hcx hd fun t ht => hk' _ H ⟨rfl, t, rfl, ht⟩
end
section
variable {α : Type} {f : α → Value} {H : AHeap} {b : Nat} {L : List α}
theorem sl_drop (hR : Rd H b (L.map f) 1) {j n c : Nat} (hj : j ≤ L.length) (hn : n = L.length - j) (hc : n ≤ c) : Sl f H (.slice (some ⟨b, j, none⟩) n c) (L.drop j) := by
  subst hn
  refine .inr ⟨b, j, c, L.map f, by rw [List.length_drop], hR, by rw [List.length_drop, List.length_map]; omega, by rw [List.length_drop]; exact hc, fun i h => ?_⟩
  rw [List.length_drop] at h
  simp [show j + i < L.length by omega]
/-- A delete: what comes behind moves down, the last cell is what it was. -/
theorem splice_del {v : Value} {i : Nat} (hi : i < L.length) : splice (splice (L.map f) i ((L.drop (i + 1)).map f)) (L.length - 1) [v] = ((L.eraseIdx i).map f) ++ [v] := by
  have h1 : (L.eraseIdx i).length = L.length - 1 := List.length_eraseIdx_of_lt hi
  have e : (L.map f).take i ++ (L.drop (i + 1)).map f = (L.eraseIdx i).map f := by
    rw [List.eraseIdx_eq_take_drop_succ, List.map_append, List.map_take]
  have h2 : ((L.map f).take i ++ (L.drop (i + 1)).map f).length = L.length - 1 := by rw [e, List.length_map, h1]
  have h3 : (splice (L.map f) i ((L.drop (i + 1)).map f)).length = L.length := by rw [splice_length] <;> simp <;> omega
  unfold splice at h3 ⊢
  rw [List.take_append_of_le_length (by omega), List.take_of_length_le (by omega), List.drop_of_length_le (Nat.le_trans (Nat.le_of_eq h3) (by simp; omega)), List.append_nil, e]
end
theorem acalls_cap {P : Program} {f : FuncId} {args : List Value} {H : AHeap} {Q : AHeap → Prop} {b o n c c' : Nat} (h : ACalls P f args H (fun v H' => v = .slice (some ⟨b, o, none⟩) n c ∧ Q H')) (hn : n ≤ c') (hc : c' ≤ c) : ACalls P f args H (fun v H' => v = .slice (some ⟨b, o, none⟩) n c' ∧ Q H') :=
  fun ρ w args' hh ha => (h ρ w args' hh ha).mono fun e w' ⟨v, v', H', ρ', h1, ⟨h2, h3⟩, h4, h5⟩ => by
    subst h2
    refine ⟨.slice (some ⟨b, o, none⟩) n c', v', H', ρ', h1, ⟨rfl, h3⟩, ?_, h5⟩
    cases h4 with
    | slice h6 hn' hc' ho hr => exact .slice h6 hn (Nat.le_trans hc hc') ho hr
    | empty h6 =>
      obtain rfl : c' = 0 := by omega
      exact .empty h6
    | dead h6 => exact .dead h6
end Go.Proofs.YtbjlabokijchpaaA
