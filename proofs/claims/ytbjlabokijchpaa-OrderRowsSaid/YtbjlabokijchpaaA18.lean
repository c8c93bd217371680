/-
  More ends and calls; from the world's contracts to these, and back.
-/
import Derived.Test.YtbjlabokijchpaaA17
import Derived.Below
namespace Go.Proofs.YtbjlabokijchpaaA
set_option linter.unusedVariables false
open Go Go.RowKit Go.Shelf
theorem Gc.cast {N0 N1 H H2 : AHeap} {φ : Nat → Option Nat} (h : Gc N0 φ H H2) (hl : N0.length = N1.length) (hN : ∀ b, b < N1.length → φ b = some b → H2[b]? = H[b]? → N1[b]? = H[b]? ∨ ∃ o2 o, H2[b]? = some o2 ∧ H[b]? = some o ∧ OSub φ o2 o) : Gc N1 φ H H2 :=
  ⟨fun b hb => h.id b (by omega), by have := h.len; omega, h.inj, h.dom, fun b c hb => by
    rcases h.obj b c hb with ⟨k1, k2, k3⟩ | k
    · have := h.id b k1
      rw [hb] at this; cases this
      rcases hN b (by omega) hb k3 with e | e
      · exact .inl ⟨by omega, e, k3⟩
      · exact .inr e
    · exact .inr k, h.glob⟩
/-- A block of values without addresses. -/
def plainO : AObj → Bool
  | .cells _ vs _ => vs.all Scalar
  | .none => true
  | _ => false
theorem plainO_sub {φ : Nat → Option Nat} {o : AObj} (h : plainO o = true) : OSub φ o o := by
  cases o with
  | cells w vs sz => exact .cells (.scalars h)
  | none => exact .none _ (by simp)
  | _ => cases h
/-- The heap as it was at the entry, but for blocks whose values have no addresses. -/
def Turned (H0 H1 : AHeap) : Prop := H0.length = H1.length ∧ ∀ b : Nat, H1[b]? = H0[b]? ∨ ∃ o, H1[b]? = some o ∧ plainO o = true
theorem Turned.refl (H : AHeap) : Turned H H := ⟨rfl, fun _ => .inl rfl⟩
theorem Turned.set {H0 H1 : AHeap} (h : Turned H0 H1) (b : Nat) {o : AObj} (ho : plainO o = true) : Turned H0 (H1.set b o) := ⟨by simpa using h.1, fun c => by
  by_cases e : b = c
  · subst e
    by_cases hb : b < H1.length
    · exact .inr ⟨o, by rw [List.getElem?_set, if_pos rfl, if_pos hb], ho⟩
    · exact .inl (by rw [List.getElem?_eq_none (by simp; omega), List.getElem?_eq_none (by have := h.1; omega)])
  · rw [List.getElem?_set, if_neg e]; exact h.2 c⟩
theorem ret_turn {P : Program} {fn : Func} {Q : Value → AHeap → Prop} {H0 H1 L : AHeap} {nt : Nat} {T : Nat → Value} {vs : List Value} {v : Value} {s : ASt} (hs : s = ⟨nt, T, [], H1 ++ L⟩) (ht : Turned H0 H1) (hr : ARes P s fn.results.toList vs) (hv : retv vs = v) (hn : noAddr v = true) (hQ : Q v H1) : Ret P H0 fn Q s := by
  subst hs hv
  have hg := gc_keep (H0 := H1) (L := L) (L2 := []) rfl (js := []) .nil trivial
  rw [List.append_nil] at hg
  have hg' : Gc H0 (keep H1.length []) (H1 ++ L) H1 := hg.cast ht.1.symm fun b hb _ e => by
    rcases ht.2 b with k | ⟨o, k, ho⟩
    · exact .inl (by rw [← e, k])
    · exact .inr ⟨o, o, k, by rw [← e, k], plainO_sub ho⟩
  exact ⟨.nil, .inr ⟨vs, _, _, H1, hr, hg', .noAddr hn, hQ⟩⟩
/-- The heap as it stands. -/
theorem ret_same {P : Program} {fn : Func} {N0 : AHeap} {Q : Value → AHeap → Prop} {H : AHeap} {nt : Nat} {T : Nat → Value} {vs : List Value} {v : Value} {s : ASt} (hs : s = ⟨nt, T, [], H ++ []⟩) (hr : ARes P s fn.results.toList vs) (hv : retv vs = v) (hQ : Q v H) : Ret P N0 fn Q s := by
  subst hs hv
  rw [List.append_nil] at hr ⊢
  exact ⟨.nil, .inl ⟨vs, hr, hQ⟩⟩
theorem ret_turn1 {P : Program} {fn : Func} {Q : Value → AHeap → Prop} {H0 H1 L : AHeap} {nt : Nat} {T : Nat → Value} {v : Value} {s : ASt} (hs : s = ⟨nt, T, [], H1 ++ L⟩) (ht : Turned H0 H1) (hr : ARes P s fn.results.toList [v]) (hn : noAddr v = true) (hQ : Q v H1) : Ret P H0 fn Q s := ret_turn hs ht hr rfl hn hQ
/-- Operands' values, one by one. -/
def EvL (T : Nat → Value) : List Operand → List Value → Prop
  | [], [] => True
  | x :: l, v :: vs => ev T x = v ∧ EvL T l vs
  | _, _ => False
theorem EvL.map {T : Nat → Value} : ∀ {l : List Operand} {vs : List Value}, EvL T l vs → l.map (ev T) = vs
  | [], [], _ => rfl
  | [], _ :: _, h => h.elim
  | _ :: _, [], h => h.elim
  | x :: l, v :: vs, ⟨h, k⟩ => by rw [List.map_cons, h, EvL.map k]
theorem q_makeFuncL {P : Program} {T : Nat → Value} {H : AHeap} {dst : Option Tmp} {ty : TypeId} {pos : String} {af : Array Edge} {g : Option (Nat × Bool)} {f : FuncId} {l : List Operand} (vs : List Value) (h : EvL T l vs) : OpQ P ⟨dst, .makeFunc (.func f) #[] l.toArray, ty, pos, af, g⟩ T H (.func (.func f) #[] vs.toArray) [] :=
  q_makeFunc (by rw [List.map_toArray, h.map])
section
variable {next : ASt → Prop} {Q : AEx → ASt → Prop} {s : ASt} {i id : Nat}
theorem then_ret (h : Q .ret s) : AEx.then next Q .ret s := h
theorem then_exit (h : Q (.exit i) s) : AEx.then next Q (.exit i) s := h
theorem then_goto (h : Q (.goto i) s) : AEx.then next Q (.goto i) s := h
theorem then_normal (h : next s) : AEx.then next Q .normal s := h
theorem blk_ret (h : Q .ret s) : AEx.inBlock id Q .ret s := h
theorem blk_goto (h : Q (.goto i) s) : AEx.inBlock id Q (.goto i) s := h
theorem blk_normal (h : Q .normal s) : AEx.inBlock id Q .normal s := h
theorem blk_exit (h : Q .normal s) : AEx.inBlock id Q (.exit id) s := by
  show if id = id then _ else _
  rw [if_pos rfl]; exact h
theorem blk_exit' (hn : i ≠ id) (h : Q (.exit i) s) : AEx.inBlock id Q (.exit i) s := by
  show if i = id then _ else _
  rw [if_neg hn]; exact h
theorem retq_ret {P : Program} {N0 : AHeap} {fn : Func} {Q : Value → AHeap → Prop} (h : Ret P N0 fn Q s) : RetQ P N0 fn Q .ret s := h
theorem retq_normal {P : Program} {N0 : AHeap} {fn : Func} {Q : Value → AHeap → Prop} (h : Ret P N0 fn Q s) : RetQ P N0 fn Q .normal s := h
theorem awp_regt {F : Fence} {n : Nat} {P : Program} {N0 : AHeap} (hF : Wd F) (hm : P.follows .mixedOrders = true) {id : Nat} {l : List Oper} (ht : tabOk l.toArray (tabOf l.toArray) = true) (hs : ssaOk l.toArray (tabOf l.toArray) = true)
    (h : dList F n P N0 l.toArray (tabOf l.toArray) 0 l (fun s' => ∃ s2, Wk N0 s' s2 ∧ Q .normal s2) s) : awp F n P N0 (.region id l.toArray true) Q s := awp_regd hF hm _ ht hs h
end
section
variable {F : Fence} {n : Nat} {P : Program} {N0 : AHeap} {ops : Array Oper} {rest : List Oper} {K : ASt → Prop} {nt : Nat} {T : Nat → Value} {H H' : AHeap} {dst : Option Tmp} {ty : TypeId} {pos : String} {af : Array Edge} {g : Option (Nat × Bool)}
/-- A slot, or none. -/
def updo (T : Nat → Value) : Option Tmp → Value → Nat → Value
  | none, _ => T
  | some d, v => upd T d v
theorem put_updo {s : ASt} (dst : Option Tmp) (v : Value) : ASt.put s dst v = { s with T := updo s.T dst v } := by cases dst <;> rfl
/-- A call of a function value that turns the heap. -/
theorem se_callv (hF : Wd F) {f : FuncId} {x : Operand} {xs : Array Operand} {ats : Array TypeId} {cs : Array Value} {args : List Value} {Q : Value → AHeap → Prop} (hg : GYes ops ⟨dst, .call { callee := .value x, args := xs, argTypes := ats }, ty, pos, af, g⟩ T) (hE : Enters P f) (hx : ev T x = .func (.func f) #[] cs) (hargs : xs.toList.map (ev T) ++ cs.toList = args)
    (h : ACalls P f args H Q) (hd : dOk nt dst) (hc : ∀ y ∈ #[x] ++ xs, cOk H y) (hk : ∀ v H', Q v H' → aList F n P N0 ops rest K ⟨nt, updo T dst v, [], H'⟩) :
    aList F n P N0 ops (⟨dst, .call { callee := .value x, args := xs, argTypes := ats }, ty, pos, af, g⟩ :: rest) K ⟨nt, T, [], H⟩ :=
  se hg (o_callv hF hE hx hargs h hc hd (fun _ _ _ d hd => by simp at hd) fun v H' hq => by rw [put_updo]; exact hk v H' hq)
/-- The operation 'yield(..)'. -/
theorem se_yield {t : Tmp} {xs : Array Operand} {ats : Array TypeId} {y : Value} {args : List Value} {R : Bool → AHeap → Prop} (hg : GYes ops ⟨dst, .call { callee := .value (.tmp t), args := xs, argTypes := ats }, ty, pos, af, g⟩ T) (hx : T t = y) (hargs : xs.toList.map (ev T) = args) (h : Ylds P y args H R) (hd : dOk nt dst) (hc : ∀ z ∈ xs, cOk (H ++ []) z)
    (hk : ∀ b H', R b H' → aList Fence.wide n P N0 ops rest K ⟨nt, updo T dst (.bool b), [], H' ++ []⟩) :
    aList Fence.wide n P N0 ops (⟨dst, .call { callee := .value (.tmp t), args := xs, argTypes := ats }, ty, pos, af, g⟩ :: rest) K ⟨nt, T, [], H ++ []⟩ :=
  se hg (o_yield hx hargs (by rw [List.append_nil]; exact h) hc hd rfl fun b H' hR => by
    have := hk b H' hR
    rw [List.append_nil] at this
    rw [put_updo]; exact this)
end
/-! ### Contracts of the world -/
/-- A contract of the world about values without addresses, as one of these. -/
theorem acalls_of_world {P : Program} {f : FuncId} {args : List Value} {v : Value} (ha : args.all Scalar = true) (hv : noAddr v = true) (h : ∀ w, Calls P f args.toArray w fun e w' => e = .returned v ∧ Below w.heap.size w w') (H : AHeap) : ACalls P f args H (Rets v H) := by
  intro ρ w args' hh hr
  have e : args' = args.toArray := by
    apply Array.toList_inj.1
    apply List.ext_getElem?
    intro i
    have hl := hr.1
    by_cases hi : i < args.length
    · have h5 := hr.2 i hi
      rw [List.getD_eq_getElem?_getD, List.getD_eq_getElem?_getD, List.getElem?_eq_getElem hi, List.getElem?_eq_getElem (by omega : i < args'.toList.length)] at h5
      simp only [Option.getD_some] at h5
      rw [List.getElem?_eq_getElem (by omega : i < args'.toList.length), h5.scalar_eq (List.all_eq_true.1 ha _ (List.getElem_mem hi))]
      simp [hi]
    · rw [List.getElem?_eq_none (by omega), List.getElem?_eq_none (by simp; omega)]
  subst e
  refine (h w).mono ?_
  rintro e w' ⟨rfl, hb⟩
  refine ⟨v, v, H, ρ, rfl, ⟨rfl, rfl⟩, ?_, ⟨hh.bound, fun b l hl => ?_, hh.inj, hh.glob, hh.isdead⟩, ⟨hb.os, hb.tape, hb.output, hb.size, fun k hk _ => hb.block k hk, fun b _ => .inl rfl, fun b l' hl hw => .inl ⟨b, l', hl, rfl, hw⟩⟩, Nat.le_refl _⟩
  · have hp : ∀ v, plainV v = true → VRel ρ v v := fun v h => by
      have hs : Scalar v = true → VRel ρ v v := fun h => .scalar h ρ
      cases v with
      | agg vs => exact .agg rfl fun i hi => .scalar (List.all_eq_true.1 h _ (getD_mem hi)) ρ
      | _ => exact hs h
    cases v with
    | tuple vs => exact .tuple rfl fun i hi => hp _ (List.all_eq_true.1 hv _ (getD_mem hi))
    | _ => exact hp _ hv
  · obtain ⟨o, q1, q2, q3⟩ := hh.rel b l hl
    exact ⟨o, q1, by have := hb.size; omega, q3.mono (fun _ _ => .inl rfl) (hb.block _ q2)⟩
/-- A contract over no blocks, as one of the world. -/
theorem world_of_acalls {P : Program} {f : FuncId} {args : Array Value} {v : Value} (ha : args.toList.all Scalar = true) (hv : Scalar v = true) (h : ACalls P f args.toList [] (Rets v [])) (w : World) : Calls P f args w fun e w' => e = .returned v ∧ Below w.heap.size w w' := by
  have hh : HRel (fun _ => .none) [] w := ⟨fun _ _ => rfl, fun _ _ h => (by cases h), fun _ _ _ _ _ h => (by cases h), fun _ _ _ h => (by simp at h), fun _ h => (by cases h)⟩
  refine (h _ w args hh ⟨rfl, fun i hi => ?_⟩).mono ?_
  · rw [List.getD_eq_getElem?_getD, List.getElem?_eq_getElem hi]
    exact .scalar (List.all_eq_true.1 ha _ (List.getElem_mem hi)) _
  · rintro e w' ⟨v1, v', H', ρ', rfl, ⟨rfl, rfl⟩, k1, k2, k3, k4⟩
    rw [k1.scalar_eq hv]
    exact ⟨rfl, k3.os, k3.tape, k3.output, k3.size, fun k hk => k3.keep k hk fun ⟨b, l, hb, _⟩ => by cases hb⟩
end Go.Proofs.YtbjlabokijchpaaA
