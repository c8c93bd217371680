/-
  The ends of walks: blocks dropped, results.
-/
import Derived.Test.YtbjlabokijchpaaA13
namespace Go.Proofs.YtbjlabokijchpaaA
set_option linter.unusedVariables false
open Go Go.RowKit Go.Shelf
/-- No address in sight. -/
def plainV : Value → Bool
  | .agg vs => vs.toList.all Scalar
  | v => Scalar v
def noAddr : Value → Bool
  | .tuple vs => vs.toList.all plainV
  | v => plainV v
theorem getD_mem {vs : Array Value} {i : Nat} (hi : i < vs.size) : vs.getD i undef ∈ vs.toList := by
  rw [Array.getD_eq_getD_getElem?, Array.getElem?_eq_getElem hi]; simp
theorem VSub.plain {φ : Nat → Option Nat} {v : Value} (h : plainV v = true) : VSub φ v v := by
  have hs : Scalar v = true → VSub φ v v := fun h => .scalar h
  cases v with
  | agg vs => exact .agg rfl fun i hi => .scalar (List.all_eq_true.1 h _ (getD_mem hi))
  | _ => exact hs h
theorem VSub.noAddr {φ : Nat → Option Nat} {v : Value} (h : noAddr v = true) : VSub φ v v := by
  have hs : plainV v = true → VSub φ v v := fun h => .plain h
  cases v with
  | tuple vs => exact .tuple rfl fun i hi => .plain (List.all_eq_true.1 h _ (getD_mem hi))
  | _ => exact hs h
/-- New names for local blocks: the i-th is what the js[i]-th was. -/
def keep (n0 : Nat) (js : List Nat) : Nat → Option Nat := fun b => if b < n0 then some b else (js[b - n0]?).map (n0 + ·)
theorem keep_old {n0 b : Nat} {js : List Nat} (h : b < n0) : keep n0 js b = some b := if_pos h
theorem keep_new {n0 i j : Nat} {js : List Nat} (h : js[i]? = some j) : keep n0 js (n0 + i) = some (n0 + j) := by
  unfold keep
  rw [if_neg (by omega), show n0 + i - n0 = i by omega, h]; rfl
def KSub (φ : Nat → Option Nat) (L : AHeap) : AHeap → List Nat → Prop
  | [], [] => True
  | o2 :: L2, j :: js => (∃ o, L[j]? = some o ∧ OSub φ o2 o) ∧ (∀ vs sz, o2 ≠ .glob vs sz) ∧ KSub φ L L2 js
  | _, _ => False
theorem KSub.length {φ : Nat → Option Nat} {L : AHeap} : ∀ {L2 : AHeap} {js : List Nat}, KSub φ L L2 js → L2.length = js.length
  | [], [], _ => rfl
  | [], _ :: _, h => h.elim
  | _ :: _, [], h => h.elim
  | _ :: L2, _ :: js, h => by simp [KSub.length h.2.2]
theorem KSub.at {φ : Nat → Option Nat} {L : AHeap} : ∀ {L2 : AHeap} {js : List Nat}, KSub φ L L2 js → ∀ (i j : Nat), js[i]? = some j → ∃ (o2 o : AObj), L2[i]? = some o2 ∧ L[j]? = some o ∧ OSub φ o2 o
  | [], [], _, i, j, h => by simp at h
  | [], _ :: _, h, _, _, _ => h.elim
  | _ :: _, [], h, _, _, _ => h.elim
  | o2 :: L2, j' :: js, ⟨⟨o, h1, h2⟩, _, h3⟩, i, j, h => by
    cases i with
    | zero => simp at h; subst h; exact ⟨o2, o, by simp, h1, h2⟩
    | succ i => simpa using KSub.at h3 i j (by simpa using h)
theorem KSub.glob {φ : Nat → Option Nat} {L : AHeap} : ∀ {L2 : AHeap} {js : List Nat}, KSub φ L L2 js → ∀ (i : Nat) (vs : List Value) (sz : Nat), L2[i]? ≠ some (AObj.glob vs sz)
  | [], [], _, i, _, _ => by simp
  | [], _ :: _, h, _, _, _ => h.elim
  | _ :: _, [], h, _, _, _ => h.elim
  | o2 :: L2, j' :: js, ⟨_, h1, h3⟩, i, vs, sz => by
    cases i with
    | zero => simpa using h1 vs sz
    | succ i => simpa using KSub.glob h3 i vs sz
theorem nodup_inj : ∀ {l : List Nat} {i j x : Nat}, l.Nodup → l[i]? = some x → l[j]? = some x → i = j
  | [], i, j, x, _, h, _ => by simp at h
  | y :: l, i, j, x, hn, h, k => by
    obtain ⟨h1, h2⟩ := List.nodup_cons.1 hn
    cases i <;> cases j
    · rfl
    · simp at h k; subst h; exact absurd (List.mem_of_getElem? k) h1
    · simp at h k; subst k; exact absurd (List.mem_of_getElem? h) h1
    · rename_i i j
      simp at h k
      rw [nodup_inj h2 h k]
theorem gc_keep {H0 L L2 : AHeap} {n0 : Nat} (h0 : H0.length = n0) {js : List Nat} (hnd : js.Nodup) (hk : KSub (keep n0 js) L L2 js) : Gc H0 (keep n0 js) (H0 ++ L) (H0 ++ L2) := by
  subst h0
  have hl := hk.length
  refine ⟨fun b hb => keep_old hb, by simp, fun b c d hb hc => ?_, fun b hb => ?_, fun b c hb => ?_, fun g vs sz hg => ?_⟩
  · unfold keep at hb hc
    by_cases h1 : b < H0.length <;> by_cases h2 : c < H0.length
    · simp [h1] at hb; simp [h2] at hc; omega
    · simp only [h1, if_true, Option.some.injEq] at hb
      simp only [h2, if_false, Option.map_eq_some_iff] at hc
      obtain ⟨j, _, h⟩ := hc; omega
    · simp only [h1, if_false, Option.map_eq_some_iff] at hb
      simp only [h2, if_true, Option.some.injEq] at hc
      obtain ⟨j, _, h⟩ := hb; omega
    · simp only [h1, if_false, Option.map_eq_some_iff] at hb
      simp only [h2, if_false, Option.map_eq_some_iff] at hc
      obtain ⟨j, hj, h⟩ := hb
      obtain ⟨k, hk', h'⟩ := hc
      have : k = j := by omega
      subst this
      have := nodup_inj hnd hj hk'
      omega
  · unfold keep
    simp only [List.length_append] at hb
    rw [if_neg (by omega), List.getElem?_eq_none (by omega)]; rfl
  · by_cases h1 : b < H0.length
    · rw [keep_old h1] at hb; cases hb
      exact .inl ⟨h1, (List.getElem?_append_left h1).symm, by rw [List.getElem?_append_left h1, List.getElem?_append_left h1]⟩
    · unfold keep at hb
      simp only [h1, if_false, Option.map_eq_some_iff] at hb
      obtain ⟨j, hj, rfl⟩ := hb
      obtain ⟨o2, o, p1, p2, p3⟩ := hk.at _ _ hj
      exact .inr ⟨o2, o, by rw [List.getElem?_append_right (by omega)]; exact p1, by rw [List.getElem?_append_right (by omega)]; simpa using p2, p3⟩
  · by_cases h1 : g < H0.length
    · rw [List.getElem?_append_left h1] at hg ⊢
      exact ⟨keep_old h1, hg⟩
    · rw [List.getElem?_append_right (by omega)] at hg
      exact absurd hg (hk.glob _ _ _)
section
variable {P : Program} {H0 L L2 : AHeap} {n0 nt : Nat} {T T2 : Nat → Value} {fn : Func} {Q : Value → AHeap → Prop} {vs : List Value} {v v2 : Value}
/-- A result without addresses: the own blocks are dropped. -/
theorem ret_drop {s : ASt} (hs : s = ⟨nt, T, [], H0 ++ L⟩) (hr : ARes P s fn.results.toList vs) (hv : retv vs = v) (hn : noAddr v = true) (hQ : Q v H0) : Ret P H0 fn Q s := by
  subst hs hv
  have hg := gc_keep (H0 := H0) (L := L) (L2 := []) rfl (js := []) .nil trivial
  rw [List.append_nil] at hg
  exact ⟨.nil, .inr ⟨vs, _, _, H0, hr, hg, .noAddr hn, hQ⟩⟩
theorem ret_drop1 {s : ASt} (hs : s = ⟨nt, T, [], H0 ++ L⟩) (hr : ARes P s fn.results.toList [v]) (hn : noAddr v = true) (hQ : Q v H0) : Ret P H0 fn Q s := ret_drop hs hr rfl hn hQ
theorem ret_keep {s : ASt} (js : List Nat) (hs : s = ⟨nt, T, [], H0 ++ L⟩) (h0 : H0.length = n0) (hr : ARes P s fn.results.toList vs) (hnd : js.Nodup) (hk : KSub (keep n0 js) L L2 js) (hv : VSub (keep n0 js) v2 (retv vs)) (hQ : Q v2 (H0 ++ L2)) : Ret P H0 fn Q s := by
  subst hs
  exact ⟨.nil, .inr ⟨vs, _, _, H0 ++ L2, hr, gc_keep h0 hnd hk, hv, hQ⟩⟩
theorem wk_keep {F : Fence} {n : Nat} (js : List Nat) (h0 : H0.length = n0) (hnd : js.Nodup) (hk : KSub (keep n0 js) L L2 js) (hT : ∀ t, VSub (keep n0 js) (T2 t) (T t)) : Wk H0 ⟨nt, T, [], H0 ++ L⟩ ⟨nt, T2, [], H0 ++ L2⟩ :=
  Gc.wk (gc_keep h0 hnd hk) rfl hT trivial
/-- The slots of a list, behind a change of names. -/
def USub (φ : Nat → Option Nat) (T : Nat → Value) : List (Nat × Value) → Prop
  | [] => True
  | (k, v) :: l => VSub φ v (T k) ∧ USub φ T l
theorem U_sub {φ : Nat → Option Nat} : ∀ {l : List (Nat × Value)}, USub φ T l → ∀ t, VSub φ (U l t) (T t)
  | [], _, t => .junk _
  | (k, v) :: l, ⟨h1, h2⟩, t => by
    rw [U_cons]
    cases e : Nat.beq t k with
    | true =>
      have := Nat.eq_of_beq_eq_true e
      subst this
      exact h1
    | false => exact U_sub h2 t
end
/-- The walk begins with no blocks of its own. -/
theorem acalls_begin {P : Program} {f : FuncId} {fn : Func} {c : Code} {args : List Value} {H : AHeap} {Q : Value → AHeap → Prop} (hf : P.funcs[f]? = some fn) (hb : fn.body = some c) {nt : Nat} (hnt : fn.ntmps = nt) (hn : Nat.ble args.length nt = true)
    (h : awp Fence.wide 1 P H c (RetQ P H fn Q) ⟨nt, T0 args, [], H ++ []⟩) : ACalls P f args H Q := acalls_of hf hb hnt (Nat.le_of_ble_eq_true hn) (by rw [List.append_nil] at h; exact h)
section
variable {F : Fence} {n : Nat} {P : Program} {N0 : AHeap} {Q : AEx → ASt → Prop} {s : ASt}
theorem awp_exit_wk {id : Nat} (h : ∃ s2, Wk N0 s s2 ∧ Q (.exit id) s2) : awp F n P N0 (.exit id) Q s := by
  obtain ⟨s2, h1, h2⟩ := h; exact awp_wk h1 (awp_exit h2)
theorem awp_ret_wk (h : ∃ s2, Wk N0 s s2 ∧ Q .ret s2) : awp F n P N0 .ret Q s := by
  obtain ⟨s2, h1, h2⟩ := h; exact awp_wk h1 (awp_ret h2)
theorem awp_skip_wk (h : ∃ s2, Wk N0 s s2 ∧ Q .normal s2) : awp F n P N0 .skip Q s := by
  obtain ⟨s2, h1, h2⟩ := h; exact awp_wk h1 (awp_skip h2)
theorem awp_goto_wk {l : Nat} (h : ∃ s2, Wk N0 s s2 ∧ Q (.goto l) s2) : awp F n P N0 (.goto l) Q s := by
  obtain ⟨s2, h1, h2⟩ := h; exact awp_wk h1 (awp_goto h2)
end
end Go.Proofs.YtbjlabokijchpaaA
