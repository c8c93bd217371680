/-
  Marks of many ranges; more ends.
-/
import Derived.Test.YtbjlabokijchpaaB4
import Derived.Scope
namespace Go.Proofs.YtbjlabokijchpaaA
set_option linter.unusedVariables false
open Go Go.RowKit Go.Shelf
def marks (D : List Nat) : List (Nat × AObj) := D.map fun d => (d, AObj.mark)
section
variable {H0 : AHeap} {X : Nat → Prop} {Z : Rs} {H H' : AHeap} {F F' : List (Nat × AObj)}
theorem St.perm (h : St H0 X Z H F) (p : F'.Perm F) : St H0 X Z H F' :=
  ⟨h.kp, ((p.map (·.1)).nodup_iff).2 h.nd, fun q hq => h.get q (p.mem_iff.1 hq), fun q hq => h.own q (p.mem_iff.1 hq), fun b vs sz hz => ⟨(h.z b vs sz hz).1, fun q hq => (h.z b vs sz hz).2 q (p.mem_iff.1 hq)⟩⟩
theorem St.sub (h : St H0 X Z H F) (p : F'.Sublist F) : St H0 X Z H F' :=
  ⟨h.kp, h.nd.sublist (p.map _), fun q hq => h.get q (p.subset hq), fun q hq => h.own q (p.subset hq), fun b vs sz hz => ⟨(h.z b vs sz hz).1, fun q hq => (h.z b vs sz hz).2 q (p.subset hq)⟩⟩
/-- A range's mark goes to the others. -/
theorem St.mark1 {E : List (Nat × AObj)} {d : Nat} {D : List Nat} (h : St H0 X Z H ((d, .mark) :: (E ++ marks D))) : St H0 X Z H (E ++ marks (d :: D)) := h.perm List.perm_middle
theorem St.marks0 {E : List (Nat × AObj)} (h : St H0 X Z H E) : St H0 X Z H (E ++ marks []) := by rw [show marks [] = [] from rfl, List.append_nil]; exact h
theorem St.marks_at {E : List (Nat × AObj)} {D : List Nat} (h : St H0 X Z H (E ++ marks D)) : ∀ d ∈ D, H[d]? = some .mark := fun d hd => h.get (d, .mark) (List.mem_append_right _ (List.mem_map_of_mem (f := fun d => (d, AObj.mark)) hd))
theorem St.marks_nodup {E : List (Nat × AObj)} {D : List Nat} (h : St H0 X Z H (E ++ marks D)) : D.Nodup := by
  have h1 := h.nd
  rw [List.map_append] at h1
  have h2 := (List.nodup_append.1 h1).2.1
  have e : (marks D).map (·.1) = D := by unfold marks; rw [List.map_map]; exact List.map_id _
  rwa [e] at h2
theorem kp_unmark {X : Nat → Prop} : ∀ (D : List Nat) {H0 H : AHeap}, Kp X H0 H → (∀ d ∈ D, H0.length ≤ d) → Kp X H0 (unmark D H)
  | [], _, _, h, _ => h
  | d :: D, H0, H, h, hd => by
    refine kp_unmark D (H0 := H0) (H := H.set d .none) ⟨by simpa using h.len, fun b hb hx => ?_⟩ (fun e he => hd e (List.mem_cons_of_mem _ he))
    have := hd d List.mem_cons_self
    rw [List.getElem?_set, if_neg (by omega)]; exact h.get b hb hx
theorem St.marks_own {E : List (Nat × AObj)} {D : List Nat} (h : St H0 none0 Z H (E ++ marks D)) : ∀ d ∈ D, H0.length ≤ d := fun d hd => (h.own (d, .mark) (List.mem_append_right _ (List.mem_map_of_mem (f := fun d => (d, AObj.mark)) hd))).resolve_right fun h => h
end
section
variable {P : Program} {N0 H : AHeap} {nt : Nat} {T : Nat → Value} {fn : Func} {Q : Value → AHeap → Prop} {vs : List Value} {v : Value} {s : ASt} {D : List Nat} {Z : Rs} {E : List (Nat × AObj)}
theorem ret_noneDs (hs : s = ⟨nt, T, D, H⟩) (hS : St N0 none0 Z H (E ++ marks D)) (hr : ARes P ⟨nt, T, D, unmark D H⟩ fn.results.toList vs) (hv : retv vs = v) (hn : noAddr v = true) (hQ : Q v N0) : Ret P N0 fn Q s := by
  subst hs hv
  exact ⟨hS.marks_nodup, .inr ⟨vs, _, _, N0, hr, gc_none (kp_unmark D hS.kp hS.marks_own), .noAddr hn, hQ⟩⟩
end
section
variable {F : Fence} {n : Nat} {P : Program} {N0 : AHeap} {Q : AEx → ASt → Prop} {s : ASt}
theorem awp_label_wk {l : Nat} (h : ∃ s2, Wk N0 s s2 ∧ Q .normal s2) : awp F n P N0 (.label l) Q s := awp_post (awp_label h)
end
/-- Nothing jumps. -/
def AEx.noGoto (Q : AEx → ASt → Prop) : AEx → ASt → Prop
  | .goto _, _ => False
  | e, s => Q e s
theorem awp_scope {n : Nat} {P : Program} {N0 : AHeap} {Q : AEx → ASt → Prop} {s : ASt} {c : Code} (h : awp Fence.wide n P N0 c (AEx.noGoto Q) s) : awp Fence.wide n P N0 (.scope c) Q s := by
  intro ρ a w hs
  refine wpIn_wide.2 (wp_scope_straight (wpIn_wide.1 (wpIn_mono (h ρ a w hs) ?_)))
  rintro e a' w' ⟨x, s', ρ', rfl, h2, h3, h4⟩
  cases x with
  | goto l => exact h2.elim
  | normal => exact ⟨.normal, s', ρ', rfl, h2, h3, h4⟩
  | exit id => exact ⟨.exit id, s', ρ', rfl, h2, h3, h4⟩
  | ret => exact ⟨.ret, s', ρ', rfl, h2, h3, h4⟩
section
variable {Q : AEx → ASt → Prop} {s : ASt}
theorem ng_normal (h : Q .normal s) : AEx.noGoto Q .normal s := h
theorem ng_ret (h : Q .ret s) : AEx.noGoto Q .ret s := h
theorem ng_exit {i : Nat} (h : Q (.exit i) s) : AEx.noGoto Q (.exit i) s := h
end
/-- New blocks, each by its name; else all is as it was. -/
def NewL (H H' : AHeap) (L : List (Nat × AObj)) : Prop := K0 H H' ∧ (L.map (·.1)).Nodup ∧ (∀ p ∈ L, H.length ≤ p.1) ∧ AllAt H' L
theorem allAt_of {H : AHeap} : ∀ {l : List (Nat × AObj)}, (∀ p ∈ l, H[p.1]? = some p.2) → AllAt H l
  | [], _ => trivial
  | q :: l, h => ⟨h q List.mem_cons_self, allAt_of fun p hp => h p (List.mem_cons_of_mem _ hp)⟩
section
variable {H0 : AHeap} {X : Nat → Prop} {Z : Rs} {H H' : AHeap} {F L : List (Nat × AObj)}
theorem St.newL (h : St H0 none0 Z H F) : NewL H0 H F := ⟨h.kp, h.nd, fun p hp => (h.own p hp).resolve_right fun h => h, allAt_of h.get⟩
theorem St.callL (h : St H0 X Z H F) (k : NewL H H' L) : St H0 X Z H' (L ++ F) := by
  obtain ⟨k1, k2, k3, k4⟩ := k
  refine h.turn k1 (L ++ F) ?_ (fun p hp => ?_) (fun _ h => h.elim)
  · rw [List.map_append]
    refine List.nodup_append.2 ⟨k2, h.nd, fun a ha b hb e => ?_⟩
    obtain ⟨p, hp, rfl⟩ := List.mem_map.1 ha
    obtain ⟨q, hq, rfl⟩ := List.mem_map.1 hb
    have h1 := k3 p hp
    have h2 := lt_of_some (h.get q hq)
    omega
  · rcases List.mem_append.1 hp with hp | hp
    · exact .inr ⟨k4.mem p hp, .inl (k3 p hp)⟩
    · exact .inl ⟨hp, fun h => h⟩
end
theorem newL_append {H : AHeap} {a b : AObj} : NewL H (H ++ [a, b]) [(H.length, a), (H.length + 1, b)] := by
  refine ⟨⟨by simp, fun c hc _ => by rw [List.getElem?_append_left hc]⟩, by simp, fun p hp => ?_, ?_, ?_, trivial⟩
  · simp only [List.mem_cons, List.not_mem_nil, or_false] at hp
    rcases hp with rfl | rfl <;> simp
  · simp
  · simp
/-- What may be read, some blocks aside. -/
abbrev Off (H : AHeap) (ks : List Nat) : Rs := fun b vs sz => Rd H b vs sz ∧ b ∉ ks
theorem off_kp {H H' : AHeap} {ks : List Nat} (k : Kp (· ∈ ks) H H') : ∀ b vs sz, Off H ks b vs sz → Off H' ks b vs sz := fun b vs sz h => ⟨k.rd h.1 h.2, h.2⟩
theorem SlZ.off {α : Type} {f : α → Value} {H H' : AHeap} {ks : List Nat} {v : Value} {l : List α} (h : SlZ f (Off H ks) v l) (k : Kp (· ∈ ks) H H') : SlZ f (Off H' ks) v l := h.mono (off_kp k)
theorem SlZ.offsl {α : Type} {f : α → Value} {H : AHeap} {ks : List Nat} {v : Value} {l : List α} (h : SlZ f (Off H ks) v l) : Sl f H v l := SlZ.mono (Z' := Rd H) h fun _ _ _ h => h.1
theorem kp_at {H H' : AHeap} {ks : List Nat} (k : Kp (· ∈ ks) H H') {b : Nat} {o : AObj} (h : H[b]? = some o) (hb : b ∉ ks) : H'[b]? = some o := by rw [k.get _ (lt_of_some h) hb]; exact h
section
variable {H0 : AHeap} {X : Nat → Prop} {Z : Rs} {H H' : AHeap} {F F' : List (Nat × AObj)} {α : Type} {f : α → Value}
/-- Blocks that may be read, ones of F among them that are not turned. -/
theorem St.offz (h : St H0 X Z H F) {ks : List Nat} (hk : ∀ b ∈ ks, b ∈ F.map (·.1)) {v : Value} {l : List α} (hs : SlZ f Z v l) : SlZ f (Off H ks) v l := hs.mono fun b vs sz hz => by
  obtain ⟨h1, h2⟩ := h.z b vs sz hz
  refine ⟨h1, fun hm => ?_⟩
  obtain ⟨p, hp, e⟩ := List.mem_map.1 (hk b hm)
  exact h2 p hp e
theorem St.offj (h : St H0 X Z H F) {ks : List Nat} {j b n c : Nat} {w : Bool} {l : List α} (hj : F[j]? = some (b, .cells w (l.map f) 1)) (hb : b ∉ ks) (hn : l.length = n) (hc : n ≤ c) : SlZ f (Off H ks) (.slice (some ⟨b, 0, none⟩) n c) l := slz_full ⟨h.rd hj, hb⟩ hn hc
end
theorem allAt_mem {H : AHeap} {l : List (Nat × AObj)} (h : AllAt H l) : ∀ p ∈ l, H[p.1]? = some p.2 := fun p hp => h.mem p hp
theorem nin1 {a b : Nat} (h : a ≠ b) : a ∉ [b] := by simp [h]
theorem nin2 {a b c : Nat} (h : a ≠ b) (k : a ≠ c) : a ∉ [b, c] := by simp [h, k]
theorem nin3 {a b c d : Nat} (h : a ≠ b) (k : a ≠ c) (m : a ≠ d) : a ∉ [b, c, d] := by simp [h, k, m]
theorem nod2 {a b : Nat} (h : a ≠ b) : [a, b].Nodup := by simp [h]
theorem nod3 {a b c : Nat} (h : a ≠ b) (k : a ≠ c) (m : b ≠ c) : [a, b, c].Nodup := by simp [h, k, m]
def keep1 (n b0 : Nat) : Nat → Option Nat := fun b => if b < n then some b else if b = n then some b0 else none
theorem gc_one {N0 H : AHeap} (k : K0 N0 H) {b0 : Nat} (hb : N0.length ≤ b0) {o : AObj} (ho : H[b0]? = some o) (hO : OSub (keep1 N0.length b0) o o) (hg : ∀ vs sz, o ≠ .glob vs sz) : Gc N0 (keep1 N0.length b0) H (N0 ++ [o]) := by
  have e1 : ∀ b c, keep1 N0.length b0 b = some c → (b < N0.length ∧ c = b) ∨ (b = N0.length ∧ c = b0) := fun b c h => by
    unfold keep1 at h
    split at h
    · rename_i hb; cases h; exact .inl ⟨hb, rfl⟩
    · split at h
      · rename_i hb; cases h; exact .inr ⟨hb, rfl⟩
      · cases h
  refine ⟨fun b hb => if_pos hb, by simp, fun b c d hb' hc => ?_, fun b hb' => ?_, fun b c hb' => ?_, fun g vs sz hg' => ?_⟩
  · rcases e1 _ _ hb' with ⟨h1, rfl⟩ | ⟨h1, rfl⟩ <;> rcases e1 _ _ hc with ⟨h2, h3⟩ | ⟨h2, h3⟩ <;> omega
  · simp only [List.length_append, List.length_cons, List.length_nil] at hb'
    unfold keep1; rw [if_neg (by omega), if_neg (by omega)]
  · rcases e1 _ _ hb' with ⟨h1, rfl⟩ | ⟨rfl, rfl⟩
    · exact .inl ⟨h1, (k.get _ h1 fun h => h).symm, by rw [List.getElem?_append_left h1]; exact (k.get _ h1 fun h => h).symm⟩
    · exact .inr ⟨o, o, by simp, ho, hO⟩
  · by_cases hl : g < N0.length
    · rw [List.getElem?_append_left hl] at hg'
      exact ⟨if_pos hl, by rw [k.get _ hl fun h => h]; exact hg'⟩
    · rw [List.getElem?_append_right (by omega)] at hg'
      have := List.mem_of_getElem? hg'
      simp at this
      exact absurd this.symm (hg vs sz)
theorem entry_of {N0 H' : AHeap} {ρ ρ' : Ren} {w w' : World} (hh : HRel ρ N0 w) (hf : Fr N0.length ρ N0 w ρ' H' w') : Entry N0 ρ' :=
  Entry.of (ρ := ρ) ⟨ρ, w, hh, fun _ _ => ⟨fun h => h, fun l h h2 => by rw [h] at h2; cases h2⟩⟩ hf.old
/-- A new slice, as a quiet answer: its block is the next one. -/
theorem acalls_fresh {α : Type} {f : α → Value} {l : List α} {P : Program} {g : FuncId} {args : List Value} {H : AHeap} (hs : ∀ x, Scalar (f x) = true) (h : ACalls P g args H (Fresh f l H)) :
    ACalls P g args H (Rets (.slice (some ⟨H.length, 0, none⟩) l.length l.length) (H ++ [.cells true (l.map f) 1])) := by
  intro ρ w args' hh ha
  refine (h ρ w args' hh ha).mono ?_
  rintro e w' ⟨v, v', H', ρ', rfl, ⟨k, b, rfl, hb, ho⟩, h2, h3, h4, h5⟩
  have hg := gc_one k hb ho (.cells (.scalars (by simp only [List.all_map, List.all_eq_true]; intro x _; exact hs x))) (by simp)
  have hφ : keep1 H.length b H.length = some b := by unfold keep1; rw [if_neg (by omega), if_pos rfl]
  refine ⟨_, v', _, comp (keep1 H.length b) ρ', rfl, ⟨rfl, rfl⟩, VSub.slice hφ ρ' v' h2, hg.heap h3 (entry_of hh h4), h4.trans (hg.fr ρ' w'), by simp⟩
theorem i64v_sc (x : Nat) : Scalar (i64v x) = true := rfl
theorem u32v_sc (x : Nat) : Scalar (u32v x) = true := rfl
theorem u64v_sc (x : Nat) : Scalar (u64v x) = true := rfl
theorem u8v_sc (x : Nat) : Scalar (u8v x) = true := rfl
theorem strv_sc (x : ByteArray) : Scalar (strv x) = true := rfl
theorem boolv_sc (x : Bool) : Scalar (boolv x) = true := rfl
theorem intv_sc (x : Int) : Scalar (intv x) = true := rfl
/-- A quiet operation that makes two blocks. -/
theorem x_new2 {Fc : Fence} {n : Nat} {P : Program} {N0 : AHeap} {ops : Array Oper} {o : Oper} {rest : List Oper} {K : ASt → Prop} {nt : Nat} {T : Nat → Value} {D : List Nat} {d : Tmp} {tab : List Nat} {i : Nat} {H0 : AHeap} {X : Nat → Prop} {Z : Rs} {H : AHeap} {F : List (Nat × AObj)} (vf : Nat → Nat → Value) {o1 o2 : AObj} (hS : St H0 X Z H F) (hg : GYes ops o T) (hq : OpQ P o T H (vf H.length (H.length + 1)) [o1, o2]) (hd : o.dst = some d) (hn : d < nt) (hc : ∀ x ∈ o.op.operands, cOk H x)
    (hk : ∀ b c H', H.length ≤ b → H.length ≤ c → St H0 X Z H' ((b, o1) :: (c, o2) :: F) → dList Fc n P N0 ops tab (i + 1) rest K ⟨nt, upd T d (vf b c), D, H'⟩) : dList Fc n P N0 ops tab i (o :: rest) K ⟨nt, T, D, H⟩ := by
  refine dn hg hq hd hn hc rfl (hk _ _ _ (Nat.le_refl _) (Nat.le_succ _) ?_)
  have h := (hS.push o1).push o2
  rw [List.append_assoc, List.length_append] at h
  exact h.perm (.swap _ _ _)
end Go.Proofs.YtbjlabokijchpaaA
