/-
  A law's arguments, slices and slices of slices among them, as blocks.
-/
import Derived.Test.YtbjlabokijchpaaB8
import Derived.Test.YtbjlabokijchpaaA23
namespace Go.Proofs.YtbjlabokijchpaaA
set_option linter.unusedVariables false
open Go Go.RowKit Go.Shelf Go.ChangeShapes
def rhoP (ls : List Plc) : Ren := fun b => ls.getD b .none
def AtOff (ρ : Ren) (off : Nat) (ls : List Plc) : Prop := ∀ (i : Nat) (p : Plc), ls[i]? = some p → ρ (off + i) = p
def InH (H : AHeap) (off : Nat) (L : AHeap) : Prop := ∀ (i : Nat) (o : AObj), L[i]? = some o → H[off + i]? = some o
theorem AtOff.app {ρ : Ren} {off : Nat} {a b : List Plc} (h : AtOff ρ off (a ++ b)) : AtOff ρ off a ∧ AtOff ρ (off + a.length) b := by
  refine ⟨fun i p hi => h i p ?_, fun i p hi => ?_⟩
  · rw [List.getElem?_append_left (List.getElem?_eq_some_iff.1 hi).1]; exact hi
  · have := h (a.length + i) p (by rw [List.getElem?_append_right (by omega)]; simpa using hi)
    rw [Nat.add_assoc]; exact this
theorem InH.app {H : AHeap} {off : Nat} {a b : AHeap} (h : InH H off (a ++ b)) : InH H off a ∧ InH H (off + a.length) b := by
  refine ⟨fun i p hi => h i p ?_, fun i p hi => ?_⟩
  · rw [List.getElem?_append_left (List.getElem?_eq_some_iff.1 hi).1]; exact hi
  · have := h (a.length + i) p (by rw [List.getElem?_append_right (by omega)]; simpa using hi)
    rw [Nat.add_assoc]; exact this
theorem InH.refl (H : AHeap) : InH H 0 H := fun i o h => by rw [Nat.zero_add]; exact h
def ArgP (ρ : Ren) (w : World) (p : Plc) (o : AObj) : Prop :=
  (p = .none ∧ o = .none) ∨ (p = .null ∧ o = .null) ∨ ∃ lc vs sz, p = .at lc ∧ o = .cells false vs sz ∧ lc.blk < w.heap.size ∧ ORel ρ lc w (.cells false vs sz)
structure PArg (w : World) (v : Value) (off : Nat) (ls : List Plc) (L : AHeap) (va : Value) : Prop where
  len : ls.length = L.length
  obj : ∀ ρ : Ren, AtOff ρ off ls → ∀ (i : Nat) (p : Plc), ls[i]? = some p → ∃ o : AObj, L[i]? = some o ∧ ArgP ρ w p o
  val : ∀ ρ, AtOff ρ off ls → VRel ρ va v
inductive PAll (w : World) : Nat → List Value → List Plc → AHeap → List Value → Prop
  | nil (off : Nat) : PAll w off [] [] [] []
  | cons {off : Nat} {v va : Value} {vs vas : List Value} {ls ls' : List Plc} {L L' : AHeap} (h : PArg w v off ls L va) (k : PAll w (off + ls.length) vs ls' L' vas) : PAll w off (v :: vs) (ls ++ ls') (L ++ L') (va :: vas)
theorem PArg.scalar {w : World} {v : Value} (off : Nat) (h : Scalar v = true) : PArg w v off [] [] v := ⟨rfl, fun ρ _ i p h => by simp at h, fun ρ _ => .scalar h ρ⟩
theorem PAll.sum {w : World} : ∀ {off : Nat} {vs vas : List Value} {ls : List Plc} {L : AHeap}, PAll w off vs ls L vas → ls.length = L.length ∧ (∀ ρ : Ren, AtOff ρ off ls → (∀ (i : Nat) (p : Plc), ls[i]? = some p → ∃ o : AObj, L[i]? = some o ∧ ArgP ρ w p o) ∧ LRel ρ vas vs) := by
  intro off vs vas ls L h
  induction h with
  | nil off => exact ⟨rfl, fun ρ _ => ⟨fun i p h => by simp at h, .nil ρ⟩⟩
  | @cons off v va vs vas ls ls' L L' h k ih =>
    refine ⟨by rw [List.length_append, List.length_append, h.len, ih.1], fun ρ hρ => ?_⟩
    obtain ⟨h1, h2⟩ := hρ.app
    obtain ⟨h3, h4⟩ := ih.2 ρ h2
    refine ⟨fun i p hi => ?_, .cons (h.val ρ h1) h4⟩
    by_cases e : i < ls.length
    · rw [List.getElem?_append_left e] at hi
      obtain ⟨o, k1, k2⟩ := h.obj ρ h1 i p hi
      exact ⟨o, by rw [List.getElem?_append_left (by rw [← h.len]; exact e)]; exact k1, k2⟩
    · rw [List.getElem?_append_right (by omega)] at hi
      obtain ⟨o, k1, k2⟩ := h3 _ p hi
      exact ⟨o, by rw [List.getElem?_append_right (by rw [← h.len]; omega), ← h.len]; exact k1, k2⟩
theorem world_of_acallsP {P : Program} {f : FuncId} {args : List Value} {args' : Array Value} {H : AHeap} {ls : List Plc} {v : Value} {w : World} (hA : PAll w 0 args'.toList ls H args) (hv : Scalar v = true) (h : ACalls P f args H (Rets v H)) :
    Calls P f args' w fun e w' => e = .returned v ∧ Below w.heap.size w w' := by
  obtain ⟨hlen, hs⟩ := hA.sum
  have hat : AtOff (rhoP ls) 0 ls := fun i p hi => by
    rw [Nat.zero_add]; unfold rhoP; rw [List.getD_eq_getElem?_getD, hi]; rfl
  obtain ⟨hob, hval⟩ := hs _ hat
  have hrev : ∀ (b : Nat) (o : AObj), H[b]? = some o → ∃ p, ls[b]? = some p ∧ ArgP (rhoP ls) w p o := fun b o hb => by
    have hbl := (List.getElem?_eq_some_iff.1 hb).1
    obtain ⟨o', h1, h2⟩ := hob b _ (List.getElem?_eq_getElem (by rw [hlen]; exact hbl))
    rw [hb] at h1; cases h1
    exact ⟨_, List.getElem?_eq_getElem (by rw [hlen]; exact hbl), h2⟩
  have hget : ∀ b p, rhoP ls b = p → p ≠ .none → ls[b]? = some p := fun b p hb hn => by
    unfold rhoP at hb
    rw [List.getD_eq_getElem?_getD] at hb
    cases e : ls[b]? with
    | none => rw [e] at hb; exact absurd hb.symm hn
    | some q => rw [e] at hb; exact congrArg some hb
  have hnw : ∀ b l, rhoP ls b = .at l → ¬ wr H b := fun b l hb ⟨o, h1, h2⟩ => by
    obtain ⟨o', h3, h4⟩ := hob b _ (hget b _ hb (by simp))
    rw [h1] at h3; cases h3
    rcases h4 with ⟨h3, _⟩ | ⟨h3, _⟩ | ⟨lc, vs, sz, h3, rfl, _⟩
    · cases h3
    · cases h3
    · cases h2
  have hh : HRel (rhoP ls) H w := by
    refine ⟨fun b hb => ?_, fun b l hb => ?_, fun b c l m _ hb _ hw => absurd hw (hnw b l hb), fun g vs sz hg => ?_, fun b hb => ?_⟩
    · unfold rhoP
      rw [List.getD_eq_getElem?_getD, List.getElem?_eq_none (by rw [hlen]; exact hb)]; rfl
    · obtain ⟨o, h1, h2⟩ := hob b _ (hget b _ hb (by simp))
      rcases h2 with ⟨h3, _⟩ | ⟨h3, _⟩ | ⟨lc, vs, sz, h3, rfl, h4, h5⟩
      · cases h3
      · cases h3
      · cases h3; exact ⟨_, h1, h4, h5⟩
    · obtain ⟨p, _, h3⟩ := hrev g _ hg
      rcases h3 with ⟨_, h3⟩ | ⟨_, h3⟩ | ⟨lc, vs, sz, _, h3, _⟩ <;> cases h3
    · obtain ⟨o, h1, h2⟩ := hob b _ (hget b _ hb (by simp))
      rcases h2 with ⟨h3, _⟩ | ⟨h3, _⟩ | ⟨lc, vs, sz, h3, _⟩ <;> cases h3
  refine (h _ w args' hh hval).mono ?_
  rintro e w' ⟨v1, v', H', ρ', rfl, ⟨rfl, rfl⟩, k1, k2, k3, k4⟩
  rw [k1.scalar_eq hv]
  exact ⟨rfl, k3.os, k3.tape, k3.output, k3.size, fun k hk => k3.keep k hk fun ⟨b, l, hb, _, hw⟩ => hnw b l hb hw⟩
/-! ### Slices that came in -/
/-- A slice in the world: its elements, of one cell each. -/
def SlC {α : Type} (f : α → Value) (w : World) (u : Value) (r : List α) : Prop :=
  (u = .slice none 0 0 ∧ r = []) ∨ ∃ x l c, u = .slice (some x) l c ∧ l ≤ c ∧ r.length = l ∧ (c = 0 ∨ (x.spot = none ∧ ∃ cs T fr, w.heap[x.block]? = some (.cells cs T fr) ∧ x.off + c ≤ cs.size ∧ ∀ i (h : i < r.length), cs[x.off + i]? = some (f r[i])))
theorem AtOff.one {ρ : Ren} {off : Nat} {p : Plc} (h : AtOff ρ off [p]) : ρ off = p := h 0 p rfl
theorem parg_one {w : World} {v va : Value} {off : Nat} {p : Plc} {o : AObj} (h1 : ∀ ρ, ρ off = p → ArgP ρ w p o) (h2 : ∀ ρ, ρ off = p → VRel ρ va v) : PArg w v off [p] [o] va :=
  ⟨rfl, fun ρ hρ i q hi => by
    cases i with
    | zero => simp at hi; subst hi; exact ⟨o, rfl, h1 ρ hρ.one⟩
    | succ i => simp at hi, fun ρ hρ => h2 ρ hρ.one⟩
theorem parg_row {α : Type} {f : α → Value} (hf : ∀ x, Scalar (f x) = true) {w : World} {u : Value} {r : List α} (h : SlC f w u r) (off : Nat) : ∃ p o va, PArg w u off [p] [o] va ∧ ∀ H, InH H off [o] → Sl f H va r := by
  rcases h with ⟨rfl, rfl⟩ | ⟨x, l, c, rfl, hl, hr, h⟩
  · exact ⟨.none, .none, .slice none 0 0, parg_one (fun ρ _ => .inl ⟨rfl, rfl⟩) (fun ρ _ => .nilSlice), fun H _ => .nil⟩
  · by_cases h0 : c = 0
    · subst h0
      obtain rfl : l = 0 := by omega
      obtain rfl : r = [] := List.length_eq_zero_iff.1 hr
      exact ⟨.null, .null, .slice (some ⟨off, 0, none⟩) 0 0, parg_one (fun ρ _ => .inr (.inl ⟨rfl, rfl⟩)) (fun ρ h => .empty h), fun H hH => .inr ⟨off, 0, 0, [], rfl, .inr (.inr ⟨hH 0 _ rfl, rfl⟩), by simp, by simp, fun i h => by simp at h⟩⟩
    · obtain ⟨hsp, cs, T, fr, hb, hsz, hc⟩ := h.resolve_left h0
      have hlt : x.block < w.heap.size := (Array.getElem?_eq_some_iff.1 hb).1
      have hx : x = ⟨x.block, x.off, none⟩ := by cases x; simp at hsp; subst hsp; rfl
      refine ⟨.at ⟨x.block, x.off, x.off + c, 1⟩, .cells false (r.map f) 1, .slice (some ⟨off, 0, none⟩) l c, parg_one (fun ρ hρ => .inr (.inr ⟨_, _, _, rfl, rfl, hlt, rfl, cs, T, fr, hb, by simp; omega, hsz, fun i hi => ?_, fun h => by cases h⟩)) (fun ρ hρ => ?_), fun H hH => ?_⟩
      · have hi' : i < r.length := by simpa using hi
        have h1 := hc i hi'
        have e1 : (r.map f).getD i undef = f r[i] := by simp [hi']
        have e2 : cs.getD (x.off + i) undef = f r[i] := by rw [Array.getD_eq_getD_getElem?, h1]; rfl
        rw [e1]
        show VRel ρ (f r[i]) (cs.getD (x.off + i) undef)
        rw [e2]
        exact .scalar (hf _) ρ
      · rw [hx]
        exact .slice hρ hl (Nat.le_refl _) (.inl rfl) (by simp)
      · exact .inr ⟨off, 0, c, r.map f, by rw [hr], .inl ⟨false, hH 0 _ rfl⟩, by simp, by omega, fun i h => by simp [h]⟩
/-- A slice of slices. -/
structure Sl2C {α : Type} (f : α → Value) (w : World) (u : Value) (us : List Value) (rs : List (List α)) : Prop where
  out : SlC (fun v : Value => v) w u us
  len : us.length = rs.length
  row : ∀ i (h : i < us.length), SlC f w us[i] (nth rs i)
theorem parg_rows {α : Type} {f : α → Value} (hf : ∀ x, Scalar (f x) = true) {w : World} {u : Value} {us : List Value} {rs : List (List α)} (h : Sl2C f w u us rs) (off : Nat) : ∃ ls L va, PArg w u off ls L va ∧ ∀ H, InH H off L → Sl2Z f (Rd H) va rs := by
  have hex : ∀ i : Nat, ∃ g : Plc × AObj × Value, ∀ (hi : i < us.length), PArg w us[i] (off + 1 + i) [g.1] [g.2.1] g.2.2 ∧ ∀ H, InH H (off + 1 + i) [g.2.1] → Sl f H g.2.2 (nth rs i) := fun i => by
    by_cases hi : i < us.length
    · obtain ⟨p, o, va, h1, h2⟩ := parg_row hf (h.row i hi) (off + 1 + i)
      exact ⟨(p, o, va), fun _ => ⟨h1, h2⟩⟩
    · exact ⟨(.none, .none, undef), fun h => absurd h hi⟩
  obtain ⟨g, hg⟩ : ∃ g : Nat → Plc × AObj × Value, ∀ i (hi : i < us.length), PArg w us[i] (off + 1 + i) [(g i).1] [(g i).2.1] (g i).2.2 ∧ ∀ H, InH H (off + 1 + i) [(g i).2.1] → Sl f H (g i).2.2 (nth rs i) := ⟨fun i => (hex i).choose, fun i => (hex i).choose_spec⟩
  -- what lies behind the outer block
  have key : ∀ (p0 : Plc) (o0 : AObj) (va : Value), (∀ ρ, ρ off = p0 → (∀ i (hi : i < us.length), VRel ρ (g i).2.2 us[i]) → ArgP ρ w p0 o0) → (∀ ρ, ρ off = p0 → VRel ρ va u) → PArg w u off (p0 :: (List.range us.length).map fun i => (g i).1) (o0 :: (List.range us.length).map fun i => (g i).2.1) va := by
    intro p0 o0 va h1 h2
    have hrow : ∀ ρ, AtOff ρ off (p0 :: (List.range us.length).map fun i => (g i).1) → ∀ i, i < us.length → AtOff ρ (off + 1 + i) [(g i).1] := fun ρ hρ i hi j p hj => by
      cases j with
      | zero =>
        simp at hj; subst hj
        have := hρ (i + 1) (g i).1 (by simp [hi])
        rw [show off + 1 + i + 0 = off + (i + 1) by omega]; exact this
      | succ j => simp at hj
    refine ⟨by simp, fun ρ hρ i p hi => ?_, fun ρ hρ => h2 ρ (hρ 0 _ rfl)⟩
    cases i with
    | zero =>
      simp at hi; subst hi
      exact ⟨o0, rfl, h1 ρ (hρ 0 _ rfl) fun j hj => (hg j hj).1.val ρ (hrow ρ hρ j hj)⟩
    | succ i =>
      have hi' : i < us.length := by
        have := (List.getElem?_eq_some_iff.1 hi).1
        simpa using this
      have hp : (g i).1 = p := by simpa [hi'] using hi
      obtain ⟨o, k1, k2⟩ := (hg i hi').1.obj ρ (hrow ρ hρ i hi') 0 (g i).1 rfl
      simp at k1; subst k1 hp
      exact ⟨_, by simp [hi'], k2⟩
  have hin : ∀ (o0 : AObj) (H : AHeap), InH H off (o0 :: (List.range us.length).map fun i => (g i).2.1) → H[off]? = some o0 ∧ ∀ i (hi : i < us.length), Sl f H (g i).2.2 (nth rs i) := fun o0 H hH => by
    refine ⟨hH 0 o0 rfl, fun i hi => (hg i hi).2 H fun j o hj => ?_⟩
    cases j with
    | zero =>
      simp at hj; subst hj
      have := hH (i + 1) (g i).2.1 (by simp [hi])
      rw [show off + 1 + i + 0 = off + (i + 1) by omega]; exact this
    | succ j => simp at hj
  have hlen := h.len
  rcases h.out with ⟨rfl, he⟩ | ⟨x, l, c, rfl, hl, hr, ho⟩
  · subst he
    obtain rfl : rs = [] := List.length_eq_zero_iff.1 hlen.symm
    exact ⟨_, _, _, key .none .none (.slice none 0 0) (fun ρ _ _ => .inl ⟨rfl, rfl⟩) (fun ρ _ => .nilSlice), fun H _ => .inl ⟨rfl, rfl⟩⟩
  · by_cases h0 : c = 0
    · subst h0
      obtain rfl : l = 0 := by omega
      obtain rfl : us = [] := List.length_eq_zero_iff.1 hr
      obtain rfl : rs = [] := List.length_eq_zero_iff.1 hlen.symm
      exact ⟨_, _, _, key .null .null (.slice (some ⟨off, 0, none⟩) 0 0) (fun ρ _ _ => .inr (.inl ⟨rfl, rfl⟩)) (fun ρ h => .empty h), fun H hH => .inr ⟨off, 0, 0, [], rfl, .inr (.inr ⟨(hin _ H hH).1, rfl⟩), by simp, by simp, fun i h => by simp at h⟩⟩
    · obtain ⟨hsp, cs, T, fr, hb, hsz, hc⟩ := ho.resolve_left h0
      have hlt : x.block < w.heap.size := (Array.getElem?_eq_some_iff.1 hb).1
      have hx : x = ⟨x.block, x.off, none⟩ := by cases x; simp at hsp; subst hsp; rfl
      refine ⟨_, _, _, key (.at ⟨x.block, x.off, x.off + c, 1⟩) (.cells false ((List.range us.length).map fun i => (g i).2.2) 1) (.slice (some ⟨off, 0, none⟩) l c) (fun ρ hρ hv => .inr (.inr ⟨_, _, _, rfl, rfl, hlt, rfl, cs, T, fr, hb, by simp; omega, hsz, fun i hi => ?_, fun h => by cases h⟩)) (fun ρ hρ => ?_), fun H hH => ?_⟩
      · have hi' : i < us.length := by simpa using hi
        have h1 := hc i hi'
        have e1 : ((List.range us.length).map fun i => (g i).2.2).getD i undef = (g i).2.2 := by simp [hi']
        have e2 : cs.getD (x.off + i) undef = us[i] := by rw [Array.getD_eq_getD_getElem?, h1]; rfl
        rw [e1]
        show VRel ρ (g i).2.2 (cs.getD (x.off + i) undef)
        rw [e2]
        exact hv i hi'
      · rw [hx]
        exact .slice hρ hl (Nat.le_refl _) (.inl rfl) (by simp)
      · obtain ⟨k1, k2⟩ := hin _ H hH
        refine .inr ⟨off, 0, c, (List.range us.length).map fun i => (g i).2.2, by rw [← hlen, hr], .inl ⟨false, k1⟩, by simp; omega, by rw [← hlen]; omega, fun i hi => ⟨(g i).2.2, ?_, ?_⟩⟩
        · rw [Nat.zero_add]; simp [hlen, hi]
        · have := k2 i (by omega)
          rw [nth_eq hi] at this; exact this
/-! ### From the row's facts -/
theorem addr_at {x : Addr} (hsp : x.spot = none) (i : Nat) : x.add i = ⟨x.block, x.off + i, none⟩ := by
  have hx : x = ⟨x.block, x.off, none⟩ := by cases x; simp at hsp; subst hsp; rfl
  rw [hx]
  unfold Addr.add
  split
  · subst i; rfl
  · rfl
theorem cell_some {w : World} {a : Addr} {v : Value} (h : w.cell? a = some v) : a.spot = none ∧ ∃ cs T fr, w.heap[a.block]? = some (.cells cs T fr) ∧ cs[a.off]? = some v := by
  unfold World.cell? at h
  split at h
  · rename_i c T fr hb
    split at h
    · cases h
    · rename_i hs
      exact ⟨by simpa using hs, c, T, fr, hb, h⟩
  · cases h
theorem slc_of {α : Type} {f : α → Value} {w : World} {x : Addr} {l c : Nat} {r : List α} (hl : l ≤ c) (hr : r.length = l) (hc : ∀ i, i < c → ∃ v, w.cell? (x.add i) = some v) (hv : ∀ i (h : i < r.length), w.cell? (x.add i) = some (f r[i])) : SlC f w (.slice (some x) l c) r := by
  refine .inr ⟨x, l, c, rfl, hl, hr, ?_⟩
  by_cases h0 : c = 0
  · exact .inl h0
  · right
    obtain ⟨v0, h1⟩ := hc 0 (by omega)
    have e0 : x.add 0 = x := by unfold Addr.add; rw [if_pos rfl]
    rw [e0] at h1
    obtain ⟨hsp, cs, T, fr, hb, _⟩ := cell_some h1
    have at' : ∀ i v, w.cell? (x.add i) = some v → cs[x.off + i]? = some v := fun i v h => by
      rw [addr_at hsp] at h
      obtain ⟨_, cs', T', fr', hb', h2⟩ := cell_some h
      simp only at hb' h2
      rw [hb] at hb'; cases hb'
      exact h2
    refine ⟨hsp, cs, T, fr, hb, ?_, fun i h => at' i _ (hv i h)⟩
    obtain ⟨v, h2⟩ := hc (c - 1) (by omega)
    have := (Array.getElem?_eq_some_iff.1 (at' _ _ h2)).1
    omega
theorem trod_ints {H : Type} {enc : TypeId × Value → H} {P : Program} {w : World} {base fuel : Nat} {t e : TypeId} {k : IntKind} {u : Value} {x : DataW H × List MemPlace} (ht : P.underlying t = some (.slice e)) (he : P.underlying e = some (.int k)) (hc : P.cellsOf e = 1)
    (h : DataW.trod enc P w base (fun _ => true) true fuel t [u] = some x) : ∃ r : List Int, SlC (fun z => .int k z) w u r ∧ ∀ n ∈ r, (Lit.int k n).wf = true := by
  rcases open_ints ht he hc h with ⟨hcs, _⟩ | ⟨a, l, c, zs, hcs, _, hl, hm, hz, _, hcell, hwz⟩
  · simp at hcs; subst hcs
    exact ⟨[], .inl ⟨rfl, rfl⟩, by simp⟩
  · simp at hcs; subst hcs
    simp at hz
    have hcell' : ∀ i (h : i < zs.length), w.cell? (a.add i) = some (.int k zs[i]) := fun i h => by
      rw [hcell i h]; simp [List.getD_eq_getElem?_getD, h]
    refine ⟨zs.take l, slc_of hl (by rw [List.length_take]; omega) (fun i hi => ⟨_, hcell i (by omega)⟩) (fun i hi => ?_), fun n hn => hwz n (List.mem_of_mem_take hn)⟩
    rw [List.length_take] at hi
    rw [hcell' i (by omega), List.getElem_take]
theorem trod_rows {H : Type} {enc : TypeId × Value → H} {P : Program} {w : World} {base fuel : Nat} {t e e2 : TypeId} {k : IntKind} {u : Value} {x : DataW H × List MemPlace} (ht : P.underlying t = some (.slice e)) (he : P.underlying e = some (.slice e2)) (he2 : P.underlying e2 = some (.int k)) (hc : P.cellsOf e = 1) (hc2 : P.cellsOf e2 = 1)
    (h : DataW.trod enc P w base (fun _ => true) true fuel t [u] = some x) : ∃ us rs, Sl2C (fun z => .int k z) w u us rs ∧ ∀ r ∈ rs, ∀ n ∈ r, (Lit.int k n).wf = true := by
  rcases DataW.trod_slice ht h with ⟨hcs, _⟩ | ⟨a, l, c, elems, rest, n, _, hcs, _, _, hl, hm, hel, h1, h2, _⟩
  · simp at hcs; subst hcs
    exact ⟨[], [], ⟨.inl ⟨rfl, rfl⟩, rfl, fun i h => by simp at h⟩, by simp⟩
  · simp at hcs; subst hcs
    obtain ⟨hrl, h3⟩ := h2 rfl
    rw [hc] at h1 h3
    have one : ∀ i, i < c → ∃ v y, w.cell? (a.add i) = some v ∧ DataW.trod enc P w base (fun _ => true) true n e [v] = some y := fun i hi => by
      have h4 : ∃ y, (w.cells? base (a.add (i * 1)) 1).bind (DataW.trod enc P w base (fun _ => true) true n e) = some y := by
        by_cases hil : i < l
        · rw [h1 i hil]; exact ⟨_, List.getElem?_eq_getElem (by omega)⟩
        · have := h3 (i - l) (by omega)
          rw [show l + (i - l) = i by omega] at this
          rw [this]; exact ⟨_, List.getElem?_eq_getElem (by omega)⟩
      obtain ⟨y, h4⟩ := h4
      rw [Nat.mul_one, Option.bind_eq_some_iff] at h4
      obtain ⟨cs, hcs, hy⟩ := h4
      have hb : base ≤ (a.add i).block := by
        by_cases hb : base ≤ (a.add i).block
        · exact hb
        · unfold World.cells? at hcs; rw [if_neg hb] at hcs; cases hcs
      cases hv : w.cell? (a.add i) with
      | none =>
        unfold World.cells? at hcs
        rw [if_pos hb] at hcs
        have e0 : (a.add i).add 0 = a.add i := by unfold Addr.add; rw [if_pos rfl]
        simp [List.range_succ, e0, hv] at hcs
      | some v =>
        rw [cells?_one hb hv] at hcs
        cases hcs
        exact ⟨v, y, rfl, hy⟩
    have hex : ∀ i : Nat, ∃ g : Value × List Int, i < c → w.cell? (a.add i) = some g.1 ∧ SlC (fun z => .int k z) w g.1 g.2 ∧ ∀ n ∈ g.2, (Lit.int k n).wf = true := fun i => by
      by_cases hi : i < c
      · obtain ⟨v, y, k1, k2⟩ := one i hi
        obtain ⟨r, k3, k4⟩ := trod_ints he he2 hc2 k2
        exact ⟨(v, r), fun _ => ⟨k1, k3, k4⟩⟩
      · exact ⟨(undef, []), fun h => absurd h hi⟩
    obtain ⟨g, hg⟩ : ∃ g : Nat → Value × List Int, ∀ i, i < c → w.cell? (a.add i) = some (g i).1 ∧ SlC (fun z => .int k z) w (g i).1 (g i).2 ∧ ∀ n ∈ (g i).2, (Lit.int k n).wf = true := ⟨fun i => (hex i).choose, fun i => (hex i).choose_spec⟩
    refine ⟨(List.range l).map fun i => (g i).1, (List.range l).map fun i => (g i).2, ⟨slc_of hl (by simp) (fun i hi => ⟨_, (hg i hi).1⟩) (fun i hi => ?_), by simp, fun i hi => ?_⟩, fun r hr => ?_⟩
    · simp at hi
      rw [(hg i (by omega)).1]; simp
    · simp at hi
      rw [nth_eq (by simpa using hi)]
      simp only [List.getElem_map, List.getElem_range]
      exact (hg i (by omega)).2.1
    · obtain ⟨i, hi, rfl⟩ := List.mem_map.1 hr
      exact (hg i (by have := List.mem_range.1 hi; omega)).2.2
end Go.Proofs.YtbjlabokijchpaaA
