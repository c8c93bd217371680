/-
  Abstract states: values whose blocks bear names, and the worlds that they stand for.
-/
import Derived.RangeFuncNested
import Derived.RangeFuncBound
import Derived.RangeFuncCalls
import Derived.RangeFuncLeaves
import Derived.Shelf.Abstract
import Derived.WalkKit
import Derived.OrdersIn
namespace Go.Proofs.YtbjlabokijchpaaA
set_option linter.unusedVariables false
open Go Go.RowKit

/-- Where a named block lies: a block's number, its first cell, the end of what is its own, cells of an element. -/
structure Loc where
  blk : Nat
  base : Nat
  lim : Nat
  sz : Nat
inductive Plc where
  | none | dead | null | at (l : Loc)
abbrev Ren := Nat → Plc
/-- What is named in a dead block: nothing is known of it. -/
def deadOf (ρ : Ren) : Value → Prop
  | .pointer (some a) => ρ a.block = .dead
  | .slice (some a) _ _ => ρ a.block = .dead
  | .map (some r) => ρ r = .dead
  | .func (.yield l) _ _ => ρ l = .dead
  | _ => False
def Fnok : Fn → Prop
  | .yield _ => False
  | _ => True
inductive VRel (ρ : Ren) : Value → Value → Prop
  | bool (b : Bool) : VRel ρ (.bool b) (.bool b)
  | int (k : IntKind) (n : Int) : VRel ρ (.int k n) (.int k n)
  | float (k : FloatKind) (n : Nat) : VRel ρ (.float k n) (.float k n)
  | complex (k : FloatKind) (n m : Nat) : VRel ρ (.complex k n m) (.complex k n m)
  | string (s : ByteArray) : VRel ρ (.string s) (.string s)
  | nilPtr : VRel ρ (.pointer none) (.pointer none)
  | ptr {b o : Nat} {l : Loc} (h : ρ b = .at l) : VRel ρ (.pointer (some ⟨b, o, none⟩)) (.pointer (some ⟨l.blk, l.base + o, none⟩))
  | nilSlice : VRel ρ (.slice none 0 0) (.slice none 0 0)
  | slice {b o n c c' o' : Nat} {l : Loc} (h : ρ b = .at l) (hn : n ≤ c) (hc : c ≤ c') (ho : o' = l.base + o ∨ c' = 0) (hr : l.base + o + c' * l.sz ≤ l.lim) :
      VRel ρ (.slice (some ⟨b, o, none⟩) n c) (.slice (some ⟨l.blk, o', none⟩) n c')
  | empty {b o : Nat} {a : Option Addr} (h : ρ b = .null) : VRel ρ (.slice (some ⟨b, o, none⟩) 0 0) (.slice a 0 0)
  | nilMap : VRel ρ (.map none) (.map none)
  | map {b : Nat} {l : Loc} (h : ρ b = .at l) : VRel ρ (.map (some b)) (.map (some l.blk))
  | func {fn : Fn} {fs fs' cs cs' : Array Value} (hf : Fnok fn) (h1 : fs.size = fs'.size) (h2 : ∀ i, i < fs.size → VRel ρ (fs.getD i undef) (fs'.getD i undef))
      (h3 : cs.size = cs'.size) (h4 : ∀ i, i < cs.size → VRel ρ (cs.getD i undef) (cs'.getD i undef)) : VRel ρ (.func fn fs cs) (.func fn fs' cs')
  | yield {b : Nat} {l : Loc} (h : ρ b = .at l) : VRel ρ (.func (.yield b) #[] #[]) (.func (.yield l.blk) #[] #[])
  | nilFunc : VRel ρ .nilFunc .nilFunc
  | nilIface : VRel ρ .nilIface .nilIface
  | iface {t : TypeId} {v v' : Value} (h : VRel ρ v v') : VRel ρ (.iface t v) (.iface t v')
  | agg {vs vs' : Array Value} (h1 : vs.size = vs'.size) (h2 : ∀ i, i < vs.size → VRel ρ (vs.getD i undef) (vs'.getD i undef)) : VRel ρ (.agg vs) (.agg vs')
  | tuple {vs vs' : Array Value} (h1 : vs.size = vs'.size) (h2 : ∀ i, i < vs.size → VRel ρ (vs.getD i undef) (vs'.getD i undef)) : VRel ρ (.tuple vs) (.tuple vs')
  | junk (r : Option Nat) (v' : Value) : VRel ρ (.chan r) v'
  | dead {v v' : Value} (h : deadOf ρ v) : VRel ρ v v'
/-- A value of which nothing is known. -/
def junk : Value := .chan none

theorem VRel.mono {ρ ρ' : Ren} {v v' : Value} (h : VRel ρ v v') (hm : ∀ b, ρ b ≠ .none → ρ' b = ρ b ∨ ρ' b = .dead) : VRel ρ' v v' := by
  induction h with
  | bool b => exact .bool b
  | int k n => exact .int k n
  | float k n => exact .float k n
  | complex k n m => exact .complex k n m
  | string s => exact .string s
  | nilPtr => exact .nilPtr
  | @ptr b o l h =>
    rcases hm b (by rw [h]; simp) with e | e
    · exact .ptr (e.trans h)
    · exact .dead e
  | nilSlice => exact .nilSlice
  | @slice b o n c c' o' l h hn hc ho hr =>
    rcases hm b (by rw [h]; simp) with e | e
    · exact .slice (e.trans h) hn hc ho hr
    · exact .dead e
  | @empty b o a h =>
    rcases hm b (by rw [h]; simp) with e | e
    · exact .empty (e.trans h)
    · exact .dead e
  | nilMap => exact .nilMap
  | @map b l h =>
    rcases hm b (by rw [h]; simp) with e | e
    · exact .map (e.trans h)
    · exact .dead e
  | func hf h1 _ h3 _ i2 i4 => exact .func hf h1 i2 h3 i4
  | @yield b l h =>
    rcases hm b (by rw [h]; simp) with e | e
    · exact .yield (e.trans h)
    · exact .dead e
  | nilFunc => exact .nilFunc
  | nilIface => exact .nilIface
  | iface _ ih => exact .iface ih
  | agg h1 _ ih => exact .agg h1 ih
  | tuple h1 _ ih => exact .tuple h1 ih
  | junk r v' => exact .junk r v'
  | @dead v v' h =>
    refine .dead ?_
    have key : ∀ b, ρ b = .dead → ρ' b = .dead := fun b hb => by
      rcases hm b (by rw [hb]; simp) with e | e
      · exact e.trans hb
      · exact e
    cases v with
    | pointer a => cases a with
      | none => exact h.elim
      | some a => exact key _ h
    | slice a n c => cases a with
      | none => exact h.elim
      | some a => exact key _ h
    | map r => cases r with
      | none => exact h.elim
      | some a => exact key _ h
    | func fn fs cs => cases fn <;> first | exact h.elim | exact key _ h
    | _ => exact h.elim

theorem VRel.undef (ρ : Ren) : VRel ρ undef undef := .tuple rfl (fun i hi => by simp at hi)

/-- A list of values, place by place. -/
def LRel (ρ : Ren) (vs vs' : List Value) : Prop := vs.length = vs'.length ∧ ∀ i, i < vs.length → VRel ρ (vs.getD i undef) (vs'.getD i undef)
theorem LRel.mono {ρ ρ' : Ren} {v v' : List Value} (h : LRel ρ v v') (hm : ∀ b, ρ b ≠ .none → ρ' b = ρ b ∨ ρ' b = .dead) : LRel ρ' v v' := ⟨h.1, fun i hi => (h.2 i hi).mono hm⟩
theorem LRel.at {ρ : Ren} {vs vs' : List Value} (h : LRel ρ vs vs') (i : Nat) : VRel ρ (vs.getD i undef) (vs'.getD i undef) := by
  by_cases hi : i < vs.length
  · exact h.2 i hi
  · have h1 := h.1
    rw [List.getD_eq_getElem?_getD, List.getD_eq_getElem?_getD, List.getElem?_eq_none (by omega), List.getElem?_eq_none (by omega)]
    exact .undef ρ
theorem LRel.set {ρ : Ren} {vs vs' : List Value} (h : LRel ρ vs vs') (d : Nat) {v v' : Value} (hv : VRel ρ v v') : LRel ρ (vs.set d v) (vs'.set d v') := by
  refine ⟨by simp [h.1], fun i hi => ?_⟩
  simp only [List.length_set] at hi
  have hi' : i < vs'.length := by have := h.1; omega
  simp only [List.getD_eq_getElem?_getD, List.getElem?_set]
  by_cases e : d = i
  · subst e; simp [hi, hi', hv]
  · simp only [if_neg e]
    have := h.2 i hi
    simpa [List.getD_eq_getElem?_getD] using this
theorem LRel.nil (ρ : Ren) : LRel ρ [] [] := ⟨rfl, fun i hi => by simp at hi⟩
theorem LRel.cons {ρ : Ren} {v v' : Value} {vs vs' : List Value} (hv : VRel ρ v v') (h : LRel ρ vs vs') : LRel ρ (v :: vs) (v' :: vs') := by
  refine ⟨by simp [h.1], fun i hi => ?_⟩
  cases i with
  | zero => simpa using hv
  | succ i => simpa using h.2 i (by simpa using hi)
theorem LRel.append {ρ : Ren} {us us' vs vs' : List Value} (h : LRel ρ us us') (k : LRel ρ vs vs') : LRel ρ (us ++ vs) (us' ++ vs') := by
  refine ⟨by simp [h.1, k.1], fun i hi => ?_⟩
  simp only [List.length_append] at hi
  by_cases e : i < us.length
  · have := h.2 i e
    simpa [List.getD_eq_getElem?_getD, List.getElem?_append, e, show i < us'.length by have := h.1; omega] using this
  · have := k.2 (i - us.length) (by omega)
    simpa [List.getD_eq_getElem?_getD, List.getElem?_append, e, show ¬ i < us'.length by have := h.1; omega, h.1] using this
theorem LRel.replicate (ρ : Ren) (n : Nat) {v v' : Value} (h : VRel ρ v v') : LRel ρ (List.replicate n v) (List.replicate n v') := by
  refine ⟨by simp, fun i hi => ?_⟩
  simp only [List.length_replicate] at hi
  simpa [List.getD_eq_getElem?_getD, List.getElem?_replicate, hi] using h

/-- A frame's slots. -/
def TRel (ρ : Ren) (nt : Nat) (T : Nat → Value) (ts : Array Value) : Prop := ts.size = nt ∧ ∀ t, VRel ρ (T t) (ts.getD t undef)
theorem TRel.mono {ρ ρ' : Ren} {nt : Nat} {T : Nat → Value} {ts : Array Value} (h : TRel ρ nt T ts) (hm : ∀ b, ρ b ≠ .none → ρ' b = ρ b ∨ ρ' b = .dead) : TRel ρ' nt T ts := ⟨h.1, fun t => (h.2 t).mono hm⟩
def upd (T : Nat → Value) (d : Nat) (v : Value) : Nat → Value := fun t => cond (Nat.beq t d) v (T t)
theorem upd_same (T : Nat → Value) (d : Nat) (v : Value) : upd T d v d = v := by
  unfold upd
  have : Nat.beq d d = true := by simp
  rw [this]; rfl
theorem upd_other (T : Nat → Value) {d t : Nat} (v : Value) (h : t ≠ d) : upd T d v t = T t := by
  unfold upd
  have : Nat.beq t d = false := by
    cases e : Nat.beq t d
    · rfl
    · exact absurd (Nat.eq_of_beq_eq_true e) h
  rw [this]; rfl
theorem TRel.upd {ρ : Ren} {nt : Nat} {T : Nat → Value} {ts : Array Value} (h : TRel ρ nt T ts) {d : Nat} (hd : d < nt) {v v' : Value} (hv : VRel ρ v v') : TRel ρ nt (upd T d v) (ts.setIfInBounds d v') := by
  refine ⟨by simp [h.1], fun t => ?_⟩
  by_cases e : t = d
  · subst e
    rw [upd_same]
    simpa [Array.getElem?_setIfInBounds, h.1, hd] using hv
  · rw [upd_other _ _ e]
    have := h.2 t
    simpa [Array.getElem?_setIfInBounds, Ne.symm e] using this
/-- A block, as it is known. -/
inductive AObj where
  | none
  | dead
  | null
  | glob (vs : List Value) (sz : Nat)
  | cells (wr : Bool) (vs : List Value) (sz : Nat)
  | map (es : List MapEntry) (clock : Nat)
  | loop (st : LoopState) (pe : Option Code) (fn : FuncId) (nt : Nat) (T : Nat → Value) (ps : Array Tmp) (assign body : Code)
  | mark
instance : Inhabited AObj := ⟨.none⟩
def AObj.wr : AObj → Bool
  | .cells w _ _ => w
  | .map _ _ => true
  | .null => true
  | .loop .. => true
  | .mark => true
  | _ => false
def frozenFree (fr : Nat × Nat) (l : Loc) : Prop := ∀ o, l.base ≤ o → o < l.lim → ¬ (fr.1 ≤ o ∧ o < fr.2)
/-- Cells of a block from a place on. -/
def CRel (ρ : Ren) (vs : List Value) (cs : Array Value) (base : Nat) : Prop := ∀ i, i < vs.length → VRel ρ (vs.getD i undef) (cs.getD (base + i) undef)
def ORel (ρ : Ren) (l : Loc) (w : World) : AObj → Prop
  | .none => True
  | .dead => False
  | .null => False
  | .glob vs sz => l.sz = sz ∧ ∃ cs T fr, w.heap[l.blk]? = some (.cells cs T fr) ∧ l.base + vs.length ≤ l.lim ∧ l.lim ≤ cs.size ∧ CRel ρ vs cs l.base
  | .cells wr vs sz => l.sz = sz ∧ ∃ cs T fr, w.heap[l.blk]? = some (.cells cs T fr) ∧ l.base + vs.length ≤ l.lim ∧ l.lim ≤ cs.size ∧ CRel ρ vs cs l.base ∧ (wr = true → frozenFree fr l)
  | .map es c => ∃ es', w.heap[l.blk]? = some (.map es' c) ∧ es.length = es'.size ∧
      ∀ i, i < es.length → (es.getD i default).key = (es'.getD i default).key ∧ VRel ρ (es.getD i default).val (es'.getD i default).val ∧ (es.getD i default).born = (es'.getD i default).born
  | .loop st pe fn nt T ps assign body => ∃ r : Loop, w.heap[l.blk]? = some (.loop r) ∧ r.state = st ∧ r.pending = pe ∧ r.fn = fn ∧ TRel ρ nt T r.tmps ∧ r.params = ps ∧ r.assign = assign ∧ r.body = body
  | .mark => w.heap[l.blk]? = some (.deferred (some []))

abbrev AHeap := List AObj
def wr (H : AHeap) (b : Nat) : Prop := ∃ o, H[b]? = some o ∧ o.wr = true
structure HRel (ρ : Ren) (H : AHeap) (w : World) : Prop where
  bound : ∀ b, H.length ≤ b → ρ b = .none
  rel : ∀ b l, ρ b = .at l → ∃ o, H[b]? = some o ∧ l.blk < w.heap.size ∧ ORel ρ l w o
  inj : ∀ b c l m, b ≠ c → ρ b = .at l → ρ c = .at m → wr H b → l.blk ≠ m.blk
  glob : ∀ g vs sz, H[g]? = some (.glob vs sz) → ∃ l, ρ g = .at l ∧ l.blk = g ∧ l.base = 0
  isdead : ∀ b, ρ b = .dead → H[b]? = some .dead

theorem ORel.mono {ρ ρ' : Ren} {l : Loc} {w w' : World} {o : AObj} (h : ORel ρ l w o) (hm : ∀ b, ρ b ≠ .none → ρ' b = ρ b ∨ ρ' b = .dead) (hw : w'.heap[l.blk]? = w.heap[l.blk]?) : ORel ρ' l w' o := by
  cases o with
  | none => trivial
  | dead => exact h.elim
  | null => exact h.elim
  | glob vs sz =>
    obtain ⟨h1, cs, T, fr, h2, h3, h4, h5⟩ := h
    exact ⟨h1, cs, T, fr, hw.trans h2, h3, h4, fun i hi => (h5 i hi).mono hm⟩
  | cells wr vs sz =>
    obtain ⟨h1, cs, T, fr, h2, h3, h4, h5, h6⟩ := h
    exact ⟨h1, cs, T, fr, hw.trans h2, h3, h4, fun i hi => (h5 i hi).mono hm, h6⟩
  | map es c =>
    obtain ⟨es', h1, h2, h3⟩ := h
    exact ⟨es', hw.trans h1, h2, fun i hi => ⟨(h3 i hi).1, (h3 i hi).2.1.mono hm, (h3 i hi).2.2⟩⟩
  | loop st pe fn nt T ps ass bod =>
    obtain ⟨r, h1, h2, h3, h4, h5, h6⟩ := h
    exact ⟨r, hw.trans h1, h2, h3, h4, h5.mono hm, h6⟩
  | mark => exact hw.trans h

/-- A block of the world that a writable block's name stands for. -/
def Owned (ρ : Ren) (H : AHeap) (k : Nat) : Prop := ∃ b l, ρ b = .at l ∧ l.blk = k ∧ wr H b
/-- What a piece of code may have done. -/
structure Fr (n : Nat) (ρ : Ren) (H : AHeap) (w : World) (ρ' : Ren) (H' : AHeap) (w' : World) : Prop where
  os : w'.os = w.os
  tape : w'.tape = w.tape
  output : w'.output = w.output
  size : w.heap.size ≤ w'.heap.size
  keep : ∀ k, k < w.heap.size → ¬ Owned ρ H k → w'.heap[k]? = w.heap[k]?
  oldA : ∀ b, b < n → ρ' b = ρ b ∨ (ρ' b = .dead ∧ ∃ l, ρ b = .at l)
  fresh : ∀ b l', ρ' b = .at l' → wr H' b → Owned ρ H l'.blk ∨ w.heap.size ≤ l'.blk
theorem Fr.old {n : Nat} {ρ : Ren} {H : AHeap} {w : World} {ρ' : Ren} {H' : AHeap} {w' : World} (h : Fr n ρ H w ρ' H' w') : ∀ b, b < n → ρ' b = ρ b ∨ (ρ' b = .dead ∧ ρ b ≠ .none) := fun b hb => by
  rcases h.oldA b hb with e | ⟨e, l, hl⟩
  · exact .inl e
  · exact .inr ⟨e, by rw [hl]; simp⟩
theorem Fr.refl (n : Nat) (ρ : Ren) (H : AHeap) (w : World) : Fr n ρ H w ρ H w :=
  ⟨rfl, rfl, rfl, Nat.le_refl _, fun _ _ _ => rfl, fun _ _ => .inl rfl, fun b l' h hw => .inl ⟨b, l', h, rfl, hw⟩⟩
theorem Fr.mono {n m : Nat} {ρ ρ' : Ren} {H H' : AHeap} {w w' : World} (h : Fr n ρ H w ρ' H' w') (hm : m ≤ n) : Fr m ρ H w ρ' H' w' :=
  ⟨h.os, h.tape, h.output, h.size, h.keep, fun b hb => h.oldA b (by omega), h.fresh⟩
theorem Fr.trans {n : Nat} {ρ ρ1 ρ2 : Ren} {H H1 H2 : AHeap} {w w1 w2 : World} (h : Fr n ρ H w ρ1 H1 w1) (k : Fr n ρ1 H1 w1 ρ2 H2 w2) : Fr n ρ H w ρ2 H2 w2 := by
  have hown : ∀ k, Owned ρ1 H1 k → Owned ρ H k ∨ w.heap.size ≤ k := by
    rintro k ⟨b, l, hb, rfl, hw⟩
    exact h.fresh b l hb hw
  refine ⟨k.os.trans h.os, k.tape.trans h.tape, k.output.trans h.output, Nat.le_trans h.size k.size, fun i hi ho => ?_, fun b hb => ?_, fun b l' hb hw => ?_⟩
  · refine (k.keep i (Nat.lt_of_lt_of_le hi h.size) (fun ho1 => ?_)).trans (h.keep i hi ho)
    rcases hown i ho1 with h1 | h1
    · exact ho h1
    · omega
  · rcases h.oldA b hb with h1 | ⟨h1, h2⟩
    · rcases k.oldA b hb with k1 | ⟨k1, l, k2⟩
      · exact .inl (k1.trans h1)
      · exact .inr ⟨k1, l, by rw [← h1]; exact k2⟩
    · rcases k.oldA b hb with k1 | ⟨k1, k2⟩
      · exact .inr ⟨k1.trans h1, h2⟩
      · exact .inr ⟨k1, h2⟩
  · rcases k.fresh b l' hb hw with k1 | k1
    · exact hown _ k1
    · exact .inr (Nat.le_trans h.size k1)
theorem Fr.drew {n : Nat} {ρ ρ' : Ren} {H H' : AHeap} {w w' : World} {k : Nat} (h : Fr n ρ H { w with drawn := k } ρ' H' w') : Fr n ρ H w ρ' H' w' := ⟨h.os, h.tape, h.output, h.size, h.keep, h.oldA, h.fresh⟩
theorem HRel.drawn {ρ : Ren} {H : AHeap} {w : World} (h : HRel ρ H w) (k : Nat) : HRel ρ H { w with drawn := k } :=
  ⟨h.bound, fun b l hb => by
    obtain ⟨o, h1, h2, h3⟩ := h.rel b l hb
    exact ⟨o, h1, h2, h3.mono (fun _ _ => .inl rfl) rfl⟩, h.inj, h.glob, h.isdead⟩
/-- A quiet step: old blocks stay as they are; Δ are new. -/
structure Ext (ρ : Ren) (H : AHeap) (w : World) (ρ' : Ren) (w' : World) : Prop where
  os : w'.os = w.os
  tape : w'.tape = w.tape
  output : w'.output = w.output
  size : w.heap.size ≤ w'.heap.size
  keep : ∀ k, k < w.heap.size → ¬ Owned ρ H k → w'.heap[k]? = w.heap[k]?
  old : ∀ b, b < H.length → ρ' b = ρ b
  fresh : ∀ b l', H.length ≤ b → ρ' b = .at l' → w.heap.size ≤ l'.blk
theorem Ext.refl {ρ : Ren} {H : AHeap} {w : World} (h : HRel ρ H w) : Ext ρ H w ρ w :=
  ⟨rfl, rfl, rfl, Nat.le_refl _, fun _ _ _ => rfl, fun _ _ => rfl, fun b l hb h1 => by rw [h.bound b hb] at h1; cases h1⟩
theorem Ext.fr {ρ ρ' : Ren} {H Δ : AHeap} {w w' : World} (h : Ext ρ H w ρ' w') : Fr H.length ρ H w ρ' (H ++ Δ) w' :=
  ⟨h.os, h.tape, h.output, h.size, h.keep, fun b hb => .inl (h.old b hb), fun b l' hb hw => by
    by_cases e : b < H.length
    · refine .inl ⟨b, l', by rw [← h.old b e]; exact hb, rfl, ?_⟩
      obtain ⟨o, h1, h2⟩ := hw
      rw [List.getElem?_append_left e] at h1
      exact ⟨o, h1, h2⟩
    · exact .inr (h.fresh b l' (by omega) hb)⟩
/-- Out of what code may have done: nothing that was there is dead, all is as it was: a quiet step. -/
theorem Fr.ext {ρ ρ' : Ren} {H Δ : AHeap} {w w' : World} (h : Fr H.length ρ H w ρ' (H ++ Δ) w') (h0 : HRel ρ H w) (h1 : HRel ρ' (H ++ Δ) w') (hΔ : ∀ o ∈ Δ, o.wr = true) : Ext ρ H w ρ' w' := by
  have hold : ∀ b, b < H.length → ρ' b = ρ b := fun b hb => by
    rcases h.oldA b hb with e | ⟨e, l, hr⟩
    · exact e
    · have hd := h1.isdead b e
      rw [List.getElem?_append_left hb] at hd
      obtain ⟨o, ho, _, hO⟩ := h0.rel b l hr
      rw [hd] at ho
      cases ho
      exact hO.elim
  refine ⟨h.os, h.tape, h.output, h.size, h.keep, hold, fun b l' hb hl => ?_⟩
  obtain ⟨o, ho, hlt, _⟩ := h1.rel b l' hl
  have hw : wr (H ++ Δ) b := by
    refine ⟨o, ho, hΔ o ?_⟩
    rw [List.getElem?_append_right hb] at ho
    exact List.mem_of_getElem? ho
  rcases h.fresh b l' hl hw with ⟨c, m, hc, he, hcw⟩ | h2
  · have hcl : c < H.length := by
      by_cases e : c < H.length
      · exact e
      · rw [h0.bound c (by omega)] at hc; cases hc
    have hc' : ρ' c = .at m := (hold c hcl).trans hc
    exact absurd he.symm (fun e => h1.inj b c l' m (by omega) hl hc' hw (e.trans rfl))
  · exact h2
end Go.Proofs.YtbjlabokijchpaaA
