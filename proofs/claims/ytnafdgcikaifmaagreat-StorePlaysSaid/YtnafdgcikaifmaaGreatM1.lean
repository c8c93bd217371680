/-
  Walks over abstract states: texts of one claim, merged.
-/
import Derived.RangeFuncNested
import Derived.RangeFuncBound
import Derived.RangeFuncCalls
import Derived.RangeFuncLeaves
import Derived.Shelf.Abstract
import Derived.WalkKit
import Derived.OrdersIn
import Derived.IntWalk
import Derived.Laws.IdiomCopy
/-
  Abstract states: values whose blocks bear names, and the worlds that they stand for.
-/
namespace Go.Proofs.YtnafdgcikaifmaaGreatA
set_option linter.unusedVariables false
open Go Go.RowKit

/-- Where a named block lies: a block's number, its first cell, the end of what is its own, cells of an element. -/
structure Loc where
  blk : Nat
  base : Nat
  lim : Nat
  sz : Nat
inductive Plc where
  | none | dead | null | at (l : Loc)
abbrev Ren := Nat → Plc
/-- What is named in a dead block: nothing is known of it. -/
def deadOf (ρ : Ren) : Value → Prop
  | .pointer (some a) => ρ a.block = .dead
  | .slice (some a) _ _ => ρ a.block = .dead
  | .map (some r) => ρ r = .dead
  | .func (.yield l) _ _ => ρ l = .dead
  | _ => False
def Fnok : Fn → Prop
  | .yield _ => False
  | _ => True
inductive VRel (ρ : Ren) : Value → Value → Prop
  | bool (b : Bool) : VRel ρ (.bool b) (.bool b)
  | int (k : IntKind) (n : Int) : VRel ρ (.int k n) (.int k n)
  | float (k : FloatKind) (n : Nat) : VRel ρ (.float k n) (.float k n)
  | complex (k : FloatKind) (n m : Nat) : VRel ρ (.complex k n m) (.complex k n m)
  | string (s : ByteArray) : VRel ρ (.string s) (.string s)
  | nilPtr : VRel ρ (.pointer none) (.pointer none)
  | ptr {b o : Nat} {l : Loc} (h : ρ b = .at l) : VRel ρ (.pointer (some ⟨b, o, none⟩)) (.pointer (some ⟨l.blk, l.base + o, none⟩))
  | nilSlice : VRel ρ (.slice none 0 0) (.slice none 0 0)
  | slice {b o n c c' o' : Nat} {l : Loc} (h : ρ b = .at l) (hn : n ≤ c) (hc : c ≤ c') (ho : o' = l.base + o ∨ c' = 0) (hr : l.base + o + c' * l.sz ≤ l.lim) :
      VRel ρ (.slice (some ⟨b, o, none⟩) n c) (.slice (some ⟨l.blk, o', none⟩) n c')
  | empty {b o : Nat} {a : Option Addr} (h : ρ b = .null) : VRel ρ (.slice (some ⟨b, o, none⟩) 0 0) (.slice a 0 0)
  | nilMap : VRel ρ (.map none) (.map none)
  | map {b : Nat} {l : Loc} (h : ρ b = .at l) : VRel ρ (.map (some b)) (.map (some l.blk))
  | func {fn : Fn} {fs fs' cs cs' : Array Value} (hf : Fnok fn) (h1 : fs.size = fs'.size) (h2 : ∀ i, i < fs.size → VRel ρ (fs.getD i undef) (fs'.getD i undef))
      (h3 : cs.size = cs'.size) (h4 : ∀ i, i < cs.size → VRel ρ (cs.getD i undef) (cs'.getD i undef)) : VRel ρ (.func fn fs cs) (.func fn fs' cs')
  | yield {b : Nat} {l : Loc} (h : ρ b = .at l) : VRel ρ (.func (.yield b) #[] #[]) (.func (.yield l.blk) #[] #[])
  | nilFunc : VRel ρ .nilFunc .nilFunc
  | nilIface : VRel ρ .nilIface .nilIface
  | iface {t : TypeId} {v v' : Value} (h : VRel ρ v v') : VRel ρ (.iface t v) (.iface t v')
  | agg {vs vs' : Array Value} (h1 : vs.size = vs'.size) (h2 : ∀ i, i < vs.size → VRel ρ (vs.getD i undef) (vs'.getD i undef)) : VRel ρ (.agg vs) (.agg vs')
  | tuple {vs vs' : Array Value} (h1 : vs.size = vs'.size) (h2 : ∀ i, i < vs.size → VRel ρ (vs.getD i undef) (vs'.getD i undef)) : VRel ρ (.tuple vs) (.tuple vs')
  | junk (r : Option Nat) (v' : Value) : VRel ρ (.chan r) v'
  | dead {v v' : Value} (h : deadOf ρ v) : VRel ρ v v'
/-- A value of which nothing is known. -/
def junk : Value := .chan none

theorem VRel.mono {ρ ρ' : Ren} {v v' : Value} (h : VRel ρ v v') (hm : ∀ b, ρ b ≠ .none → ρ' b = ρ b ∨ ρ' b = .dead) : VRel ρ' v v' := by
  induction h with
  | bool b => exact .bool b
  | int k n => exact .int k n
  | float k n => exact .float k n
  | complex k n m => exact .complex k n m
  | string s => exact .string s
  | nilPtr => exact .nilPtr
  | @ptr b o l h =>
    rcases hm b (by rw [h]; simp) with e | e
    · exact .ptr (e.trans h)
    · exact .dead e
  | nilSlice => exact .nilSlice
  | @slice b o n c c' o' l h hn hc ho hr =>
    rcases hm b (by rw [h]; simp) with e | e
    · exact .slice (e.trans h) hn hc ho hr
    · exact .dead e
  | @empty b o a h =>
    rcases hm b (by rw [h]; simp) with e | e
    · exact .empty (e.trans h)
    · exact .dead e
  | nilMap => exact .nilMap
  | @map b l h =>
    rcases hm b (by rw [h]; simp) with e | e
    · exact .map (e.trans h)
    · exact .dead e
  | func hf h1 _ h3 _ i2 i4 => exact .func hf h1 i2 h3 i4
  | @yield b l h =>
    rcases hm b (by rw [h]; simp) with e | e
    · exact .yield (e.trans h)
    · exact .dead e
  | nilFunc => exact .nilFunc
  | nilIface => exact .nilIface
  | iface _ ih => exact .iface ih
  | agg h1 _ ih => exact .agg h1 ih
  | tuple h1 _ ih => exact .tuple h1 ih
  | junk r v' => exact .junk r v'
  | @dead v v' h =>
    refine .dead ?_
    have key : ∀ b, ρ b = .dead → ρ' b = .dead := fun b hb => by
      rcases hm b (by rw [hb]; simp) with e | e
      · exact e.trans hb
      · exact e
    cases v with
    | pointer a => cases a with
      | none => exact h.elim
      | some a => exact key _ h
    | slice a n c => cases a with
      | none => exact h.elim
      | some a => exact key _ h
    | map r => cases r with
      | none => exact h.elim
      | some a => exact key _ h
    | func fn fs cs => cases fn <;> first | exact h.elim | exact key _ h
    | _ => exact h.elim

theorem VRel.undef (ρ : Ren) : VRel ρ undef undef := .tuple rfl (fun i hi => by simp at hi)

/-- A list of values, place by place. -/
def LRel (ρ : Ren) (vs vs' : List Value) : Prop := vs.length = vs'.length ∧ ∀ i, i < vs.length → VRel ρ (vs.getD i undef) (vs'.getD i undef)
theorem LRel.mono {ρ ρ' : Ren} {v v' : List Value} (h : LRel ρ v v') (hm : ∀ b, ρ b ≠ .none → ρ' b = ρ b ∨ ρ' b = .dead) : LRel ρ' v v' := ⟨h.1, fun i hi => (h.2 i hi).mono hm⟩
theorem LRel.at {ρ : Ren} {vs vs' : List Value} (h : LRel ρ vs vs') (i : Nat) : VRel ρ (vs.getD i undef) (vs'.getD i undef) := by
  by_cases hi : i < vs.length
  · exact h.2 i hi
  · have h1 := h.1
    rw [List.getD_eq_getElem?_getD, List.getD_eq_getElem?_getD, List.getElem?_eq_none (by omega), List.getElem?_eq_none (by omega)]
    exact .undef ρ
theorem LRel.set {ρ : Ren} {vs vs' : List Value} (h : LRel ρ vs vs') (d : Nat) {v v' : Value} (hv : VRel ρ v v') : LRel ρ (vs.set d v) (vs'.set d v') := by
  refine ⟨by simp [h.1], fun i hi => ?_⟩
  simp only [List.length_set] at hi
  have hi' : i < vs'.length := by have := h.1; omega
  simp only [List.getD_eq_getElem?_getD, List.getElem?_set]
  by_cases e : d = i
  · subst e; simp [hi, hi', hv]
  · simp only [if_neg e]
    have := h.2 i hi
    simpa [List.getD_eq_getElem?_getD] using this
theorem LRel.nil (ρ : Ren) : LRel ρ [] [] := ⟨rfl, fun i hi => by simp at hi⟩
theorem LRel.cons {ρ : Ren} {v v' : Value} {vs vs' : List Value} (hv : VRel ρ v v') (h : LRel ρ vs vs') : LRel ρ (v :: vs) (v' :: vs') := by
  refine ⟨by simp [h.1], fun i hi => ?_⟩
  cases i with
  | zero => simpa using hv
  | succ i => simpa using h.2 i (by simpa using hi)
theorem LRel.append {ρ : Ren} {us us' vs vs' : List Value} (h : LRel ρ us us') (k : LRel ρ vs vs') : LRel ρ (us ++ vs) (us' ++ vs') := by
  refine ⟨by simp [h.1, k.1], fun i hi => ?_⟩
  simp only [List.length_append] at hi
  by_cases e : i < us.length
  · have := h.2 i e
    simpa [List.getD_eq_getElem?_getD, List.getElem?_append, e, show i < us'.length by have := h.1; omega] using this
  · have := k.2 (i - us.length) (by omega)
    simpa [List.getD_eq_getElem?_getD, List.getElem?_append, e, show ¬ i < us'.length by have := h.1; omega, h.1] using this
theorem LRel.replicate (ρ : Ren) (n : Nat) {v v' : Value} (h : VRel ρ v v') : LRel ρ (List.replicate n v) (List.replicate n v') := by
  refine ⟨by simp, fun i hi => ?_⟩
  simp only [List.length_replicate] at hi
  simpa [List.getD_eq_getElem?_getD, List.getElem?_replicate, hi] using h

/-- A frame's slots. -/
def TRel (ρ : Ren) (nt : Nat) (T : Nat → Value) (ts : Array Value) : Prop := ts.size = nt ∧ ∀ t, VRel ρ (T t) (ts.getD t undef)
theorem TRel.mono {ρ ρ' : Ren} {nt : Nat} {T : Nat → Value} {ts : Array Value} (h : TRel ρ nt T ts) (hm : ∀ b, ρ b ≠ .none → ρ' b = ρ b ∨ ρ' b = .dead) : TRel ρ' nt T ts := ⟨h.1, fun t => (h.2 t).mono hm⟩
def upd (T : Nat → Value) (d : Nat) (v : Value) : Nat → Value := fun t => cond (Nat.beq t d) v (T t)
theorem upd_same (T : Nat → Value) (d : Nat) (v : Value) : upd T d v d = v := by
  unfold upd
  have : Nat.beq d d = true := by simp
  rw [this]; rfl
theorem upd_other (T : Nat → Value) {d t : Nat} (v : Value) (h : t ≠ d) : upd T d v t = T t := by
  unfold upd
  have : Nat.beq t d = false := by
    cases e : Nat.beq t d
    · rfl
    · exact absurd (Nat.eq_of_beq_eq_true e) h
  rw [this]; rfl
theorem TRel.upd {ρ : Ren} {nt : Nat} {T : Nat → Value} {ts : Array Value} (h : TRel ρ nt T ts) {d : Nat} (hd : d < nt) {v v' : Value} (hv : VRel ρ v v') : TRel ρ nt (upd T d v) (ts.setIfInBounds d v') := by
  refine ⟨by simp [h.1], fun t => ?_⟩
  by_cases e : t = d
  · subst e
    rw [upd_same]
    simpa [Array.getElem?_setIfInBounds, h.1, hd] using hv
  · rw [upd_other _ _ e]
    have := h.2 t
    simpa [Array.getElem?_setIfInBounds, Ne.symm e] using this
/-- A block, as it is known. -/
inductive AObj where
  | none
  | dead
  | null
  | glob (vs : List Value) (sz : Nat)
  | cells (wr : Bool) (vs : List Value) (sz : Nat)
  | map (es : List MapEntry) (clock : Nat)
  | loop (st : LoopState) (pe : Option Code) (fn : FuncId) (nt : Nat) (T : Nat → Value) (ps : Array Tmp) (assign body : Code)
  | mark
  /-- A whole block of a known type. -/
  | typed (t : TypeId) (vs : List Value) (sz : Nat)
instance : Inhabited AObj := ⟨.none⟩
def AObj.wr : AObj → Bool
  | .cells w _ _ => w
  | .map _ _ => true
  | .null => true
  | .loop .. => true
  | .mark => true
  | .typed .. => true
  | _ => false
def frozenFree (fr : Nat × Nat) (l : Loc) : Prop := ∀ o, l.base ≤ o → o < l.lim → ¬ (fr.1 ≤ o ∧ o < fr.2)
/-- Cells of a block from a place on. -/
def CRel (ρ : Ren) (vs : List Value) (cs : Array Value) (base : Nat) : Prop := ∀ i, i < vs.length → VRel ρ (vs.getD i undef) (cs.getD (base + i) undef)
def ORel (ρ : Ren) (l : Loc) (w : World) : AObj → Prop
  | .none => True
  | .dead => False
  | .null => False
  | .glob vs sz => l.sz = sz ∧ ∃ cs T fr, w.heap[l.blk]? = some (.cells cs T fr) ∧ l.base + vs.length ≤ l.lim ∧ l.lim ≤ cs.size ∧ CRel ρ vs cs l.base
  | .cells wr vs sz => l.sz = sz ∧ ∃ cs T fr, w.heap[l.blk]? = some (.cells cs T fr) ∧ l.base + vs.length ≤ l.lim ∧ l.lim ≤ cs.size ∧ CRel ρ vs cs l.base ∧ (wr = true → frozenFree fr l)
  | .map es c => ∃ es', w.heap[l.blk]? = some (.map es' c) ∧ es.length = es'.size ∧
      ∀ i, i < es.length → (es.getD i default).key = (es'.getD i default).key ∧ VRel ρ (es.getD i default).val (es'.getD i default).val ∧ (es.getD i default).born = (es'.getD i default).born
  | .loop st pe fn nt T ps assign body => ∃ r : Loop, w.heap[l.blk]? = some (.loop r) ∧ r.state = st ∧ r.pending = pe ∧ r.fn = fn ∧ TRel ρ nt T r.tmps ∧ r.params = ps ∧ r.assign = assign ∧ r.body = body
  | .mark => w.heap[l.blk]? = some (.deferred (some []))
  | .typed t vs sz => l.sz = sz ∧ ∃ cs T fr, w.heap[l.blk]? = some (.cells cs T fr) ∧ l.base + vs.length ≤ l.lim ∧ l.lim ≤ cs.size ∧ CRel ρ vs cs l.base ∧ frozenFree fr l ∧ T = t ∧ l.base = 0 ∧ l.lim = cs.size ∧ (sz = 1 ∨ cs.size = vs.length)

abbrev AHeap := List AObj
def wr (H : AHeap) (b : Nat) : Prop := ∃ o, H[b]? = some o ∧ o.wr = true
structure HRel (ρ : Ren) (H : AHeap) (w : World) : Prop where
  bound : ∀ b, H.length ≤ b → ρ b = .none
  rel : ∀ b l, ρ b = .at l → ∃ o, H[b]? = some o ∧ l.blk < w.heap.size ∧ ORel ρ l w o
  inj : ∀ b c l m, b ≠ c → ρ b = .at l → ρ c = .at m → wr H b → l.blk ≠ m.blk
  glob : ∀ g vs sz, H[g]? = some (.glob vs sz) → ∃ l, ρ g = .at l ∧ l.blk = g ∧ l.base = 0
  isdead : ∀ b, ρ b = .dead → H[b]? = some .dead

theorem ORel.mono {ρ ρ' : Ren} {l : Loc} {w w' : World} {o : AObj} (h : ORel ρ l w o) (hm : ∀ b, ρ b ≠ .none → ρ' b = ρ b ∨ ρ' b = .dead) (hw : w'.heap[l.blk]? = w.heap[l.blk]?) : ORel ρ' l w' o := by
  cases o with
  | none => trivial
  | dead => exact h.elim
  | null => exact h.elim
  | glob vs sz =>
    obtain ⟨h1, cs, T, fr, h2, h3, h4, h5⟩ := h
    exact ⟨h1, cs, T, fr, hw.trans h2, h3, h4, fun i hi => (h5 i hi).mono hm⟩
  | cells wr vs sz =>
    obtain ⟨h1, cs, T, fr, h2, h3, h4, h5, h6⟩ := h
    exact ⟨h1, cs, T, fr, hw.trans h2, h3, h4, fun i hi => (h5 i hi).mono hm, h6⟩
  | map es c =>
    obtain ⟨es', h1, h2, h3⟩ := h
    exact ⟨es', hw.trans h1, h2, fun i hi => ⟨(h3 i hi).1, (h3 i hi).2.1.mono hm, (h3 i hi).2.2⟩⟩
  | loop st pe fn nt T ps ass bod =>
    obtain ⟨r, h1, h2, h3, h4, h5, h6⟩ := h
    exact ⟨r, hw.trans h1, h2, h3, h4, h5.mono hm, h6⟩
  | mark => exact hw.trans h
  | typed t vs sz =>
    obtain ⟨h1, cs, T, fr, h2, h3, h4, h5, h6⟩ := h
    exact ⟨h1, cs, T, fr, hw.trans h2, h3, h4, fun i hi => (h5 i hi).mono hm, h6⟩

/-- A block of the world that a writable block's name stands for. -/
def Owned (ρ : Ren) (H : AHeap) (k : Nat) : Prop := ∃ b l, ρ b = .at l ∧ l.blk = k ∧ wr H b
/-- What a piece of code may have done. -/
structure Fr (n : Nat) (ρ : Ren) (H : AHeap) (w : World) (ρ' : Ren) (H' : AHeap) (w' : World) : Prop where
  os : w'.os = w.os
  tape : w'.tape = w.tape
  output : w'.output = w.output
  size : w.heap.size ≤ w'.heap.size
  keep : ∀ k, k < w.heap.size → ¬ Owned ρ H k → w'.heap[k]? = w.heap[k]?
  oldA : ∀ b, b < n → ρ' b = ρ b ∨ (ρ' b = .dead ∧ ∃ l, ρ b = .at l)
  fresh : ∀ b l', ρ' b = .at l' → wr H' b → Owned ρ H l'.blk ∨ w.heap.size ≤ l'.blk
theorem Fr.old {n : Nat} {ρ : Ren} {H : AHeap} {w : World} {ρ' : Ren} {H' : AHeap} {w' : World} (h : Fr n ρ H w ρ' H' w') : ∀ b, b < n → ρ' b = ρ b ∨ (ρ' b = .dead ∧ ρ b ≠ .none) := fun b hb => by
  rcases h.oldA b hb with e | ⟨e, l, hl⟩
  · exact .inl e
  · exact .inr ⟨e, by rw [hl]; simp⟩
theorem Fr.refl (n : Nat) (ρ : Ren) (H : AHeap) (w : World) : Fr n ρ H w ρ H w :=
  ⟨rfl, rfl, rfl, Nat.le_refl _, fun _ _ _ => rfl, fun _ _ => .inl rfl, fun b l' h hw => .inl ⟨b, l', h, rfl, hw⟩⟩
theorem Fr.mono {n m : Nat} {ρ ρ' : Ren} {H H' : AHeap} {w w' : World} (h : Fr n ρ H w ρ' H' w') (hm : m ≤ n) : Fr m ρ H w ρ' H' w' :=
  ⟨h.os, h.tape, h.output, h.size, h.keep, fun b hb => h.oldA b (by omega), h.fresh⟩
theorem Fr.trans {n : Nat} {ρ ρ1 ρ2 : Ren} {H H1 H2 : AHeap} {w w1 w2 : World} (h : Fr n ρ H w ρ1 H1 w1) (k : Fr n ρ1 H1 w1 ρ2 H2 w2) : Fr n ρ H w ρ2 H2 w2 := by
  have hown : ∀ k, Owned ρ1 H1 k → Owned ρ H k ∨ w.heap.size ≤ k := by
    rintro k ⟨b, l, hb, rfl, hw⟩
    exact h.fresh b l hb hw
  refine ⟨k.os.trans h.os, k.tape.trans h.tape, k.output.trans h.output, Nat.le_trans h.size k.size, fun i hi ho => ?_, fun b hb => ?_, fun b l' hb hw => ?_⟩
  · refine (k.keep i (Nat.lt_of_lt_of_le hi h.size) (fun ho1 => ?_)).trans (h.keep i hi ho)
    rcases hown i ho1 with h1 | h1
    · exact ho h1
    · omega
  · rcases h.oldA b hb with h1 | ⟨h1, h2⟩
    · rcases k.oldA b hb with k1 | ⟨k1, l, k2⟩
      · exact .inl (k1.trans h1)
      · exact .inr ⟨k1, l, by rw [← h1]; exact k2⟩
    · rcases k.oldA b hb with k1 | ⟨k1, k2⟩
      · exact .inr ⟨k1.trans h1, h2⟩
      · exact .inr ⟨k1, h2⟩
  · rcases k.fresh b l' hb hw with k1 | k1
    · exact hown _ k1
    · exact .inr (Nat.le_trans h.size k1)
theorem Fr.drew {n : Nat} {ρ ρ' : Ren} {H H' : AHeap} {w w' : World} {k : Nat} (h : Fr n ρ H { w with drawn := k } ρ' H' w') : Fr n ρ H w ρ' H' w' := ⟨h.os, h.tape, h.output, h.size, h.keep, h.oldA, h.fresh⟩
theorem HRel.drawn {ρ : Ren} {H : AHeap} {w : World} (h : HRel ρ H w) (k : Nat) : HRel ρ H { w with drawn := k } :=
  ⟨h.bound, fun b l hb => by
    obtain ⟨o, h1, h2, h3⟩ := h.rel b l hb
    exact ⟨o, h1, h2, h3.mono (fun _ _ => .inl rfl) rfl⟩, h.inj, h.glob, h.isdead⟩
/-- A quiet step: old blocks stay as they are; Δ are new. -/
structure Ext (ρ : Ren) (H : AHeap) (w : World) (ρ' : Ren) (w' : World) : Prop where
  os : w'.os = w.os
  tape : w'.tape = w.tape
  output : w'.output = w.output
  size : w.heap.size ≤ w'.heap.size
  keep : ∀ k, k < w.heap.size → ¬ Owned ρ H k → w'.heap[k]? = w.heap[k]?
  old : ∀ b, b < H.length → ρ' b = ρ b
  fresh : ∀ b l', H.length ≤ b → ρ' b = .at l' → w.heap.size ≤ l'.blk
theorem Ext.refl {ρ : Ren} {H : AHeap} {w : World} (h : HRel ρ H w) : Ext ρ H w ρ w :=
  ⟨rfl, rfl, rfl, Nat.le_refl _, fun _ _ _ => rfl, fun _ _ => rfl, fun b l hb h1 => by rw [h.bound b hb] at h1; cases h1⟩
theorem Ext.fr {ρ ρ' : Ren} {H Δ : AHeap} {w w' : World} (h : Ext ρ H w ρ' w') : Fr H.length ρ H w ρ' (H ++ Δ) w' :=
  ⟨h.os, h.tape, h.output, h.size, h.keep, fun b hb => .inl (h.old b hb), fun b l' hb hw => by
    by_cases e : b < H.length
    · refine .inl ⟨b, l', by rw [← h.old b e]; exact hb, rfl, ?_⟩
      obtain ⟨o, h1, h2⟩ := hw
      rw [List.getElem?_append_left e] at h1
      exact ⟨o, h1, h2⟩
    · exact .inr (h.fresh b l' (by omega) hb)⟩
/-- Out of what code may have done: nothing that was there is dead, all is as it was: a quiet step. -/
theorem Fr.ext {ρ ρ' : Ren} {H Δ : AHeap} {w w' : World} (h : Fr H.length ρ H w ρ' (H ++ Δ) w') (h0 : HRel ρ H w) (h1 : HRel ρ' (H ++ Δ) w') (hΔ : ∀ o ∈ Δ, o.wr = true) : Ext ρ H w ρ' w' := by
  have hold : ∀ b, b < H.length → ρ' b = ρ b := fun b hb => by
    rcases h.oldA b hb with e | ⟨e, l, hr⟩
    · exact e
    · have hd := h1.isdead b e
      rw [List.getElem?_append_left hb] at hd
      obtain ⟨o, ho, _, hO⟩ := h0.rel b l hr
      rw [hd] at ho
      cases ho
      exact hO.elim
  refine ⟨h.os, h.tape, h.output, h.size, h.keep, hold, fun b l' hb hl => ?_⟩
  obtain ⟨o, ho, hlt, _⟩ := h1.rel b l' hl
  have hw : wr (H ++ Δ) b := by
    refine ⟨o, ho, hΔ o ?_⟩
    rw [List.getElem?_append_right hb] at ho
    exact List.mem_of_getElem? ho
  rcases h.fresh b l' hl hw with ⟨c, m, hc, he, hcw⟩ | h2
  · have hcl : c < H.length := by
      by_cases e : c < H.length
      · exact e
      · rw [h0.bound c (by omega)] at hc; cases hc
    have hc' : ρ' c = .at m := (hold c hcl).trans hc
    exact absurd he.symm (fun e => h1.inj b c l' m (by omega) hl hc' hw (e.trans rfl))
  · exact h2
end Go.Proofs.YtnafdgcikaifmaaGreatA


/-
  Code over abstract states: what it means, and the rules of control.
-/
namespace Go.Proofs.YtnafdgcikaifmaaGreatA
set_option linter.unusedVariables false
open Go Go.RowKit

structure ASt where
  nt : Nat
  T : Nat → Value
  D : List Nat
  H : AHeap
def DRel (ρ : Ren) (H : AHeap) : List Nat → List Deferred → Prop
  | [], [] => True
  | d :: ds, x :: xs => (∃ l, ρ d = .at l ∧ H[d]? = some .mark ∧ x = { target := .collected l.blk, args := #[] }) ∧ DRel ρ H ds xs
  | _, _ => False
/-- How the heap stood when the function began: its values name blocks of it alone. -/
def Entry (N0 : AHeap) (ρ : Ren) : Prop := ∃ ρ0 w0, HRel ρ0 N0 w0 ∧ ∀ b, b < N0.length → (ρ b ≠ .none → ρ0 b ≠ .none) ∧ ∀ l, ρ b = .at l → ρ0 b ≠ .null
theorem Entry.of {N0 : AHeap} {ρ ρ' : Ren} (h : Entry N0 ρ) (k : ∀ b, b < N0.length → ρ' b = ρ b ∨ (ρ' b = .dead ∧ ρ b ≠ .none)) : Entry N0 ρ' := by
  obtain ⟨ρ0, w0, h1, h2⟩ := h
  refine ⟨ρ0, w0, h1, fun b hb => ?_⟩
  rcases k b hb with e | ⟨e', e⟩
  · rw [e]; exact h2 b hb
  · exact ⟨fun _ => (h2 b hb).1 e, fun l hl => by rw [e'] at hl; cases hl⟩
structure SRel (N0 : AHeap) (ρ : Ren) (s : ASt) (a : Act) (w : World) : Prop where
  heap : HRel ρ s.H w
  tmps : TRel ρ s.nt s.T a.tmps
  defers : DRel ρ s.H s.D a.defers
  len : N0.length ≤ s.H.length
  entry : Entry N0 ρ
theorem SRel.drawn {N0 : AHeap} {ρ : Ren} {s : ASt} {a : Act} {w : World} (h : SRel N0 ρ s a w) (k : Nat) : SRel N0 ρ s a { w with drawn := k } := ⟨h.heap.drawn k, h.tmps, h.defers, h.len, h.entry⟩

def ASt.put (s : ASt) (dst : Option Tmp) (v : Value) : ASt :=
  match dst with
  | some d => { s with T := upd s.T d v }
  | none => s
def dOk (nt : Nat) : Option Tmp → Prop
  | some d => d < nt
  | none => True
inductive AEx where
  | normal
  | exit (id : Nat)
  | goto (l : Nat)
  | ret
def AEx.ex : AEx → Exit
  | .normal => .normal
  | .exit id => .exit id
  | .goto l => .goto l
  | .ret => .ret
def AEx.then (next : ASt → Prop) (Q : AEx → ASt → Prop) : AEx → ASt → Prop
  | .normal, s => next s
  | e, s => Q e s
def AEx.inBlock (id : Nat) (Q : AEx → ASt → Prop) : AEx → ASt → Prop
  | .exit id', s => if id' = id then Q .normal s else Q (.exit id') s
  | e, s => Q e s
def APost (N0 : AHeap) (Q : AEx → ASt → Prop) (ρ : Ren) (H : AHeap) (w : World) : Exit → Act → World → Prop :=
  fun e a' w' => ∃ x s' ρ', e = AEx.ex x ∧ Q x s' ∧ SRel N0 ρ' s' a' w' ∧ Fr N0.length ρ H w ρ' s'.H w'
def awp (F : Fence) (n : Nat) (P : Program) (N0 : AHeap) (c : Code) (Q : AEx → ASt → Prop) (s : ASt) : Prop :=
  ∀ ρ a w, SRel N0 ρ s a w → c.wpIn F n P (APost N0 Q ρ s.H w) a w

section
variable {F : Fence} {n : Nat} {P : Program} {N0 : AHeap} {Q Q' : AEx → ASt → Prop} {s : ASt}
theorem APost.mono {ρ : Ren} {H : AHeap} {w : World} (hq : ∀ e s, Q e s → Q' e s) {e : Exit} {a' : Act} {w' : World} (h : APost N0 Q ρ H w e a' w') : APost N0 Q' ρ H w e a' w' := by
  obtain ⟨x, s', ρ', h1, h2, h3, h4⟩ := h
  exact ⟨x, s', ρ', h1, hq _ _ h2, h3, h4⟩
theorem APost.from {ρ ρ1 : Ren} {H H1 : AHeap} {w w1 : World} (hf : Fr N0.length ρ H w ρ1 H1 w1) {e : Exit} {a' : Act} {w' : World} (h : APost N0 Q ρ1 H1 w1 e a' w') : APost N0 Q ρ H w e a' w' := by
  obtain ⟨x, s', ρ', h1, h2, h3, h4⟩ := h
  exact ⟨x, s', ρ', h1, h2, h3, hf.trans h4⟩
theorem awp_skip (h : Q .normal s) : awp F n P N0 .skip Q s := fun ρ a w hs => wpIn_skip ⟨.normal, s, ρ, rfl, h, hs, .refl _ _ _ _⟩
theorem awp_exit {id : Nat} (h : Q (.exit id) s) : awp F n P N0 (.exit id) Q s := fun ρ a w hs => wpIn_exit ⟨.exit id, s, ρ, rfl, h, hs, .refl _ _ _ _⟩
theorem awp_ret (h : Q .ret s) : awp F n P N0 .ret Q s := fun ρ a w hs => wpIn_ret ⟨.ret, s, ρ, rfl, h, hs, .refl _ _ _ _⟩
theorem awp_seq {x y : Code} (h : awp F n P N0 x (AEx.then (awp F n P N0 y Q) Q) s) : awp F n P N0 (.seq x y) Q s := by
  intro ρ a w hs
  refine wpIn_seq (wpIn_mono (h ρ a w hs) ?_)
  rintro e a' w' ⟨x, s', ρ', rfl, h2, h3, h4⟩
  cases x with
  | normal => exact wpIn_mono (h2 ρ' a' w' h3) fun e a w hp => hp.from h4
  | exit id => exact ⟨_, s', ρ', rfl, h2, h3, h4⟩
  | goto l => exact ⟨_, s', ρ', rfl, h2, h3, h4⟩
  | ret => exact ⟨_, s', ρ', rfl, h2, h3, h4⟩
theorem awp_block {id : Nat} {c : Code} (h : awp F n P N0 c (AEx.inBlock id Q) s) : awp F n P N0 (.block id c) Q s := by
  intro ρ a w hs
  refine wpIn_block (wpIn_mono (h ρ a w hs) ?_)
  rintro e a' w' ⟨x, s', ρ', rfl, h2, h3, h4⟩
  cases x with
  | normal => exact ⟨_, s', ρ', rfl, h2, h3, h4⟩
  | exit id' =>
    by_cases hid : id' = id
    · simp only [AEx.inBlock, hid, if_true] at h2
      simp only [AEx.ex, Exit.inBlock, hid, if_true]
      exact ⟨.normal, s', ρ', rfl, h2, h3, h4⟩
    · simp only [AEx.inBlock, hid, if_false] at h2
      simp only [AEx.ex, Exit.inBlock, hid, if_false]
      exact ⟨.exit id', s', ρ', rfl, h2, h3, h4⟩
  | goto l => exact ⟨_, s', ρ', rfl, h2, h3, h4⟩
  | ret => exact ⟨_, s', ρ', rfl, h2, h3, h4⟩
/-- The value of an operand. -/
def ev (T : Nat → Value) : Operand → Value
  | .tmp t => T t
  | .const v => v
  | .global g => .pointer (some ⟨g, 0, none⟩)
  | .func f => .func (.func f) #[] #[]
theorem eval_tmp (a : Act) (t : Tmp) : a.eval (.tmp t) = a.tmps.getD t undef := rfl
theorem vrel_bool {ρ : Ren} {b : Bool} {v : Value} (h : VRel ρ (.bool b) v) : v = .bool b := by
  cases h with
  | bool => rfl
  | dead h => exact h.elim
theorem vrel_undef {ρ : Ren} {v : Value} (h : VRel ρ undef v) : v = undef := by
  cases h with
  | tuple h1 h2 =>
    rename_i vs'
    have : vs' = #[] := by
      apply Array.eq_empty_of_size_eq_zero
      simpa using h1.symm
    rw [this]; rfl
  | dead h => exact h.elim
theorem awp_cond {t : Tmp} {x y : Code} {b : Bool} (hc : s.T t = .bool b) (h : awp F n P N0 (if b then x else y) Q s) : awp F n P N0 (.cond (.tmp t) x y) Q s := by
  intro ρ a w hs
  have h1 := hs.tmps.2 t
  rw [hc] at h1
  exact wpIn_cond (t := b) (by rw [eval_tmp]; exact vrel_bool h1) (h ρ a w hs)
theorem exists_least (p : Nat → Prop) (h : ∃ n, p n) : ∃ n, p n ∧ ∀ m, p m → n ≤ m := by
  obtain ⟨n, hn⟩ := h
  induction n using Nat.strongRecOn with
  | _ n ih =>
    by_cases h : ∃ m, m < n ∧ p m
    · obtain ⟨m, h1, h2⟩ := h
      exact ih m h1 h2
    · exact ⟨n, hn, fun m hm => Classical.byContradiction fun hlt => h ⟨m, by omega, hm⟩⟩
/-- A loop: a family of states, and a measure. -/
theorem awp_loop {α : Type} {c : Code} (I : α → ASt → Prop) (μ : α → Nat) {x0 : α} (h0 : I x0 s)
    (round : ∀ x s, I x s → awp F n P N0 c (AEx.then (fun s' => ∃ y, I y s' ∧ μ y < μ x) Q) s) : awp F n P N0 (.loop c) Q s := by
  intro ρ a w hs
  let J : Nat → Act → World → Prop := fun m a' w' => ∃ x s' ρ', μ x = m ∧ I x s' ∧ SRel N0 ρ' s' a' w' ∧ Fr N0.length ρ s.H w ρ' s'.H w'
  have hle : ∀ a' w', (∃ m, J m a' w') → ∃ m, J m a' w' ∧ ∀ k, J k a' w' → m ≤ k := fun a' w' h => exists_least _ h
  let M : Act → World → Nat := fun a' w' => open Classical in if h : ∃ m, J m a' w' then Classical.choose (hle a' w' h) else 0
  have hM : ∀ a' w', (∃ m, J m a' w') → J (M a' w') a' w' ∧ ∀ k, J k a' w' → M a' w' ≤ k := fun a' w' h => by
    have := Classical.choose_spec (hle a' w' h)
    simp only [M, dif_pos h]
    exact this
  refine wpIn_loop (fun a' w' => ∃ m, J m a' w') M ⟨μ x0, x0, s, ρ, rfl, h0, hs, .refl _ _ _ _⟩ ?_
  intro a' w' hI
  obtain ⟨x, s', ρ', hx, hxI, hs', hf⟩ := (hM a' w' hI).1
  refine wpIn_mono (round x s' hxI ρ' a' w' hs') ?_
  rintro e a2 w2 ⟨y, s2, ρ2, rfl, h2, h3, h4⟩
  cases y with
  | normal =>
    obtain ⟨y, hy, hlt⟩ := h2
    have hJ : J (μ y) a2 w2 := ⟨y, s2, ρ2, rfl, hy, h3, hf.trans h4⟩
    refine ⟨⟨_, hJ⟩, ?_⟩
    have := (hM a2 w2 ⟨_, hJ⟩).2 _ hJ
    omega
  | exit id => exact ⟨_, s2, ρ2, rfl, h2, h3, hf.trans h4⟩
  | goto l => exact ⟨_, s2, ρ2, rfl, h2, h3, hf.trans h4⟩
  | ret => exact ⟨_, s2, ρ2, rfl, h2, h3, hf.trans h4⟩

/-! ### Operations -/
def Wd (F : Fence) : Prop := F = Fence.wide ∨ ∃ l, F = Fence.wide.inRound l
theorem Wd.fn (hF : Wd F) (f : FuncId) : F.fn f := by rcases hF with rfl | ⟨l, rfl⟩ <;> trivial
theorem Wd.depth (hF : Wd F) : F.depth = none := by rcases hF with rfl | ⟨l, rfl⟩ <;> rfl
theorem Wd.calls (hF : Wd F) {f : FuncId} {args : Array Value} {w : World} {R : Ending → World → Prop} (h : Calls P f args w R) : CallsIn F n P f args w R := by
  rcases hF with rfl | ⟨l, rfl⟩
  · exact callsIn_wide.2 h
  · exact CallsIn.inRound l (callsIn_wide.2 h)
/-- What an operation comes to. -/
def OpOk (F : Fence) (n : Nat) (P : Program) (N0 : AHeap) (o : Oper) (K : ASt → Prop) (s : ASt) : Prop :=
  ∀ ρ a w, SRel N0 ρ s a w → o.wpIn F n P a w (fun a' w' => ∃ s' ρ', K s' ∧ SRel N0 ρ' s' a' w' ∧ Fr N0.length ρ s.H w ρ' s'.H w') (fun _ _ _ => False)
def gval (ops : Array Oper) (T : Nat → Value) (j : Nat) : Value :=
  match ops[j]? with
  | some o => (match o.dst with | some d => T d | none => undef)
  | none => undef
def GYes (ops : Array Oper) (o : Oper) (T : Nat → Value) : Prop := ∀ j want, o.guard = some (j, want) → gval ops T j = .bool want
def GNo (ops : Array Oper) (o : Oper) (T : Nat → Value) : Prop := ∃ j want, o.guard = some (j, want) ∧ (gval ops T j = .bool (!want) ∨ gval ops T j = undef)
def aStep (F : Fence) (n : Nat) (P : Program) (N0 : AHeap) (ops : Array Oper) (o : Oper) (K : ASt → Prop) (s : ASt) : Prop :=
  (GYes ops o s.T ∧ OpOk F n P N0 o K s) ∨ (GNo ops o s.T ∧ dOk s.nt o.dst ∧ K (s.put o.dst undef))
def aList (F : Fence) (n : Nat) (P : Program) (N0 : AHeap) (ops : Array Oper) : List Oper → (ASt → Prop) → ASt → Prop
  | [], K, s => K s
  | o :: rest, K, s => aStep F n P N0 ops o (aList F n P N0 ops rest K) s

theorem yielded_rel {ρ : Ren} {nt : Nat} {T : Nat → Value} {a : Act} (h : TRel ρ nt T a.tmps) (ops : Array Oper) (j : Nat) :
    (∀ b, gval ops T j = .bool b → yielded ops a.tmps j = some b) ∧ (gval ops T j = undef → yielded ops a.tmps j = none) := by
  unfold gval yielded
  cases ho : ops[j]? with
  | none => simp [undef]
  | some o =>
    cases hd : o.dst with
    | none => simp [hd, undef]
    | some d =>
      have h1 := h.2 d
      simp only [hd, Option.bind_some]
      refine ⟨fun b hb => ?_, fun hb => ?_⟩
      · rw [hb] at h1
        have h2 := vrel_bool h1
        rw [Array.getD_eq_getD_getElem?] at h2
        cases h3 : a.tmps[d]? with
        | none => rw [h3] at h2; cases h2
        | some v => rw [h3] at h2; simp only [Option.getD_some] at h2; rw [h2]
      · rw [hb] at h1
        have h2 := vrel_undef h1
        rw [Array.getD_eq_getD_getElem?] at h2
        cases h3 : a.tmps[d]? with
        | none => rfl
        | some v => rw [h3] at h2; simp only [Option.getD_some] at h2; rw [h2]; rfl
theorem wanted_yes {ρ : Ren} {nt : Nat} {T : Nat → Value} {a : Act} (h : TRel ρ nt T a.tmps) {ops : Array Oper} {o : Oper} (hg : GYes ops o T) : Region.wanted o (yielded ops a.tmps) = true := by
  unfold Region.wanted
  cases hgd : o.guard with
  | none => rfl
  | some p =>
    obtain ⟨j, want⟩ := p
    simp only [(yielded_rel h ops j).1 want (hg j want hgd)]
    simp
theorem wanted_no {ρ : Ren} {nt : Nat} {T : Nat → Value} {a : Act} (h : TRel ρ nt T a.tmps) {ops : Array Oper} {o : Oper} (hg : GNo ops o T) : Region.wanted o (yielded ops a.tmps) = false := by
  obtain ⟨j, want, hgd, h1⟩ := hg
  unfold Region.wanted
  rw [hgd]
  rcases h1 with h1 | h1
  · simp only [(yielded_rel h ops j).1 _ h1]
    cases want <;> rfl
  · simp only [(yielded_rel h ops j).2 h1]
    cases want <;> rfl
theorem SRel.put {ρ : Ren} {a : Act} {w : World} (h : SRel N0 ρ s a w) {dst : Option Tmp} (hd : dOk s.nt dst) {v v' : Value} (hv : VRel ρ v v') : SRel N0 ρ (s.put dst v) (a.put dst v') w := by
  cases dst with
  | none => exact h
  | some d => exact ⟨h.heap, h.tmps.upd hd hv, h.defers, h.len, h.entry⟩
theorem ASt.put_H (s : ASt) (dst : Option Tmp) (v : Value) : (s.put dst v).H = s.H := by cases dst <;> rfl
theorem aList_sound (hF : Wd F) {ops : Array Oper} {K : ASt → Prop} {R : Exit → Act → World → Prop} : ∀ (l : List Oper) (s : ASt) (ρ : Ren) (a : Act) (w : World), aList F n P N0 ops l K s → SRel N0 ρ s a w →
    (hR : ∀ s' ρ' a' w', K s' → SRel N0 ρ' s' a' w' → Fr N0.length ρ s.H w ρ' s'.H w' → R .normal a' w') → (hRx : ∀ e a w, e ≠ .normal → False → R e a w) →
    wpListIn F n P ops R l a w
  | [], s, ρ, a, w, h, hs, hR, _ => hR s ρ a w h hs (.refl _ _ _ _)
  | o :: rest, s, ρ, a, w, h, hs, hR, hRx => by
    unfold wpListIn
    rcases h with ⟨hg, h⟩ | ⟨hg, hd, h⟩
    · rw [if_pos (wanted_yes hs.tmps hg)]
      have := h ρ a w hs
      have h2 := Oper.wpIn_mono (K' := wpListIn F n P ops R rest) (fun a' w' ⟨s', ρ', hk, hs', hf⟩ => aList_sound hF rest s' ρ' a' w' hk hs' (fun s2 ρ2 a2 w2 k2 hs2 hf2 => hR s2 ρ2 a2 w2 k2 hs2 (hf.trans hf2)) hRx) this
      unfold Oper.wpIn at h2 ⊢
      refine ⟨h2.1, ?_⟩
      have h3 := h2.2
      generalize (o.semAt F.round a.eval).run P w = r at h3 ⊢
      cases r with
      | ok x w' =>
        cases x <;> simp only [Oper.uponIn] at h3 ⊢ <;>
          first
            | exact h3
            | exact ⟨h3.1, CallsIn.mono h3.2 (fun e w'' he => by cases e <;> first | exact he | exact he.elim | exact (by obtain ⟨_, _, hf⟩ := he; exact hf.elim))⟩
            | exact ⟨h3.1, RoundIn.mono h3.2 (fun e w'' he => by cases e <;> first | exact he | exact he.elim | exact (by obtain ⟨_, _, hf⟩ := he; exact hf.elim))⟩
      | halt x w' => cases x <;> simp only [Oper.uponIn] at h3 ⊢ <;> exact h3.elim
    · rw [if_neg (by rw [wanted_no hs.tmps hg]; simp)]
      refine ⟨fun f _ => hF.fn f, ?_⟩
      refine aList_sound hF rest _ ρ _ w h (hs.put hd (.undef ρ)) (fun s2 ρ2 a2 w2 k2 hs2 hf2 => hR s2 ρ2 a2 w2 k2 hs2 ?_) hRx
      rwa [ASt.put_H] at hf2
/-- A region in the order of its text. -/
theorem awp_region (hF : Wd F) {id : Nat} {l : List Oper} (h : aList F n P N0 l.toArray l (Q .normal) s) : awp F n P N0 (.region id l.toArray false) Q s := by
  intro ρ a w hs
  refine wpIn_region_lit (aList_sound hF l s ρ a w h hs (fun s' ρ' a' w' hk hs' hf => ⟨.normal, s', ρ', rfl, hk, hs', hf⟩) (fun _ _ _ _ h => h.elim))
end
end Go.Proofs.YtnafdgcikaifmaaGreatA


/-
  Operations over abstract states: the quiet ones.
-/
namespace Go.Proofs.YtnafdgcikaifmaaGreatA
set_option linter.unusedVariables false
open Go Go.RowKit

def RunQ (P : Program) (R : Value → World → Prop) : Result Next → Prop
  | .ok (.value v) w' => R v w'
  | .ok .skip w' => R undef w'
  | .ok (.enter f args) w' => Calls P f args w' fun e w'' => ∃ v, e = .returned v ∧ R v w''
  | _ => False
/-- A quiet operation: it yields v, and makes the blocks Δ. -/
structure OpQ (P : Program) (o : Oper) (T : Nat → Value) (H : AHeap) (v : Value) (Δ : AHeap) : Prop where
  nd : ∀ c, o.op ≠ .defer c
  wr : ∀ x ∈ Δ, x.wr = true
  run : ∀ ρ e w, HRel ρ H w → (∀ x ∈ o.op.operands, VRel ρ (ev T x) (e x)) →
    RunQ P (fun v' w' => ∃ ρ', VRel ρ' v v' ∧ HRel ρ' (H ++ Δ) w' ∧ Ext ρ H w ρ' w') ((execOp e o).run P w)
/-- Operands whose values are known. -/
def cOk (H : AHeap) : Operand → Prop
  | .tmp _ => True
  | .const v => ∀ ρ, VRel ρ v v
  | .global g => ∃ vs sz, H[g]? = some (.glob vs sz)
  | .func _ => True
section
variable {F : Fence} {n : Nat} {P : Program} {N0 : AHeap} {s : ASt}
theorem ev_rel {ρ : Ren} {a : Act} {w : World} {nt : Nat} {T : Nat → Value} {H : AHeap} (hh : HRel ρ H w) (ht : TRel ρ nt T a.tmps) {x : Operand} (hc : cOk H x) : VRel ρ (ev T x) (a.eval x) := by
  cases x with
  | tmp t => rw [eval_tmp]; exact ht.2 t
  | const v => exact hc ρ
  | «global» g =>
    obtain ⟨vs, sz, hg⟩ := hc
    obtain ⟨l, h1, h2, h3⟩ := hh.glob g vs sz hg
    have := VRel.ptr (o := 0) h1
    rw [h2, h3] at this
    exact this
  | func f => exact .func trivial rfl (fun i hi => by simp at hi) rfl (fun i hi => by simp at hi)
theorem OpQ.ok (hF : Wd F) {o : Oper} {v : Value} {Δ : AHeap} {K : ASt → Prop} (hq : OpQ P o s.T s.H v Δ) (hc : ∀ x ∈ o.op.operands, cOk s.H x) (hd : dOk s.nt o.dst)
    (hk : K (ASt.put { s with H := s.H ++ Δ } o.dst v)) : OpOk F n P N0 o K s := by
  intro ρ a w hs
  have h := hq.run ρ a.eval w hs.heap (fun x hx => ev_rel hs.heap hs.tmps (hc x hx))
  refine ⟨fun f _ => hF.fn f, ?_⟩
  rw [Oper.semAt_eq _ _ _ hq.nd]
  have fin : ∀ v' w', (∃ ρ', VRel ρ' v v' ∧ HRel ρ' (s.H ++ Δ) w' ∧ Ext ρ s.H w ρ' w') → ∃ s' ρ', K s' ∧ SRel N0 ρ' s' (a.put o.dst v') w' ∧ Fr N0.length ρ s.H w ρ' s'.H w' := by
    rintro v' w' ⟨ρ', hv, hh, he⟩
    have hm : ∀ b, ρ b ≠ .none → ρ' b = ρ b ∨ ρ' b = .dead := fun b hb => .inl (he.old b (by
      by_cases e : b < s.H.length
      · exact e
      · exact absurd (hs.heap.bound b (by omega)) hb))
    have hD : ∀ (D : List Nat) (ds : List Deferred), DRel ρ s.H D ds → DRel ρ' (s.H ++ Δ) D ds := by
      intro D
      induction D with
      | nil => intro ds h; cases ds with | nil => trivial | cons _ _ => exact h.elim
      | cons d D ih =>
        intro ds h
        cases ds with
        | nil => exact h.elim
        | cons x ds =>
          obtain ⟨⟨l, h1, h2, h3⟩, h4⟩ := h
          have hlt : d < s.H.length := (List.getElem?_eq_some_iff.1 h2).1
          exact ⟨⟨l, (he.old d hlt).trans h1, by rw [List.getElem?_append_left hlt]; exact h2, h3⟩, ih ds h4⟩
    have hs1 : SRel N0 ρ' { s with H := s.H ++ Δ } a w' := ⟨hh, hs.tmps.mono hm, hD _ _ hs.defers, by simp; have := hs.len; omega, hs.entry.of fun b hb => .inl (he.old b (by have := hs.len; omega))⟩
    refine ⟨_, ρ', hk, hs1.put hd hv, ?_⟩
    rw [ASt.put_H]
    exact he.fr.mono hs.len
  generalize (execOp a.eval o).run P w = r at h ⊢
  cases r with
  | ok x w' =>
    cases x with
    | value v' => exact fin _ _ h
    | skip => exact fin _ _ h
    | enter f args =>
      refine ⟨fun hd => by rw [hF.depth] at hd; simp at hd, hF.calls (Calls.mono h ?_)⟩
      rintro e w'' ⟨v', rfl, hv⟩
      exact fin _ _ hv
    | _ => exact h.elim
  | halt x w' => exact h.elim

/-! ### Values without addresses -/
def Scalar : Value → Bool
  | .bool _ | .int _ _ | .float _ _ | .complex _ _ _ | .string _ | .pointer none | .slice none 0 0 | .map none | .nilFunc | .nilIface => true
  | _ => false
theorem scalar_dead {ρ : Ren} {v : Value} (hs : Scalar v = true) (h : deadOf ρ v) : False := by
  cases v with
  | pointer a => cases a with | none => exact h | some a => simp [Scalar] at hs
  | slice a n c => cases a with | none => exact h | some a => simp [Scalar] at hs
  | map a => cases a with | none => exact h | some a => simp [Scalar] at hs
  | func fn fs cs => simp [Scalar] at hs
  | _ => exact h
theorem VRel.scalar_eq {ρ : Ren} {v v' : Value} (h : VRel ρ v v') (hs : Scalar v = true) : v' = v := by
  cases h with
  | dead h => exact (scalar_dead hs h).elim
  | _ => first | rfl | simp [Scalar] at hs
theorem VRel.scalar {v : Value} (hs : Scalar v = true) (ρ : Ren) : VRel ρ v v := by
  cases v with
  | bool b => exact .bool b
  | int k n => exact .int k n
  | float k n => exact .float k n
  | complex k n m => exact .complex k n m
  | string s => exact .string s
  | pointer a => cases a with | none => exact .nilPtr | some a => simp [Scalar] at hs
  | slice a n c =>
    cases a with
    | some a => simp [Scalar] at hs
    | none =>
      unfold Scalar at hs
      split at hs <;> simp_all
      rename_i h
      obtain ⟨rfl, rfl⟩ := h
      exact .nilSlice
  | map r => cases r with | none => exact .nilMap | some a => simp [Scalar] at hs
  | nilFunc => exact .nilFunc
  | nilIface => exact .nilIface
  | _ => simp [Scalar] at hs
/-- What yields a value out of values without addresses, in whatever world. -/
theorem q_scalar {o : Oper} {T : Nat → Value} {H : AHeap} {v : Value} (hnd : ∀ c, o.op ≠ .defer c) (hns : ∀ cs b, o.op ≠ .select cs b) (hx : ∀ x ∈ o.op.operands, Scalar (ev T x) = true)
    (hv : Scalar v = true) (hr : ∀ w, (execOp (ev T) o).run P w = .ok (.value v) w) : OpQ P o T H v [] := by
  refine ⟨hnd, by simp, fun ρ e w hh he => ?_⟩
  have : execOp e o = execOp (ev T) o := execOp_congr o hns fun x h => (he x h).scalar_eq (hx x h)
  rw [this, hr w]
  exact ⟨ρ, .scalar hv ρ, by simpa using hh, .refl hh⟩
end
end Go.Proofs.YtnafdgcikaifmaaGreatA


/-
  A region that draws its order: quiet operations in whatever order, between operations that stand behind all before them.
-/
namespace Go.Proofs.YtnafdgcikaifmaaGreatA
set_option linter.unusedVariables false
open Go Go.RowKit

/-- The names below m. -/
def res (m : Nat) (ρ : Ren) : Ren := fun b => if b < m then ρ b else .none
theorem res_lt {m : Nat} {ρ : Ren} {b : Nat} (h : b < m) : res m ρ b = ρ b := if_pos h
theorem res_ge {m : Nat} {ρ : Ren} {b : Nat} (h : m ≤ b) : res m ρ b = .none := if_neg (by omega)
theorem res_mono {m m' : Nat} {ρ : Ren} (h : m ≤ m') : ∀ b, res m ρ b ≠ .none → res m' ρ b = res m ρ b ∨ res m' ρ b = .dead := fun b hb => by
  by_cases e : b < m
  · exact .inl (by rw [res_lt e, res_lt (by omega)])
  · exact absurd (res_ge (by omega)) hb
theorem fnok_dead {ρ : Ren} {fn : Fn} {fs cs : Array Value} (hf : Fnok fn) : deadOf ρ (.func fn fs cs) → False := by
  cases fn <;> intro h <;> first | exact h | exact hf
theorem VRel.cut {ρ1 ρ2 : Ren} {m : Nat} (hm : ∀ b, m ≤ b → ρ1 b = .none) {v v1 : Value} (h : VRel ρ1 v v1) : ∀ {v2 : Value}, VRel ρ2 v v2 → VRel (res m ρ2) v v2 := by
  have lt : ∀ b, ρ1 b ≠ .none → b < m := fun b hb => by
    by_cases e : b < m
    · exact e
    · exact absurd (hm b (by omega)) hb
  have dd : ∀ {v v2 : Value}, deadOf ρ2 v → (∀ b, (ρ2 b = .dead) → (match v with | .pointer (some a) => a.block = b | .slice (some a) _ _ => a.block = b | .map (some r) => r = b | .func (.yield l) _ _ => l = b | _ => False) → b < m) → VRel (res m ρ2) v v2 := by
    intro v v2 hd hb
    refine .dead ?_
    cases v with
    | pointer a => cases a with | none => exact hd | some a => exact (res_lt (hb _ hd rfl)).trans hd
    | slice a n c => cases a with | none => exact hd | some a => exact (res_lt (hb _ hd rfl)).trans hd
    | map a => cases a with | none => exact hd | some a => exact (res_lt (hb _ hd rfl)).trans hd
    | func fn fs cs => cases fn <;> first | exact hd | exact (res_lt (hb _ hd rfl)).trans hd
    | _ => exact hd
  induction h with
  | bool b => intro v2 h2; cases h2 with | bool => exact .bool b | dead h => exact h.elim
  | int k n => intro v2 h2; cases h2 with | int => exact .int k n | dead h => exact h.elim
  | float k n => intro v2 h2; cases h2 with | float => exact .float k n | dead h => exact h.elim
  | complex k n m => intro v2 h2; cases h2 with | complex => exact .complex k n m | dead h => exact h.elim
  | string s => intro v2 h2; cases h2 with | string => exact .string s | dead h => exact h.elim
  | nilPtr => intro v2 h2; cases h2 with | nilPtr => exact .nilPtr | dead h => exact h.elim
  | @ptr b o l h =>
    intro v2 h2
    have hb := lt b (by rw [h]; simp)
    cases h2 with
    | ptr h' => exact .ptr ((res_lt hb).trans h')
    | dead h' => exact dd h' (fun c _ e => e ▸ hb)
  | nilSlice => intro v2 h2; cases h2 with | nilSlice => exact .nilSlice | dead h => exact h.elim
  | @slice b o n c c' o' l h hn hc ho hr =>
    intro v2 h2
    have hb := lt b (by rw [h]; simp)
    cases h2 with
    | slice h' hn' hc' ho' hr' => exact .slice ((res_lt hb).trans h') hn' hc' ho' hr'
    | empty h' => exact .empty ((res_lt hb).trans h')
    | dead h' => exact dd h' (fun c _ e => e ▸ hb)
  | @empty b o a h =>
    intro v2 h2
    have hb := lt b (by rw [h]; simp)
    cases h2 with
    | slice h' hn' hc' ho' hr' => exact .slice ((res_lt hb).trans h') hn' hc' ho' hr'
    | empty h' => exact .empty ((res_lt hb).trans h')
    | dead h' => exact dd h' (fun c _ e => e ▸ hb)
  | nilMap => intro v2 h2; cases h2 with | nilMap => exact .nilMap | dead h => exact h.elim
  | @map b l h =>
    intro v2 h2
    have hb := lt b (by rw [h]; simp)
    cases h2 with
    | map h' => exact .map ((res_lt hb).trans h')
    | dead h' => exact dd h' (fun c _ e => e ▸ hb)
  | func hf h1 _ h3 _ i2 i4 =>
    intro v2 h2
    cases h2 with
    | func hf' h1' h2' h3' h4' => exact .func hf' h1' (fun i hi => i2 i hi (h2' i hi)) h3' (fun i hi => i4 i hi (h4' i hi))
    | yield h' => exact hf.elim
    | dead h' => exact (fnok_dead hf h').elim
  | @yield b l h =>
    intro v2 h2
    have hb := lt b (by rw [h]; simp)
    cases h2 with
    | yield h' => exact .yield ((res_lt hb).trans h')
    | func hf => exact hf.elim
    | dead h' => exact dd h' (fun c _ e => e ▸ hb)
  | nilFunc => intro v2 h2; cases h2 with | nilFunc => exact .nilFunc | dead h => exact h.elim
  | nilIface => intro v2 h2; cases h2 with | nilIface => exact .nilIface | dead h => exact h.elim
  | iface _ ih => intro v2 h2; cases h2 with | iface h' => exact .iface (ih h') | dead h => exact h.elim
  | agg h1 _ ih => intro v2 h2; cases h2 with | agg h1' h2' => exact .agg h1' (fun i hi => ih i hi (h2' i hi)) | dead h => exact h.elim
  | tuple h1 _ ih => intro v2 h2; cases h2 with | tuple h1' h2' => exact .tuple h1' (fun i hi => ih i hi (h2' i hi)) | dead h => exact h.elim
  | junk r v' => intro v2 h2; exact .junk r v2
  | @dead v v' h =>
    intro v2 h2
    have key : ∀ b, ρ1 b = .dead → b < m := fun b hb => lt b (by rw [hb]; simp)
    cases h2 with
    | ptr h' => exact .ptr ((res_lt (key _ h)).trans h')
    | slice h' hn' hc' ho' hr' => exact .slice ((res_lt (key _ h)).trans h') hn' hc' ho' hr'
    | empty h' => exact .empty ((res_lt (key _ h)).trans h')
    | map h' => exact .map ((res_lt (key _ h)).trans h')
    | yield h' => exact .yield ((res_lt (key _ h)).trans h')
    | dead h' =>
      refine dd h' (fun c _ e => ?_)
      cases v with
      | pointer a => cases a with | none => exact e.elim | some a => exact e ▸ key _ h
      | slice a n c => cases a with | none => exact e.elim | some a => exact e ▸ key _ h
      | map a => cases a with | none => exact e.elim | some a => exact e ▸ key _ h
      | func fn fs cs => cases fn <;> first | exact e.elim | exact e ▸ key _ h
      | _ => exact e.elim
    | bool => exact h.elim
    | int => exact h.elim
    | float => exact h.elim
    | complex => exact h.elim
    | string => exact h.elim
    | nilPtr => exact h.elim
    | nilSlice => exact h.elim
    | nilMap => exact h.elim
    | func hf => exact (fnok_dead hf h).elim
    | nilFunc => exact h.elim
    | nilIface => exact h.elim
    | iface => exact h.elim
    | agg => exact h.elim
    | tuple => exact h.elim
    | junk r => exact .junk r _
theorem ORel.cut {ρ1 ρ2 : Ren} {m : Nat} (hm : ∀ b, m ≤ b → ρ1 b = .none) {l1 l : Loc} {w1 w2 : World} {o : AObj} (h : ORel ρ1 l1 w1 o) (k : ORel ρ2 l w2 o) : ORel (res m ρ2) l w2 o := by
  cases o with
  | none => trivial
  | dead => exact k.elim
  | null => exact k.elim
  | glob vs sz =>
    obtain ⟨_, cs1, _, _, _, _, _, c1⟩ := h
    obtain ⟨h1, cs, T, fr, h2, h3, h4, h5⟩ := k
    exact ⟨h1, cs, T, fr, h2, h3, h4, fun i hi => (c1 i hi).cut hm (h5 i hi)⟩
  | cells wr vs sz =>
    obtain ⟨_, cs1, _, _, _, _, _, c1, _⟩ := h
    obtain ⟨h1, cs, T, fr, h2, h3, h4, h5, h6⟩ := k
    exact ⟨h1, cs, T, fr, h2, h3, h4, fun i hi => (c1 i hi).cut hm (h5 i hi), h6⟩
  | map es c =>
    obtain ⟨es1, _, _, c1⟩ := h
    obtain ⟨es', h1, h2, h3⟩ := k
    exact ⟨es', h1, h2, fun i hi => ⟨(h3 i hi).1, (c1 i hi).2.1.cut hm (h3 i hi).2.1, (h3 i hi).2.2⟩⟩
  | loop st pe fn nt T ps ass bod =>
    obtain ⟨r1, _, _, _, _, c1, _⟩ := h
    obtain ⟨r, h1, h2, h3, h4, h5, h6⟩ := k
    exact ⟨r, h1, h2, h3, h4, ⟨h5.1, fun t => (c1.2 t).cut hm (h5.2 t)⟩, h6⟩
  | mark => exact k
  | typed t vs sz =>
    obtain ⟨_, cs1, _, _, _, _, _, c1, _⟩ := h
    obtain ⟨h1, cs, T, fr, h2, h3, h4, h5, h6⟩ := k
    exact ⟨h1, cs, T, fr, h2, h3, h4, fun i hi => (c1 i hi).cut hm (h5 i hi), h6⟩

/-! ### The order of a region's operations -/
def dp (ops : Array Oper) (i : Nat) : List Nat := ((ops[i]?).map fun o => o.after.toList.filterMap fun e => if Region.binds .any e then some e.on else none).getD []
/-- What stands ahead of each, by bits: made by a program, and looked at behind it. -/
def tabOf (ops : Array Oper) : List Nat := (List.range ops.size).foldl (fun acc i => acc ++ [(dp ops i).foldl (fun s k => s ||| 2 ^ k ||| acc.getD k 0) 0]) []
def bit (tab : List Nat) (i j : Nat) : Bool := (tab.getD i 0).testBit j
def tabOk (ops : Array Oper) (tab : List Nat) : Bool :=
  (List.range ops.size).all fun i => (dp ops i).all (fun k => k < i) && (List.range ops.size).all fun j => !bit tab i j || (dp ops i).contains j || (dp ops i).any fun k => bit tab k j
def dstOf (ops : Array Oper) (i : Nat) : Option Tmp := (ops[i]?).bind (·.dst)
def readsOf (ops : Array Oper) (i : Nat) : List Tmp := ((ops[i]?).map (·.looksAt ops)).getD []
def ssaOk (ops : Array Oper) (tab : List Nat) : Bool :=
  (List.range ops.size).all fun j => match dstOf ops j with
    | none => true
    | some d => (List.range ops.size).all fun i => (i == j || dstOf ops i != some d) && (!(readsOf ops i).contains d || (i != j && ((decide (j < i) && bit tab i j) || (decide (i < j) && bit tab j i))))
def cutOk (ops : Array Oper) (tab : List Nat) (e : Nat) : Bool := (List.range ops.size).all fun j => (!decide (j < e) || bit tab e j) && (!decide (e < j) || bit tab j e)
def Closed (ops : Array Oper) (L : Nat → Bool) : Prop := ∀ i, L i = true → ∀ k ∈ dp ops i, L k = true
theorem tab_listed {ops : Array Oper} {tab : List Nat} (ht : tabOk ops tab = true) {L : Nat → Bool} (hc : Closed ops L) : ∀ i, i < ops.size → (∀ k ∈ dp ops i, L k = true) → ∀ j, j < ops.size → bit tab i j = true → L j = true := by
  intro i
  induction i using Nat.strongRecOn with
  | _ i ih =>
    intro hi hd j hj hb
    have h1 := List.all_eq_true.1 ht i (List.mem_range.2 hi)
    simp only [Bool.and_eq_true] at h1
    have h2 := List.all_eq_true.1 h1.2 j (List.mem_range.2 hj)
    simp only [hb, Bool.not_true, Bool.false_or, Bool.or_eq_true, List.contains_iff_mem, List.any_eq_true] at h2
    rcases h2 with h2 | ⟨k, hk, hkb⟩
    · exact hd j h2
    · have hki : k < i := by
        have := List.all_eq_true.1 h1.1 k hk
        simpa using this
      exact ih k hki (by omega) (hc k (hd k hk)) j hj hkb

/-! ### The walk of a drawn region -/
section
variable {F : Fence} {n : Nat} {P : Program} {N0 : AHeap}
/-- A quiet step. -/
def QStep (P : Program) (ops : Array Oper) (o : Oper) (s s' : ASt) : Prop :=
  ∃ v Δ, dOk s.nt o.dst ∧ s' = ASt.put { s with H := s.H ++ Δ } o.dst v ∧
    ((GYes ops o s.T ∧ OpQ P o s.T s.H v Δ ∧ ∀ x ∈ o.op.operands, cOk s.H x) ∨ (GNo ops o s.T ∧ v = undef ∧ Δ = []))
/-- A quiet operation that may come late: here it would yield what its slot holds, and make nothing. -/
def Pend (P : Program) (ops : Array Oper) (s : ASt) (i : Nat) : Prop :=
  ∃ o v, ops[i]? = some o ∧ dOk s.nt o.dst ∧ (∀ d, o.dst = some d → s.T d = v) ∧ ((GYes ops o s.T ∧ OpQ P o s.T s.H v [] ∧ ∀ x ∈ o.op.operands, cOk s.H x) ∨ (GNo ops o s.T ∧ v = undef))
/-- What stands neither ahead of an operation nor behind it is listed. -/
def floatOk (ops : Array Oper) (tab : List Nat) (e : Nat) (fl : List Nat) : Bool := (List.range ops.size).all fun j => ((!decide (j < e) || bit tab e j || fl.contains j) && (!decide (e < j) || bit tab j e)) &&
  (List.range ops.size).all fun i => !fl.contains i || !fl.contains j || !decide (i < j) || match dstOf ops j with | none => true | some d => !(readsOf ops i).contains d
/-- What turns the heap: done, whatever the slots of the list hold. -/
def EffOk (F : Fence) (n : Nat) (P : Program) (N0 : AHeap) (ops : Array Oper) (fl : List Nat) (o : Oper) (s : ASt) (R : Value → AHeap → Prop) : Prop :=
  ∀ T', (∀ t, (∀ j ∈ fl, dstOf ops j ≠ some t) → T' t = s.T t) → ∀ K : ASt → Prop, (∀ v H', R v H' → K (ASt.put { s with T := T', H := H' } o.dst v)) → OpOk F n P N0 o K { s with T := T' }
def EffAt (F : Fence) (n : Nat) (P : Program) (N0 : AHeap) (ops : Array Oper) (tab : List Nat) (i : Nat) (o : Oper) (K : ASt → Prop) (s : ASt) : Prop :=
  (cutOk ops tab i = true ∧ GYes ops o s.T ∧ OpOk F n P N0 o K s) ∨
  ∃ fl R, floatOk ops tab i fl = true ∧ GYes ops o s.T ∧ EffOk F n P N0 ops fl o s R ∧ ∀ v H', R v H' → (∀ j ∈ fl, Pend P ops (ASt.put { s with H := H' } o.dst v) j) ∧ K (ASt.put { s with H := H' } o.dst v)
def dList (F : Fence) (n : Nat) (P : Program) (N0 : AHeap) (ops : Array Oper) (tab : List Nat) : Nat → List Oper → (ASt → Prop) → ASt → Prop
  | _, [], K, s => K s
  | i, o :: rest, K, s => (∃ s', QStep P ops o s s' ∧ dList F n P N0 ops tab (i + 1) rest K s') ∨ EffAt F n P N0 ops tab i o (dList F n P N0 ops tab (i + 1) rest K) s
/-- Quiet steps from c to e. -/
def Chain (P : Program) (ops : Array Oper) (st : Nat → ASt) (c e : Nat) : Prop := ∀ i, c ≤ i → i < e → ∃ o, ops[i]? = some o ∧ QStep P ops o (st i) (st (i + 1))
theorem chain_of {ops : Array Oper} {tab : List Nat} {K : ASt → Prop} : ∀ (l : List Oper) (c : Nat) (s : ASt), (∀ j, l[j]? = ops[c + j]?) → dList F n P N0 ops tab c l K s →
    ∃ e st, c ≤ e ∧ st c = s ∧ Chain P ops st c e ∧ ((e = c + l.length ∧ K (st e)) ∨
      (∃ o rest, ops[e]? = some o ∧ (∀ j, rest[j]? = ops[e + 1 + j]?) ∧ e < c + l.length ∧ rest.length < l.length ∧ EffAt F n P N0 ops tab e o (dList F n P N0 ops tab (e + 1) rest K) (st e)))
  | [], c, s, _, h => ⟨c, fun _ => s, Nat.le_refl _, rfl, fun i h1 h2 => by omega, .inl ⟨rfl, h⟩⟩
  | o :: rest, c, s, hl, h => by
    have h0 : ops[c]? = some o := by simpa using (hl 0).symm
    have hr : ∀ j, rest[j]? = ops[c + 1 + j]? := fun j => by have := hl (j + 1); simpa [Nat.add_assoc, Nat.add_comm 1 j] using this
    rcases h with ⟨s', hq, h⟩ | h1
    · obtain ⟨e, st, he, hst, hc, hend⟩ := chain_of rest (c + 1) s' hr h
      refine ⟨e, fun i => if i ≤ c then s else st i, by omega, by simp, fun i hi hie => ?_, ?_⟩
      · by_cases e1 : i = c
        · subst e1
          refine ⟨o, h0, ?_⟩
          simp only [Nat.le_refl, if_true, show ¬ i + 1 ≤ i by omega, if_false, hst]
          exact hq
        · obtain ⟨o', h4, h5⟩ := hc i (by omega) hie
          exact ⟨o', h4, by simpa only [show ¬ i ≤ c by omega, show ¬ i + 1 ≤ c by omega, if_false] using h5⟩
      · simp only [show ¬ e ≤ c by omega, if_false]
        rcases hend with ⟨h4, h5⟩ | ⟨o', r', h4, h5, h6, h7, h8⟩
        · exact .inl ⟨by simp; omega, h5⟩
        · exact .inr ⟨o', r', h4, h5, by simp; omega, by simp; omega, h8⟩
    · exact ⟨c, fun _ => s, Nat.le_refl _, rfl, fun i h1 h2 => by omega, .inr ⟨o, rest, h0, hr, by simp, by simp, h1⟩⟩
theorem QStep.H {ops : Array Oper} {o : Oper} {s s' : ASt} (h : QStep P ops o s s') : ∃ Δ, s'.H = s.H ++ Δ ∧ s'.D = s.D ∧ s'.nt = s.nt := by
  obtain ⟨v, Δ, _, rfl, _⟩ := h
  refine ⟨Δ, ?_, ?_, ?_⟩ <;> cases o.dst <;> rfl
theorem QStep.T {ops : Array Oper} {o : Oper} {s s' : ASt} (h : QStep P ops o s s') {t : Nat} (ht : o.dst ≠ some t) : s'.T t = s.T t := by
  obtain ⟨v, Δ, _, rfl, _⟩ := h
  cases hd : o.dst with
  | none => rfl
  | some d => exact upd_other _ _ (fun e => ht (by rw [hd, e]))
section
variable {ops : Array Oper} {st : Nat → ASt} {c e : Nat} (hch : Chain P ops st c e)
include hch
theorem chain_len {i j : Nat} (hi : c ≤ i) (hij : i ≤ j) (hj : j ≤ e) : ∃ Δ, (st j).H = (st i).H ++ Δ ∧ (st j).D = (st i).D ∧ (st j).nt = (st i).nt := by
  induction j with
  | zero => exact ⟨[], by simp [show i = 0 by omega], by rw [show i = 0 by omega], by rw [show i = 0 by omega]⟩
  | succ j ih =>
    by_cases e1 : i = j + 1
    · subst e1; exact ⟨[], by simp, rfl, rfl⟩
    · obtain ⟨Δ, h1, h2, h3⟩ := ih (by omega) (by omega)
      obtain ⟨o, _, hq⟩ := hch j (by omega) (by omega)
      obtain ⟨Δ', h4, h5, h6⟩ := hq.H
      exact ⟨Δ ++ Δ', by rw [h4, h1, List.append_assoc], h5.trans h2, h6.trans h3⟩
theorem chain_le {i j : Nat} (hi : c ≤ i) (hij : i ≤ j) (hj : j ≤ e) : (st i).H.length ≤ (st j).H.length := by
  obtain ⟨Δ, h, _⟩ := chain_len hch hi hij hj
  rw [h]; simp
theorem chain_get {i j b : Nat} (hi : c ≤ i) (hij : i ≤ j) (hj : j ≤ e) (hb : b < (st i).H.length) : (st j).H[b]? = (st i).H[b]? := by
  obtain ⟨Δ, h, _⟩ := chain_len hch hi hij hj
  rw [h, List.getElem?_append_left hb]
/-- A slot that none of the steps writes. -/
theorem chain_T {i j : Nat} {t : Nat} (hi : c ≤ i) (hij : i ≤ j) (hj : j ≤ e) (ht : ∀ k, i ≤ k → k < j → dstOf ops k ≠ some t) : (st j).T t = (st i).T t := by
  induction j with
  | zero => rw [show i = 0 by omega]
  | succ j ih =>
    by_cases e1 : i = j + 1
    · rw [e1]
    · obtain ⟨o, ho, hq⟩ := hch j (by omega) (by omega)
      have h1 : o.dst ≠ some t := by
        have := ht j (by omega) (by omega)
        simpa [dstOf, ho] using this
      rw [hq.T h1]
      exact ih (by omega) (by omega) (fun k h1 h2 => ht k h1 (by omega))
end
/-- How all stands, some of the steps from c to e taken. -/
structure Mid (P : Program) (N0 : AHeap) (ops : Array Oper) (st : Nat → ASt) (c e : Nat) (L : Nat → Bool) (ρ : Ren) (a : Act) (w : World) : Prop where
  closed : Closed ops L
  pend : ∀ i, i < c → L i = false → Pend P ops (st c) i
  late : ∀ i j, i < j → j < c → L i = false → L j = false → ∀ t, t ∈ readsOf ops i → dstOf ops j ≠ some t
  high : ∀ i, e ≤ i → L i = false
  heap : ∀ i, c ≤ i → i ≤ e → HRel (res (st i).H.length ρ) (st i).H w
  bound : ∀ b, (st e).H.length ≤ b → ρ b = .none
  unl : ∀ j, c ≤ j → j < e → L j = false → ∀ b, (st j).H.length ≤ b → b < (st (j + 1)).H.length → ρ b = .none
  size : a.tmps.size = (st c).nt
  done : ∀ j t, c ≤ j → j < e → L j = true → dstOf ops j = some t → VRel (res (st (j + 1)).H.length ρ) ((st (j + 1)).T t) (a.tmps.getD t undef)
  rest : ∀ t, (∀ j, c ≤ j → j < e → L j = true → dstOf ops j ≠ some t) → (∀ j, j < c → L j = false → dstOf ops j ≠ some t) → VRel (res (st c).H.length ρ) ((st c).T t) (a.tmps.getD t undef)
  defers : DRel (res (st c).H.length ρ) (st c).H (st c).D a.defers
  len : N0.length ≤ (st c).H.length
  entry : Entry N0 ρ
theorem DRel.mono {ρ ρ' : Ren} {H H' : AHeap} (hm : ∀ b, ρ b ≠ .none → ρ' b = ρ b ∧ H'[b]? = H[b]?) : ∀ (D : List Nat) (ds : List Deferred), DRel ρ H D ds → DRel ρ' H' D ds
  | [], [], _ => trivial
  | [], _ :: _, h => h.elim
  | _ :: _, [], h => h.elim
  | d :: D, x :: ds, ⟨⟨l, h1, h2, h3⟩, h4⟩ => ⟨⟨l, (hm d (by rw [h1]; simp)).1.trans h1, (hm d (by rw [h1]; simp)).2.trans h2, h3⟩, DRel.mono hm D ds h4⟩
/-- At the start. -/
theorem Mid.start {ops : Array Oper} {st : Nat → ASt} {c e : Nat} {L : Nat → Bool} {ρ : Ren} {a : Act} {w : World} (hch : Chain P ops st c e) (hce : c ≤ e) (hcl : Closed ops L) (hpd : ∀ i, i < c → L i = false → Pend P ops (st c) i) (hla : ∀ i j, i < j → j < c → L i = false → L j = false → ∀ t, t ∈ readsOf ops i → dstOf ops j ≠ some t) (hhi : ∀ i, c ≤ i → L i = false)
    {T0 : Nat → Value} (hT0 : ∀ t, (∀ j, j < c → L j = false → dstOf ops j ≠ some t) → T0 t = (st c).T t) (hs : SRel N0 ρ { st c with T := T0 } a w) : Mid P N0 ops st c e L ρ a w := by
  have hb : ∀ b, (st c).H.length ≤ b → ρ b = .none := hs.heap.bound
  have hres : ∀ m, (st c).H.length ≤ m → res m ρ = ρ := fun m hm => funext fun b => by
    by_cases e1 : b < m
    · exact res_lt e1
    · rw [res_ge (by omega), hb b (by omega)]
  refine ⟨hcl, hpd, hla, fun i hi => hhi i (by omega), fun i hi hie => ?_, fun b h => hb b (Nat.le_trans (chain_le hch (Nat.le_refl _) hce (Nat.le_refl _)) h), fun j h1 h2 _ b h3 _ => hb b (Nat.le_trans (chain_le hch (Nat.le_refl _) h1 (by omega)) h3), hs.tmps.1, fun j t h1 _ h3 => (by rw [hhi j h1] at h3; cases h3), fun t _ h2 => (by rw [hres _ (Nat.le_refl _), ← hT0 t h2]; exact hs.tmps.2 t), (by rw [hres _ (Nat.le_refl _)]; exact hs.defers), hs.len, hs.entry⟩
  have hle := chain_le hch (Nat.le_refl _) hi hie
  rw [hres _ hle]
  have hg : ∀ b, ρ b ≠ .none → (st i).H[b]? = (st c).H[b]? := fun b hn => chain_get hch (Nat.le_refl _) hi hie (by
    by_cases e1 : b < (st c).H.length
    · exact e1
    · exact absurd (hb b (by omega)) hn)
  refine ⟨fun b h => hb b (by omega), fun b l h => ?_, fun b c' l m h1 h2 h3 h4 => hs.heap.inj b c' l m h1 h2 h3 ?_, fun g vs sz h => ?_, fun b h => (hg b (by rw [h]; simp)).trans (hs.heap.isdead b h)⟩
  · obtain ⟨o, h1, h2, h3⟩ := hs.heap.rel b l h
    exact ⟨o, (hg b (by rw [h]; simp)).trans h1, h2, h3⟩
  · obtain ⟨o, h5, h6⟩ := h4
    exact ⟨o, (hg b (by rw [h2]; simp)).symm.trans h5, h6⟩
  · -- a global lies among the first
    by_cases e1 : g < (st c).H.length
    · rw [chain_get hch (Nat.le_refl _) hi hie e1] at h
      exact hs.heap.glob g vs sz h
    · exfalso
      -- new blocks are writable
      have key : ∀ k, c ≤ k → k ≤ i → ∀ b o, (st c).H.length ≤ b → (st k).H[b]? = some o → o.wr = true := by
        intro k hk
        induction k with
        | zero =>
          intro _ b o hb' ho
          rw [show 0 = c by omega, List.getElem?_eq_none hb'] at ho
          cases ho
        | succ k ih =>
          intro hki b o hb' ho
          by_cases e2 : c = k + 1
          · rw [← e2, List.getElem?_eq_none hb'] at ho; cases ho
          · obtain ⟨op, _, hq⟩ := hch k (by omega) (by omega)
            obtain ⟨v, Δ, _, hst, hor⟩ := hq
            have hH : (st (k + 1)).H = (st k).H ++ Δ := by rw [hst, ASt.put_H]
            rw [hH] at ho
            by_cases e3 : b < (st k).H.length
            · rw [List.getElem?_append_left e3] at ho
              exact ih (by omega) (by omega) b o hb' ho
            · rw [List.getElem?_append_right (by omega)] at ho
              have hmem := List.mem_of_getElem? ho
              rcases hor with ⟨_, hq, _⟩ | ⟨_, _, rfl⟩
              · exact hq.wr o hmem
              · simp at hmem
      have := key i hi (Nat.le_refl _) g _ (by omega) h
      simp [AObj.wr] at this
end
end Go.Proofs.YtnafdgcikaifmaaGreatA


/-
  A region that draws its order, walked.
-/
namespace Go.Proofs.YtnafdgcikaifmaaGreatA
set_option linter.unusedVariables false
open Go Go.RowKit
section
variable {F : Fence} {n : Nat} {P : Program} {N0 : AHeap} {ops : Array Oper} {tab : List Nat} {st : Nat → ASt} {c e : Nat} {L : Nat → Bool} {ρ : Ren} {a : Act} {w : World}
theorem ssa_uniq (hs : ssaOk ops tab = true) {i j : Nat} {t : Tmp} (hi : dstOf ops i = some t) (hj : dstOf ops j = some t) : i = j := by
  have hjs : j < ops.size := by
    by_cases h : j < ops.size
    · exact h
    · simp [dstOf, Array.getElem?_eq_none (Nat.le_of_not_lt h)] at hj
  have his : i < ops.size := by
    by_cases h : i < ops.size
    · exact h
    · simp [dstOf, Array.getElem?_eq_none (Nat.le_of_not_lt h)] at hi
  have h1 := List.all_eq_true.1 hs j (List.mem_range.2 hjs)
  rw [hj] at h1
  have h2 := List.all_eq_true.1 h1 i (List.mem_range.2 his)
  simp only [Bool.and_eq_true, Bool.or_eq_true, beq_iff_eq, bne_iff_ne] at h2
  rcases h2.1 with h3 | h3
  · exact h3
  · exact absurd hi h3
theorem ssa_read (hs : ssaOk ops tab = true) {i j : Nat} {t : Tmp} (hi : i < ops.size) (hr : t ∈ readsOf ops i) (hj : dstOf ops j = some t) : (j < i ∧ bit tab i j = true) ∨ (i < j ∧ bit tab j i = true) := by
  have hjs : j < ops.size := by
    by_cases h : j < ops.size
    · exact h
    · simp [dstOf, Array.getElem?_eq_none (Nat.le_of_not_lt h)] at hj
  have h1 := List.all_eq_true.1 hs j (List.mem_range.2 hjs)
  rw [hj] at h1
  have h2 := List.all_eq_true.1 h1 i (List.mem_range.2 hi)
  simp only [Bool.and_eq_true, Bool.or_eq_true, bne_iff_ne, decide_eq_true_eq, Bool.not_eq_true', List.contains_eq_mem, decide_eq_false_iff_not] at h2
  rcases h2.2 with h3 | ⟨_, h3⟩
  · exact absurd hr h3
  · exact h3
theorem Mid.read (hM : Mid P N0 ops st c e L ρ a w) (hch : Chain P ops st c e) (ht : tabOk ops tab = true) (hs : ssaOk ops tab = true) (hen : e ≤ ops.size) {i : Nat} (hi : c ≤ i) (hie : i < e) (hL : L i = false)
    (hd : ∀ k ∈ dp ops i, L k = true) {t : Tmp} (hr : t ∈ readsOf ops i) : VRel (res (st i).H.length ρ) ((st i).T t) (a.tmps.getD t undef) := by
  have hlo : ∀ j, j < c → L j = false → dstOf ops j ≠ some t := fun j hj hLj hdj => by
    rcases ssa_read hs (by omega) hr hdj with ⟨h1, h2⟩ | ⟨h1, h2⟩
    · rw [tab_listed ht hM.closed i (by omega) hd j (by omega) h2] at hLj; cases hLj
    · omega
  have base : (∀ j, c ≤ j → j < e → L j = true → dstOf ops j ≠ some t) → (∀ k, c ≤ k → k < i → dstOf ops k ≠ some t) → VRel (res (st i).H.length ρ) ((st i).T t) (a.tmps.getD t undef) := fun h1 h2 => by
    rw [chain_T hch (Nat.le_refl _) hi (by omega) h2]
    exact (hM.rest t h1 hlo).mono (res_mono (chain_le hch (Nat.le_refl _) hi (by omega)))
  by_cases hw : ∃ j, c ≤ j ∧ j < e ∧ dstOf ops j = some t
  · obtain ⟨j, hj1, hj2, hj3⟩ := hw
    rcases ssa_read hs (by omega) hr hj3 with ⟨h1, h2⟩ | ⟨h1, h2⟩
    · have hLj : L j = true := tab_listed ht hM.closed i (by omega) hd j (by omega) h2
      rw [chain_T hch (i := j + 1) (by omega) (by omega) (by omega) (fun k h3 h4 h5 => by have := ssa_uniq hs h5 hj3; omega)]
      exact (hM.done j t hj1 hj2 hLj hj3).mono (res_mono (chain_le hch (by omega) (by omega) (by omega)))
    · have hLj : L j = false := by
        cases e1 : L j with
        | false => rfl
        | true => rw [tab_listed ht hM.closed j (by omega) (hM.closed j e1) i (by omega) h2] at hL; cases hL
      refine base (fun j' h3 h4 h5 h6 => ?_) (fun k h3 h4 h5 => ?_)
      · rw [ssa_uniq hs h6 hj3, hLj] at h5; cases h5
      · have := ssa_uniq hs h5 hj3; omega
  · exact base (fun j h1 h2 _ h3 => hw ⟨j, h1, h2, h3⟩) (fun k h1 h2 h3 => hw ⟨k, h1, by omega, h3⟩)
/-- Behind a quiet operation. -/
theorem Mid.step (hM : Mid P N0 ops st c e L ρ a w) (hch : Chain P ops st c e) (hs : ssaOk ops tab = true) {i : Nat} (hi : c ≤ i) (hie : i < e) (hL : L i = false) (hd : ∀ k ∈ dp ops i, L k = true)
    {o : Oper} (ho : ops[i]? = some o) {v v' : Value} {Δ : AHeap} {ρ' : Ren} {w' : World} (hst : st (i + 1) = ASt.put { st i with H := (st i).H ++ Δ } o.dst v) (hdo : dOk (st i).nt o.dst)
    (hv : VRel ρ' v v') (hh : HRel ρ' ((st i).H ++ Δ) w') (hE : Ext (res (st i).H.length ρ) (st i).H w ρ' w') :
    ∃ ρn, Mid P N0 ops st c e (fun k => if k = i then true else L k) ρn (a.put o.dst v') w' ∧ Fr N0.length ρ (st e).H w ρn (st e).H w' := by
  have hH1 : (st (i + 1)).H = (st i).H ++ Δ := by rw [hst, ASt.put_H]
  have hle : (st i).H.length ≤ (st (i + 1)).H.length := by rw [hH1]; simp
  have hl1 : (st (i + 1)).H.length = ((st i).H ++ Δ).length := by rw [hH1]
  obtain ⟨ρn, hρn⟩ : ∃ ρn : Ren, ρn = fun b => if (st i).H.length ≤ b ∧ b < (st (i + 1)).H.length then ρ' b else ρ b := ⟨_, rfl⟩
  have n1 : ∀ b, b < (st i).H.length → ρn b = ρ b := fun b hb => by rw [hρn]; exact if_neg (by omega)
  have n1' : ∀ b, b < (st i).H.length → ρ' b = ρ b := fun b hb => by rw [hE.old b hb, res_lt hb]
  have n2 : ∀ b, (st i).H.length ≤ b → b < (st (i + 1)).H.length → ρn b = ρ' b := fun b h1 h2 => by rw [hρn]; exact if_pos ⟨h1, h2⟩
  have n3 : ∀ b, (st (i + 1)).H.length ≤ b → ρn b = ρ b := fun b hb => by rw [hρn]; exact if_neg (by omega)
  have n4 : ∀ b, ρ' b ≠ .none → b < (st (i + 1)).H.length := fun b hb => by
    by_cases e1 : b < (st (i + 1)).H.length
    · exact e1
    · exact absurd (hh.bound b (by omega)) hb
  have n5 : ∀ b, b < (st (i + 1)).H.length → ρn b = ρ' b := fun b hb => by
    by_cases e1 : b < (st i).H.length
    · rw [n1 b e1, n1' b e1]
    · exact n2 b (by omega) hb
  have n6 : ∀ b, ρ b ≠ .none → ρn b = ρ b := fun b hb => by
    by_cases e1 : b < (st i).H.length
    · exact n1 b e1
    · by_cases e2 : b < (st (i + 1)).H.length
      · exact absurd (hM.unl i hi hie hL b (by omega) e2) hb
      · exact n3 b (by omega)
  have rm : ∀ m b, res m ρ b ≠ .none → res m ρn b = res m ρ b ∨ res m ρn b = .dead := fun m b hb => by
    by_cases e1 : b < m
    · rw [res_lt e1] at hb; exact .inl (by rw [res_lt e1, res_lt e1]; exact n6 b hb)
    · exact absurd (res_ge (by omega)) hb
  refine ⟨ρn, ?_, ?_⟩
  · have hLL : ∀ k, (if k = i then true else L k) = false → L k = false := fun k h => by
      by_cases e1 : k = i
      · rw [if_pos e1] at h; cases h
      · rwa [if_neg e1] at h
    refine ⟨?_, ?_, fun i' j' h1 h2 h3 h4 => hM.late i' j' h1 h2 (hLL _ h3) (hLL _ h4), ?_, ?_, ?_, ?_, ?_, ?_, ?_, ?_, hM.len, hM.entry.of fun b hb => .inl (n1 b (by have := hM.len; have := chain_le hch (Nat.le_refl _) hi (by omega); omega))⟩
    · -- closed
      intro k hk k' hk'
      try dsimp only at hk ⊢
      by_cases e1 : k = i
      · subst e1
        by_cases e2 : k' = k
        · rw [if_pos e2]
        · rw [if_neg e2]; exact hd k' hk'
      · rw [if_neg e1] at hk
        by_cases e2 : k' = i
        · rw [if_pos e2]
        · rw [if_neg e2]; exact hM.closed k hk k' hk'
    · intro k hk hLk
      try dsimp only at hLk
      rw [if_neg (by omega)] at hLk; exact hM.pend k hk hLk
    · intro k hk
      try dsimp only
      rw [if_neg (by omega)]; exact hM.high k hk
    · -- heap
      intro k hk hke
      have hMk := hM.heap k hk hke
      have old : ∀ b l, res (st k).H.length ρn b = .at l → b < (st k).H.length ∧ ρn b = .at l := fun b l hb => by
        by_cases e1 : b < (st k).H.length
        · exact ⟨e1, by rw [res_lt e1] at hb; exact hb⟩
        · rw [res_ge (by omega)] at hb; cases hb
      have cls : ∀ b l, b < (st k).H.length → ρn b = .at l → (res (st k).H.length ρ b = .at l ∧ ((st i).H.length ≤ b → (st (i + 1)).H.length ≤ b)) ∨ ((st i).H.length ≤ b ∧ b < (st (i + 1)).H.length ∧ ρ' b = .at l ∧ i + 1 ≤ k) := fun b l h1 h2 => by
        by_cases e1 : (st i).H.length ≤ b ∧ b < (st (i + 1)).H.length
        · refine .inr ⟨e1.1, e1.2, by rw [← n2 b e1.1 e1.2]; exact h2, ?_⟩
          by_cases e2 : i + 1 ≤ k
          · exact e2
          · have := chain_le hch hk (show k ≤ i by omega) (by omega)
            omega
        · refine .inl ⟨?_, fun h => by omega⟩
          rw [res_lt h1]
          rw [hρn] at h2
          try dsimp only at h2
          rw [if_neg e1] at h2; exact h2
      have getk : ∀ b, i + 1 ≤ k → b < (st (i + 1)).H.length → (st k).H[b]? = ((st i).H ++ Δ)[b]? := fun b h1 h2 => by
        rw [chain_get hch (by omega) h1 hke h2, hH1]
      have getk' : ∀ b, b < (st i).H.length → b < (st k).H.length → ((st i).H ++ Δ)[b]? = (st k).H[b]? := fun b h1 h2 => by
        rw [List.getElem?_append_left h1]
        by_cases e1 : i ≤ k
        · exact (chain_get hch hi e1 hke h1).symm
        · exact chain_get hch hk (by omega) (by omega) h2
      refine ⟨fun b hb => res_ge hb, fun b l hb => ?_, fun b b2 l m hne hb hb2 hw => ?_, fun g vs sz hg => ?_, fun b hb => ?_⟩
      · obtain ⟨h1, h2⟩ := old b l hb
        rcases cls b l h1 h2 with ⟨h3, h4⟩ | ⟨h3, h4, h5, h6⟩
        · obtain ⟨o2, q1, q2, q3⟩ := hMk.rel b l h3
          refine ⟨o2, q1, Nat.lt_of_lt_of_le q2 hE.size, ?_⟩
          by_cases e1 : b < (st i).H.length
          · have hb' : ρ' b = .at l := by rw [n1' b e1]; rw [res_lt h1] at h3; exact h3
            obtain ⟨o3, q4, q5, q6⟩ := hh.rel b l hb'
            rw [getk' b e1 h1, q1] at q4
            cases q4
            refine (q3.cut (m := (st k).H.length) (fun b hb => res_ge hb) q6).mono (fun b' hb' => ?_) rfl
            by_cases e2 : b' < (st k).H.length
            · rw [res_lt e2] at hb'
              exact .inl (by rw [res_lt e2, res_lt e2]; exact n5 b' (n4 b' hb'))
            · exact absurd (res_ge (by omega)) hb'
          · have hge := h4 (by omega)
            have hki : i + 1 ≤ k := by
              by_cases e2 : i + 1 ≤ k
              · exact e2
              · have := chain_le hch hk (show k ≤ i by omega) (by omega)
                omega
            refine q3.mono (rm _) (hE.keep l.blk q2 ?_)
            rintro ⟨b2, l2, p1, p2, o3, p3, p4⟩
            have hb2 : b2 < (st i).H.length := (List.getElem?_eq_some_iff.1 p3).1
            have hb2k : b2 < (st k).H.length := by omega
            refine hMk.inj b2 b l2 l (by omega) ?_ h3 ⟨o3, ?_, p4⟩ p2
            · rw [res_lt hb2] at p1; rw [res_lt hb2k]; exact p1
            · rw [← getk' b2 hb2 hb2k, List.getElem?_append_left hb2]; exact p3
        · obtain ⟨o2, q1, q2, q3⟩ := hh.rel b l h5
          refine ⟨o2, by rw [getk b h6 h4]; exact q1, q2, q3.mono (fun b' hb' => .inl ?_) rfl⟩
          have := n4 b' hb'
          have hle2 := chain_le hch (show c ≤ i + 1 by omega) h6 hke
          rw [res_lt (by omega)]
          exact n5 b' this
      · obtain ⟨h1, h2⟩ := old b l hb
        obtain ⟨k1, k2⟩ := old b2 m hb2
        rcases cls b l h1 h2 with ⟨h3, h4⟩ | ⟨h3, h4, h5, h6⟩ <;> rcases cls b2 m k1 k2 with ⟨k3, k4⟩ | ⟨k3, k4, k5, k6⟩
        · exact hMk.inj b b2 l m hne h3 k3 hw
        · have q1 := hE.fresh b2 m k3 k5
          obtain ⟨o2, _, q2, _⟩ := hMk.rel b l h3
          omega
        · have q1 := hE.fresh b l h3 h5
          obtain ⟨o2, _, q2, _⟩ := hMk.rel b2 m k3
          omega
        · refine hh.inj b b2 l m hne h5 k5 ?_
          obtain ⟨o2, p1, p2⟩ := hw
          exact ⟨o2, by rw [← getk b h6 h4]; exact p1, p2⟩
      · obtain ⟨l, q1, q2, q3⟩ := hMk.glob g vs sz hg
        have hgk : g < (st k).H.length := (List.getElem?_eq_some_iff.1 hg).1
        refine ⟨l, ?_, q2, q3⟩
        rw [res_lt hgk] at q1 ⊢
        rw [n6 g (by rw [q1]; simp)]; exact q1
      · have hbk : b < (st k).H.length := by
          by_cases e1 : b < (st k).H.length
          · exact e1
          · rw [res_ge (by omega)] at hb; cases hb
        rw [res_lt hbk] at hb
        by_cases e1 : (st i).H.length ≤ b ∧ b < (st (i + 1)).H.length
        · rw [n2 b e1.1 e1.2] at hb
          have hki : i + 1 ≤ k := by
            by_cases e2 : i + 1 ≤ k
            · exact e2
            · have := chain_le hch hk (show k ≤ i by omega) (by omega)
              omega
          rw [getk b hki e1.2]
          exact hh.isdead b hb
        · refine hMk.isdead b ?_
          rw [res_lt hbk]
          rw [hρn] at hb
          try dsimp only at hb
          rw [if_neg e1] at hb; exact hb
    · intro b hb
      have := chain_le hch (show c ≤ i + 1 by omega) (show i + 1 ≤ e by omega) (Nat.le_refl _)
      rw [n3 b (by omega)]; exact hM.bound b hb
    · intro j h1 h2 h3 b h4 h5
      try dsimp only at h3
      by_cases e1 : j = i
      · rw [if_pos e1] at h3; cases h3
      · rw [if_neg e1] at h3
        have h6 := hM.unl j h1 h2 h3 b h4 h5
        by_cases e2 : j < i
        · have := chain_le hch (show c ≤ j + 1 by omega) (show j + 1 ≤ i by omega) (by omega)
          rw [n1 b (by omega)]; exact h6
        · have := chain_le hch (show c ≤ i + 1 by omega) (show i + 1 ≤ j by omega) (by omega)
          rw [n3 b (by omega)]; exact h6
    · have := hM.size
      cases o.dst <;> simpa [Act.put] using this
    · intro j t h1 h2 h3 h4
      try dsimp only at h3
      by_cases e1 : j = i
      · subst e1
        have hd' : o.dst = some t := by simpa [dstOf, ho] using h4
        rw [hst, hd']
        have hlt : t < a.tmps.size := by
          rw [hd'] at hdo
          obtain ⟨_, _, _, hnt⟩ := chain_len hch (Nat.le_refl _) hi (by omega)
          rw [hM.size, ← hnt]; exact hdo
        have hval : (a.put (some t) v').tmps.getD t undef = v' := by simp [Act.put, hlt]
        rw [hval]
        show VRel _ (upd _ t v t) v'
        rw [upd_same]
        refine hv.mono (fun b hb => .inl ?_)
        have := n4 b hb
        show res ((st j).H ++ Δ).length ρn b = ρ' b
        rw [← hl1, res_lt this]
        exact n5 b this
      · rw [if_neg e1] at h3
        have hne : o.dst ≠ some t := fun h5 => e1 (ssa_uniq hs h4 (by simpa [dstOf, ho] using h5))
        have hval : (a.put o.dst v').tmps.getD t undef = a.tmps.getD t undef := by
          cases hd' : o.dst with
          | none => rfl
          | some d => simp [Act.put, Array.getElem?_setIfInBounds, show d ≠ t from fun h => hne (by rw [hd', h])]
        rw [hval]
        exact (hM.done j t h1 h2 h3 h4).mono (rm _)
    · intro t h1 h1'
      have hne : o.dst ≠ some t := fun h5 => h1 i hi hie (by simp) (by simpa [dstOf, ho] using h5)
      have hval : (a.put o.dst v').tmps.getD t undef = a.tmps.getD t undef := by
        cases hd' : o.dst with
        | none => rfl
        | some d => simp [Act.put, Array.getElem?_setIfInBounds, show d ≠ t from fun h => hne (by rw [hd', h])]
      rw [hval]
      refine (hM.rest t (fun j h2 h3 h4 => h1 j h2 h3 ?_) (fun j h2 h3 => h1' j h2 (by (try dsimp only); rw [if_neg (by omega)]; exact h3))).mono (rm _)
      try dsimp only
      by_cases e1 : j = i
      · rw [if_pos e1]
      · rw [if_neg e1]; exact h4
    · have hdf : (a.put o.dst v').defers = a.defers := by cases o.dst <;> rfl
      rw [hdf]
      refine DRel.mono (fun b hb => ⟨?_, rfl⟩) _ _ hM.defers
      have hbc : b < (st c).H.length := by
        by_cases e1 : b < (st c).H.length
        · exact e1
        · exact absurd (res_ge (by omega)) hb
      have := chain_le hch (Nat.le_refl _) hi (by omega)
      rw [res_lt hbc, res_lt hbc, n1 b (by omega)]
  · have hce := chain_le hch (Nat.le_refl _) hi (by omega)
    refine ⟨hE.os, hE.tape, hE.output, hE.size, fun k hk ho => hE.keep k hk ?_, fun b hb => .inl (n1 b (by have := hM.len; omega)), fun b l' hb hw => ?_⟩
    · rintro ⟨b2, l2, p1, p2, o3, p3, p4⟩
      have hb2 : b2 < (st i).H.length := (List.getElem?_eq_some_iff.1 p3).1
      refine ho ⟨b2, l2, by rw [res_lt hb2] at p1; exact p1, p2, o3, ?_, p4⟩
      rw [chain_get hch hi (by omega) (Nat.le_refl _) hb2]; exact p3
    · by_cases e1 : (st i).H.length ≤ b ∧ b < (st (i + 1)).H.length
      · rw [n2 b e1.1 e1.2] at hb
        exact .inr (hE.fresh b l' e1.1 hb)
      · rw [hρn] at hb
        try dsimp only at hb
        rw [if_neg e1] at hb
        exact .inl ⟨b, l', hb, rfl, hw⟩
/-- What a late operation reads. -/
theorem Mid.readP (hM : Mid P N0 ops st c e L ρ a w) (ht : tabOk ops tab = true) (hs : ssaOk ops tab = true) (hen : e ≤ ops.size) (hce : c ≤ e) {i : Nat} (hi : i < c) (hL : L i = false)
    (hd : ∀ k ∈ dp ops i, L k = true) {t : Tmp} (hr : t ∈ readsOf ops i) : VRel (res (st c).H.length ρ) ((st c).T t) (a.tmps.getD t undef) := by
  refine hM.rest t (fun j h1 h2 h3 h4 => ?_) (fun j hj hLj hdj => ?_)
  · rcases ssa_read hs (by omega) hr h4 with ⟨h5, h6⟩ | ⟨h5, h6⟩
    · omega
    · rw [tab_listed ht hM.closed j (by omega) (hM.closed j h3) i (by omega) h6] at hL; cases hL
  · rcases ssa_read hs (by omega) hr hdj with ⟨h5, h6⟩ | ⟨h5, h6⟩
    · rw [tab_listed ht hM.closed i (by omega) hd j (by omega) h6] at hLj; cases hLj
    · exact hM.late i j h5 hj hL hLj t hr hdj
/-- Behind a late one. -/
theorem Mid.stepP (hM : Mid P N0 ops st c e L ρ a w) (hch : Chain P ops st c e) (hs : ssaOk ops tab = true) (hce : c ≤ e) {i : Nat} (hi : i < c) (hL : L i = false) (hd : ∀ k ∈ dp ops i, L k = true)
    {o : Oper} (ho : ops[i]? = some o) {v v' : Value} {ρ' : Ren} {w' : World} (hdo : dOk (st c).nt o.dst) (hval : ∀ d, o.dst = some d → (st c).T d = v)
    (hv : VRel ρ' v v') (hh : HRel ρ' (st c).H w') (hE : Ext (res (st c).H.length ρ) (st c).H w ρ' w') :
    Mid P N0 ops st c e (fun k => if k = i then true else L k) ρ (a.put o.dst v') w' ∧ Fr N0.length ρ (st e).H w ρ (st e).H w' := by
  have n1 : ∀ b, b < (st c).H.length → ρ' b = ρ b := fun b hb => by rw [hE.old b hb, res_lt hb]
  have n4 : ∀ b, ρ' b ≠ .none → b < (st c).H.length := fun b hb => by
    by_cases e1 : b < (st c).H.length
    · exact e1
    · exact absurd (hh.bound b (by omega)) hb
  have hLL : ∀ k, (if k = i then true else L k) = false → L k = false := fun k h => by
    by_cases e1 : k = i
    · rw [if_pos e1] at h; cases h
    · rwa [if_neg e1] at h
  refine ⟨⟨?_, ?_, fun i' j' h1 h2 h3 h4 => hM.late i' j' h1 h2 (hLL _ h3) (hLL _ h4), ?_, ?_, hM.bound, ?_, ?_, ?_, ?_, ?_, hM.len, hM.entry⟩, ?_⟩
  · intro k hk k' hk'
    try dsimp only at hk ⊢
    by_cases e1 : k = i
    · subst e1
      by_cases e2 : k' = k
      · rw [if_pos e2]
      · rw [if_neg e2]; exact hd k' hk'
    · rw [if_neg e1] at hk
      by_cases e2 : k' = i
      · rw [if_pos e2]
      · rw [if_neg e2]; exact hM.closed k hk k' hk'
  · intro k hk hLk
    try dsimp only at hLk
    by_cases e1 : k = i
    · rw [if_pos e1] at hLk; cases hLk
    · rw [if_neg e1] at hLk; exact hM.pend k hk hLk
  · intro k hk
    try dsimp only
    rw [if_neg (by omega)]; exact hM.high k hk
  · intro k hk hke
    have hMk := hM.heap k hk hke
    have hck := chain_le hch (Nat.le_refl _) hk hke
    have getk : ∀ b, b < (st c).H.length → (st k).H[b]? = (st c).H[b]? := fun b hb => chain_get hch (Nat.le_refl _) hk hke hb
    refine ⟨fun b hb => res_ge hb, fun b l hb => ?_, hMk.inj, hMk.glob, hMk.isdead⟩
    have hbk : b < (st k).H.length := by
      by_cases e1 : b < (st k).H.length
      · exact e1
      · rw [res_ge (by omega)] at hb; cases hb
    obtain ⟨o2, q1, q2, q3⟩ := hMk.rel b l hb
    refine ⟨o2, q1, Nat.lt_of_lt_of_le q2 hE.size, ?_⟩
    by_cases e1 : b < (st c).H.length
    · have hb' : ρ' b = .at l := by rw [n1 b e1]; rw [res_lt hbk] at hb; exact hb
      obtain ⟨o3, q4, q5, q6⟩ := hh.rel b l hb'
      rw [← getk b e1, q1] at q4
      cases q4
      refine (q3.cut (m := (st k).H.length) (fun b hb => res_ge hb) q6).mono (fun b' hb' => ?_) rfl
      by_cases e2 : b' < (st k).H.length
      · rw [res_lt e2] at hb'
        exact .inl (by rw [res_lt e2, res_lt e2]; exact (n1 b' (n4 b' hb')).symm)
      · exact absurd (res_ge (by omega)) hb'
    · refine q3.mono (fun _ _ => .inl rfl) (hE.keep l.blk q2 ?_)
      rintro ⟨b2, l2, p1, p2, o3, p3, p4⟩
      have hb2 : b2 < (st c).H.length := (List.getElem?_eq_some_iff.1 p3).1
      refine hMk.inj b2 b l2 l (by omega) ?_ hb ⟨o3, by rw [getk b2 hb2]; exact p3, p4⟩ p2
      rw [res_lt hb2] at p1; rw [res_lt (by omega)]; exact p1
  · intro j h1 h2 h3 b h4 h5
    try dsimp only at h3
    rw [if_neg (by omega)] at h3
    exact hM.unl j h1 h2 h3 b h4 h5
  · have := hM.size
    cases o.dst <;> simpa [Act.put] using this
  · intro j t h1 h2 h3 h4
    try dsimp only at h3
    rw [if_neg (by omega)] at h3
    have hne : o.dst ≠ some t := fun h5 => by
      have := ssa_uniq hs h4 (show dstOf ops i = some t by simpa [dstOf, ho] using h5)
      omega
    have hv' : (a.put o.dst v').tmps.getD t undef = a.tmps.getD t undef := by
      cases hd' : o.dst with
      | none => rfl
      | some d => simp [Act.put, Array.getElem?_setIfInBounds, show d ≠ t from fun h => hne (by rw [hd', h])]
    rw [hv']
    exact hM.done j t h1 h2 h3 h4
  · intro t h1 h1'
    by_cases e1 : o.dst = some t
    · have hlt : t < a.tmps.size := by
        rw [e1] at hdo
        rw [hM.size]; exact hdo
      rw [e1]
      have hv' : (a.put (some t) v').tmps.getD t undef = v' := by simp [Act.put, hlt]
      rw [hv', hval t e1]
      exact hv.mono fun b hb => .inl (by rw [res_lt (n4 b hb)]; exact (n1 b (n4 b hb)).symm)
    · have hv' : (a.put o.dst v').tmps.getD t undef = a.tmps.getD t undef := by
        cases hd' : o.dst with
        | none => rfl
        | some d => simp [Act.put, Array.getElem?_setIfInBounds, show d ≠ t from fun h => e1 (by rw [hd', h])]
      rw [hv']
      refine hM.rest t (fun j h2 h3 h4 => h1 j h2 h3 (by (try dsimp only); rw [if_neg (by omega)]; exact h4)) (fun j h2 h3 h4 => ?_)
      by_cases e2 : j = i
      · subst e2; exact e1 (by simpa [dstOf, ho] using h4)
      · exact h1' j h2 (by (try dsimp only); rw [if_neg e2]; exact h3) h4
  · have hdf : (a.put o.dst v').defers = a.defers := by cases o.dst <;> rfl
    rw [hdf]
    exact hM.defers
  · have hce' := chain_le hch (Nat.le_refl _) hce (Nat.le_refl _)
    refine ⟨hE.os, hE.tape, hE.output, hE.size, fun k hk ho => hE.keep k hk ?_, fun b hb => .inl rfl, fun b l' hb hw => .inl ⟨b, l', hb, rfl, hw⟩⟩
    rintro ⟨b2, l2, p1, p2, o3, p3, p4⟩
    have hb2 : b2 < (st c).H.length := (List.getElem?_eq_some_iff.1 p3).1
    refine ho ⟨b2, l2, by rw [res_lt hb2] at p1; exact p1, p2, o3, ?_, p4⟩
    rw [chain_get hch (Nat.le_refl _) hce (Nat.le_refl _) hb2]; exact p3
/-- The slots, those of what is late being unknown. -/
theorem Mid.finishJ (hM : Mid P N0 ops st c e L ρ a w) (hch : Chain P ops st c e) (hs : ssaOk ops tab = true) (hce : c ≤ e) {T' : Nat → Value} (hT' : ∀ t, (∀ j, j < e → L j = false → dstOf ops j ≠ some t) → T' t = (st e).T t) (hJ : ∀ t, (∃ j, j < e ∧ L j = false ∧ dstOf ops j = some t) → T' t = junk) : SRel N0 ρ { st e with T := T' } a w := by
  have hres : res (st e).H.length ρ = ρ := funext fun b => by
    by_cases e1 : b < (st e).H.length
    · exact res_lt e1
    · rw [res_ge (by omega), hM.bound b (by omega)]
  have hm : ∀ m b, res m ρ b ≠ .none → ρ b = res m ρ b ∨ ρ b = .dead := fun m b hb => by
    by_cases e1 : b < m
    · exact .inl (res_lt e1).symm
    · exact absurd (res_ge (by omega)) hb
  obtain ⟨Δ, q1, q2, q3⟩ := chain_len hch (Nat.le_refl _) hce (Nat.le_refl _)
  refine ⟨by have := hM.heap e hce (Nat.le_refl _); rwa [hres] at this, ⟨by show _ = (st e).nt; rw [q3]; exact hM.size, fun t => ?_⟩, ?_, ?_, ?_⟩
  · show VRel ρ (T' t) _
    by_cases hw0 : ∃ j, j < e ∧ L j = false ∧ dstOf ops j = some t
    · rw [hJ t hw0]; exact .junk _ _
    · have hno : ∀ j, j < e → L j = false → dstOf ops j ≠ some t := fun j h1 h2 h3 => hw0 ⟨j, h1, h2, h3⟩
      rw [hT' t hno]
      by_cases hw : ∃ j, c ≤ j ∧ j < e ∧ dstOf ops j = some t
      · obtain ⟨j, h1, h2, h3⟩ := hw
        have hLj : L j = true := by
          cases h : L j with
          | true => rfl
          | false => exact absurd h3 (hno j h2 h)
        rw [chain_T hch (i := j + 1) (by omega) (by omega) (Nat.le_refl _) (fun k h4 h5 h6 => by have := ssa_uniq hs h6 h3; omega)]
        exact (hM.done j t h1 h2 hLj h3).mono (hm _)
      · rw [chain_T hch (Nat.le_refl _) hce (Nat.le_refl _) (fun k h1 h2 h3 => hw ⟨k, h1, h2, h3⟩)]
        exact (hM.rest t (fun j h1 h2 _ h3 => hw ⟨j, h1, h2, h3⟩) (fun j h1 h2 => hno j (by omega) h2)).mono (hm _)
  · show DRel ρ (st e).H (st e).D a.defers
    rw [q2]
    refine DRel.mono (fun b hb => ?_) _ _ hM.defers
    have hbc : b < (st c).H.length := by
      by_cases e1 : b < (st c).H.length
      · exact e1
      · exact absurd (res_ge (by omega)) hb
    exact ⟨(res_lt hbc).symm, by rw [q1, List.getElem?_append_left hbc]⟩
  · show N0.length ≤ (st e).H.length
    rw [q1]; simp; have := hM.len; omega
  · exact hM.entry
theorem Mid.finish (hM : Mid P N0 ops st c e L ρ a w) (hch : Chain P ops st c e) (hs : ssaOk ops tab = true) (hce : c ≤ e) (hall : ∀ j, j < e → L j = true) : SRel N0 ρ (st e) a w :=
  hM.finishJ hch hs hce (T' := (st e).T) (fun _ _ => rfl) fun t ⟨j, h1, h2, _⟩ => by rw [hall j h1] at h2; cases h2

/-! ### The theorem -/
def Lof (listed : Array Bool) : Nat → Bool := fun i => listed.getD i false
theorem lof_set {listed : Array Bool} {i : Nat} (hi : i < listed.size) : Lof (listed.setIfInBounds i true) = fun k => if k = i then true else Lof listed k := by
  funext k
  unfold Lof
  by_cases e1 : k = i
  · subst e1; simp [hi]
  · simp [Array.getElem?_setIfInBounds, Ne.symm e1, e1]
theorem ready_mem {listed : Array Bool} (hsz : listed.size = ops.size) {i : Nat} (h : i ∈ Region.ready .any ops listed) : i < ops.size ∧ Lof listed i = false ∧ ∀ k ∈ dp ops i, Lof listed k = true := by
  unfold Region.ready at h
  rw [List.mem_filter, List.mem_range] at h
  obtain ⟨h1, h2⟩ := h
  simp only [Bool.and_eq_true, Bool.not_eq_true'] at h2
  refine ⟨h1, ?_, fun k hk => ?_⟩
  · have := h2.1
    unfold Lof
    simpa [show i < listed.size by omega] using this
  · have h3 := h2.2
    unfold dp at hk
    cases ho : ops[i]? with
    | none => rw [ho] at hk; simp at hk
    | some o =>
      rw [ho] at h3 hk
      simp only [Option.map_some, Option.getD_some, List.mem_filterMap] at h3 hk
      obtain ⟨ed, he1, he2⟩ := hk
      split at he2
      · rename_i hb
        cases he2
        have := (Array.all_eq_true_iff_forall_mem.1 h3) ed (by simpa using he1)
        simp only [hb, Bool.not_true, Bool.false_or] at this
        exact this
      · cases he2
theorem ready_of {listed : Array Bool} (hsz : listed.size = ops.size) {i : Nat} (h1 : i < ops.size) (h2 : Lof listed i = false) (h3 : ∀ k ∈ dp ops i, Lof listed k = true) : i ∈ Region.ready .any ops listed := by
  unfold Region.ready
  rw [List.mem_filter, List.mem_range]
  refine ⟨h1, ?_⟩
  simp only [Bool.and_eq_true, Bool.not_eq_true']
  refine ⟨by unfold Lof at h2; simpa [show i < listed.size by omega] using h2, ?_⟩
  rw [Array.getElem?_eq_getElem h1]
  simp only [Option.map_some, Option.getD_some]
  rw [Array.all_eq_true_iff_forall_mem]
  intro ed hed
  cases hb : Region.binds .any ed with
  | false => rfl
  | true =>
    simp only [Bool.not_true, Bool.false_or]
    refine h3 ed.on ?_
    unfold dp
    rw [Array.getElem?_eq_getElem h1]
    simp only [Option.map_some, Option.getD_some, List.mem_filterMap]
    exact ⟨ed, by simpa using hed, by rw [hb]; rfl⟩
theorem dp_lt (ht : tabOk ops tab = true) {i k : Nat} (hi : i < ops.size) (hk : k ∈ dp ops i) : k < i := by
  have h1 := List.all_eq_true.1 ht i (List.mem_range.2 hi)
  simp only [Bool.and_eq_true] at h1
  have := List.all_eq_true.1 h1.1 k hk
  simpa using this
def left (ops : Array Oper) (L : Nat → Bool) : Nat := ((List.range ops.size).filter fun i => !L i).length
theorem left_set {L : Nat → Bool} {i : Nat} (hi : i < ops.size) (hL : L i = false) : left ops L = left ops (fun k => if k = i then true else L k) + 1 := by
  unfold left
  have key : ∀ (l : List Nat), l.Nodup → i ∈ l → (l.filter fun k => !L k).length = (l.filter fun k => !(if k = i then true else L k)).length + 1 := by
    intro l
    induction l with
    | nil => intro _ h; simp at h
    | cons x l ih =>
      intro hnd hm
      obtain ⟨hx, hnd'⟩ := List.nodup_cons.1 hnd
      by_cases e1 : x = i
      · subst e1
        have h2 : (l.filter fun k => !L k) = (l.filter fun k => !(if k = x then true else L k)) := List.filter_congr fun y hy => by
          have : y ≠ x := fun h => hx (h ▸ hy)
          simp [this]
        simp [List.filter_cons, hL, h2]
      · have hm' : i ∈ l := by
          rcases List.mem_cons.1 hm with h | h
          · exact absurd h.symm e1
          · exact h
        have := ih hnd' hm'
        simp only [List.filter_cons, if_neg e1]
        split <;> simp [this]
  exact key _ List.nodup_range (List.mem_range.2 hi)
theorem gval_read {i j : Nat} {o : Oper} {want : Bool} (ho : ops[i]? = some o) (hg : o.guard = some (j, want)) {d : Tmp} (hd : dstOf ops j = some d) : d ∈ readsOf ops i := by
  unfold readsOf
  rw [ho]
  simp only [Option.map_some, Option.getD_some, Oper.looksAt, hg]
  refine List.mem_append_right _ ?_
  unfold dstOf at hd
  rw [hd]; simp
theorem operand_read {i : Nat} {o : Oper} (ho : ops[i]? = some o) {t : Tmp} (ht : Operand.tmp t ∈ o.op.operands) : t ∈ readsOf ops i := by
  unfold readsOf
  rw [ho]
  simp only [Option.map_some, Option.getD_some, Oper.looksAt]
  refine List.mem_append_left _ (List.mem_filterMap.2 ⟨.tmp t, by simpa using ht, rfl⟩)
theorem any_sound (hF : Wd F) (ht : tabOk ops tab = true) (hs : ssaOk ops tab = true) {K : ASt → Prop} {R : Exit → Act → World → Prop} (hx : ¬ LetsOut R) (ρs : Ren) (Hs : AHeap) (ws : World)
    (hR : ∀ s' ρ' a' w', K s' → SRel N0 ρ' s' a' w' → Fr N0.length ρs Hs ws ρ' s'.H w' → R .normal a' w') :
    ∀ (fuel : Nat) (listed : Array Bool) (ρ : Ren) (a : Act) (w : World) (st : Nat → ASt) (c e : Nat), listed.size = ops.size → left ops (Lof listed) = fuel → c ≤ e → Chain P ops st c e → Mid P N0 ops st c e (Lof listed) ρ a w →
      Fr N0.length ρs Hs ws ρ (st e).H w →
      ((e = ops.size ∧ K (st e)) ∨ (∃ o rest, ops[e]? = some o ∧ (∀ j, rest[j]? = ops[e + 1 + j]?) ∧ EffAt F n P N0 ops tab e o (dList F n P N0 ops tab (e + 1) rest K) (st e))) →
      wpAnyIn F n P .any ops R fuel listed a w := by
  intro fuel
  induction fuel with
  | zero =>
    intro listed ρ a w st c e hsz hlf hce hch hM hf hend
    have hall : ∀ i, i < ops.size → Lof listed i = true := fun i hi => by
      cases h : Lof listed i with
      | true => rfl
      | false =>
        have : i ∈ (List.range ops.size).filter fun i => !Lof listed i := List.mem_filter.2 ⟨List.mem_range.2 hi, by rw [h]; rfl⟩
        unfold left at hlf
        rw [List.length_eq_zero_iff.1 hlf] at this
        simp at this
    rcases hend with ⟨h1, h2⟩ | ⟨o, rest, h1, _⟩
    · refine ⟨?_, hR _ ρ a w h2 (hM.finish hch hs hce fun j hj => hall j (by omega)) hf⟩
      refine List.filter_eq_nil_iff.2 fun i hi => ?_
      have := hall i (List.mem_range.1 hi)
      have hi' : i < listed.size := by rw [hsz]; exact List.mem_range.1 hi
      unfold Lof at this
      simp [hi'] at this
      simp [hi', this]
    · have he : e < ops.size := (Array.getElem?_eq_some_iff.1 h1).1
      have h2 := hM.high e (Nat.le_refl _)
      rw [hall e he] at h2; cases h2
  | succ fuel ih =>
    intro listed ρ a w st c e hsz hlf hce hch hM hf hend
    have hen : e ≤ ops.size := by
      rcases hend with ⟨h1, _⟩ | ⟨o, rest, h1, _⟩
      · omega
      · exact Nat.le_of_lt (Array.getElem?_eq_some_iff.1 h1).1
    refine ⟨fun hnil => ?_, fun i hi => ?_⟩
    · exfalso
      -- the first one that is not listed is ready
      obtain ⟨m, hm, hmin⟩ := exists_least (fun i => i < ops.size ∧ Lof listed i = false) (by
        refine Classical.byContradiction fun hno => ?_
        have : (List.range ops.size).filter (fun i => !Lof listed i) = [] := List.filter_eq_nil_iff.2 fun i hi => by
          cases h : Lof listed i with
          | true => simp
          | false => exact absurd ⟨i, List.mem_range.1 hi, h⟩ hno
        unfold left at hlf
        rw [this] at hlf
        simp at hlf)
      have : m ∈ Region.ready .any ops listed := ready_of hsz hm.1 hm.2 fun k hk => by
        have hkm := dp_lt ht hm.1 hk
        cases h : Lof listed k with
        | true => rfl
        | false => have := hmin k ⟨by omega, h⟩; omega
      rw [hnil] at this
      simp at this
    · obtain ⟨hin, hLi, hdi⟩ := ready_mem hsz hi
      have hlf' : left ops (Lof (listed.setIfInBounds i true)) = fuel := by
        rw [lof_set (by omega)]
        have := left_set hin hLi
        omega
      have hsz' : (listed.setIfInBounds i true).size = ops.size := by simpa using hsz
      -- a quiet one, early or late
      have key : ∀ (sp : ASt) (o : Oper) (v : Value) (Δ : AHeap), ops[i]? = some o → HRel (res sp.H.length ρ) sp.H w → (∀ t, t ∈ readsOf ops i → VRel (res sp.H.length ρ) (sp.T t) (a.tmps.getD t undef)) →
          ((GYes ops o sp.T ∧ OpQ P o sp.T sp.H v Δ ∧ ∀ x ∈ o.op.operands, cOk sp.H x) ∨ (GNo ops o sp.T ∧ v = undef ∧ Δ = [])) →
          (∀ v' ρ' w', VRel ρ' v v' → HRel ρ' (sp.H ++ Δ) w' → Ext (res sp.H.length ρ) sp.H w ρ' w' → wpAnyIn F n P .any ops R fuel (listed.setIfInBounds i true) (a.put o.dst v') w') →
          wpOpIn F n P ops R i (wpAnyIn F n P .any ops R fuel (listed.setIfInBounds i true)) a w := by
        intro sp o v Δ ho hheap rd0 hor cont
        have rd := fun {t : Tmp} (hr : t ∈ readsOf ops i) => rd0 t hr
        unfold wpOpIn
        simp only [ho]
        have hgv : ∀ j want, o.guard = some (j, want) → (∀ b, gval ops sp.T j = .bool b → yielded ops a.tmps j = some b) ∧ (gval ops sp.T j = undef → yielded ops a.tmps j = none) := by
          intro j want hg
          have hT : ∀ d, dstOf ops j = some d → VRel (res sp.H.length ρ) (sp.T d) (a.tmps.getD d undef) := fun d hd => rd (gval_read ho hg hd)
          unfold gval yielded
          unfold dstOf at hT
          cases hoj : ops[j]? with
          | none => simp [undef]
          | some oj =>
            cases hdj : oj.dst with
            | none => simp [hdj, undef]
            | some d =>
              have h1 := hT d (by rw [hoj]; simpa using hdj)
              simp only [hdj, Option.bind_some]
              refine ⟨fun b hb => ?_, fun hb => ?_⟩
              · rw [hb] at h1
                have h2 := vrel_bool h1
                rw [Array.getD_eq_getD_getElem?] at h2
                cases h3 : a.tmps[d]? with
                | none => rw [h3] at h2; cases h2
                | some v => rw [h3] at h2; simp only [Option.getD_some] at h2; rw [h2]
              · rw [hb] at h1
                have h2 := vrel_undef h1
                rw [Array.getD_eq_getD_getElem?] at h2
                cases h3 : a.tmps[d]? with
                | none => rfl
                | some v => rw [h3] at h2; simp only [Option.getD_some] at h2; rw [h2]; rfl
        rcases hor with ⟨hg, hq, hco⟩ | ⟨hg, rfl, rfl⟩
        · have hw : Region.wanted o (yielded ops a.tmps) = true := by
            unfold Region.wanted
            cases hgd : o.guard with
            | none => rfl
            | some p =>
              obtain ⟨j, want⟩ := p
              simp only [(hgv j want hgd).1 want (hg j want hgd)]
              simp
          rw [if_pos hw]
          refine ⟨fun f _ => hF.fn f, ?_⟩
          rw [Oper.semAt_eq _ _ _ hq.nd]
          have hrun := hq.run (res sp.H.length ρ) a.eval w hheap (fun x hx => by
            cases x with
            | tmp t => exact rd (operand_read ho hx)
            | const v => exact hco _ hx _
            | «global» g =>
              obtain ⟨vs, sz, hg⟩ := hco _ hx
              obtain ⟨l, h1, h2, h3⟩ := hheap.glob g vs sz hg
              have := VRel.ptr (o := 0) h1
              rw [h2, h3] at this
              exact this
            | func f => exact .func trivial rfl (fun i hi => by simp at hi) rfl (fun i hi => by simp at hi))
          generalize (execOp a.eval o).run P w = r at hrun ⊢
          cases r with
          | ok x w' =>
            cases x with
            | value v' => obtain ⟨ρ', h1, h2, h3⟩ := hrun; exact cont v' ρ' w' h1 h2 h3
            | skip => obtain ⟨ρ', h1, h2, h3⟩ := hrun; exact cont undef ρ' w' h1 h2 h3
            | enter f args =>
              refine ⟨fun hd => by rw [hF.depth] at hd; simp at hd, hF.calls (Calls.mono hrun ?_)⟩
              rintro e w'' ⟨v', rfl, ρ', h1, h2, h3⟩
              exact cont v' ρ' w'' h1 h2 h3
            | _ => exact hrun.elim
          | halt x w' => exact hrun.elim
        · have hw : Region.wanted o (yielded ops a.tmps) = false := by
            obtain ⟨j, want, hgd, h1⟩ := hg
            unfold Region.wanted
            rw [hgd]
            rcases h1 with h1 | h1
            · simp only [(hgv j want hgd).1 _ h1]
              cases want <;> rfl
            · simp only [(hgv j want hgd).2 h1]
              cases want <;> rfl
          rw [if_neg (by rw [hw]; simp)]
          refine ⟨fun f _ => hF.fn f, ?_⟩
          exact cont undef _ w (.undef _) (by rw [List.append_nil]; exact hheap) (.refl hheap)
      by_cases hci : i < c
      · -- a late one
        obtain ⟨o, v, ho, hdo, hval, hor⟩ := hM.pend i hci hLi
        refine key (st c) o v [] ho (hM.heap c (Nat.le_refl _) hce) (fun t hr => hM.readP ht hs hen hce hci hLi hdi hr) ?_ fun v' ρ' w' hv hh hE => ?_
        · rcases hor with h | ⟨h1, h2⟩
          · exact .inl h
          · exact .inr ⟨h1, h2, rfl⟩
        · rw [List.append_nil] at hh
          obtain ⟨hM', hf'⟩ := hM.stepP hch hs hce hci hLi hdi ho hdo hval hv hh hE
          rw [← lof_set (by omega : i < listed.size)] at hM'
          exact ih _ ρ _ w' st c e hsz' hlf' hce hch hM' (hf.trans hf') hend
      by_cases hie : i < e
      · obtain ⟨o, ho, v, Δ, hdo, hst, hor⟩ := hch i (by omega) hie
        refine key (st i) o v Δ ho (hM.heap i (by omega) (by omega)) (fun t hr => hM.read hch ht hs hen (by omega) hie hLi hdi hr) hor fun v' ρ' w' hv hh hE => ?_
        obtain ⟨ρn, hM', hf'⟩ := hM.step hch hs (by omega) hie hLi hdi ho hst hdo hv hh hE
        rw [← lof_set (by omega : i < listed.size)] at hM'
        exact ih _ ρn _ w' st c e hsz' hlf' hce hch hM' (hf.trans hf') hend
      · -- one that turns the heap
        rcases hend with ⟨h1, _⟩ | ⟨o, rest, ho, hrest, hop⟩
        · omega
        · have hes : e < ops.size := (Array.getElem?_eq_some_iff.1 ho).1
          have hbits : ∀ j, j < ops.size → e < j → bit tab j e = true := fun j hj hej => by
            rcases hop with ⟨hcut, _⟩ | ⟨fl, _, hfl, _⟩
            · have h1 := List.all_eq_true.1 hcut j (List.mem_range.2 hj)
              simp only [Bool.and_eq_true, Bool.or_eq_true, Bool.not_eq_true', decide_eq_false_iff_not] at h1
              rcases h1.2 with h2 | h2
              · omega
              · exact h2
            · have h1 := List.all_eq_true.1 hfl j (List.mem_range.2 hj)
              rw [Bool.and_eq_true] at h1
              have h1 := h1.1
              simp only [Bool.and_eq_true, Bool.or_eq_true, Bool.not_eq_true', decide_eq_false_iff_not] at h1
              rcases h1.2 with h2 | h2
              · omega
              · exact h2
          have hie' : i = e := by
            by_cases h : i = e
            · exact h
            · have := tab_listed ht hM.closed i hin hdi e hes (hbits i hin (by omega))
              rw [hM.high e (Nat.le_refl _)] at this; cases this
          subst hie'
          have hL' : Lof (listed.setIfInBounds i true) = fun k => if k = i then true else Lof listed k := lof_set (by omega)
          have hLL : ∀ k, Lof (listed.setIfInBounds i true) k = false → k ≠ i ∧ Lof listed k = false := fun k h => by
            rw [hL'] at h
            try dsimp only at h
            by_cases e1 : k = i
            · rw [if_pos e1] at h; cases h
            · rw [if_neg e1] at h; exact ⟨e1, h⟩
          have hcl : Closed ops (Lof (listed.setIfInBounds i true)) := by
            rw [hL']
            intro k hk k' hk'
            try dsimp only at hk ⊢
            by_cases e1 : k = i
            · subst e1
              by_cases e2 : k' = k
              · rw [if_pos e2]
              · rw [if_neg e2]; exact hdi k' hk'
            · rw [if_neg e1] at hk
              by_cases e2 : k' = i
              · rw [if_pos e2]
              · rw [if_neg e2]; exact hM.closed k hk k' hk'
          have hlen : rest.length = ops.size - (i + 1) := by
            have h3 : rest[rest.length]? = none := List.getElem?_eq_none (Nat.le_refl _)
            rw [hrest] at h3
            have h4 := Array.getElem?_eq_none_iff.1 h3
            by_cases h5 : rest.length = ops.size - (i + 1)
            · exact h5
            · have h6 : rest[ops.size - (i + 1)]? = ops[i + 1 + (ops.size - (i + 1))]? := hrest _
              rw [show i + 1 + (ops.size - (i + 1)) = ops.size by omega, Array.getElem?_eq_none (Nat.le_refl _)] at h6
              have h7 := List.getElem?_eq_none_iff.1 h6
              omega
          -- what comes behind it
          have behind : ∀ (s' : ASt) (T0 : Nat → Value) ρ' a' w', dList F n P N0 ops tab (i + 1) rest K s' → SRel N0 ρ' { s' with T := T0 } a' w' → (∀ t, (∀ j, j < i → Lof listed j = false → dstOf ops j ≠ some t) → T0 t = s'.T t) →
              (∀ j, j < i → Lof listed j = false → Pend P ops s' j) → (∀ i' j', i' < j' → j' < i → Lof listed i' = false → Lof listed j' = false → ∀ t, t ∈ readsOf ops i' → dstOf ops j' ≠ some t) → Fr N0.length ρ (st i).H w ρ' s'.H w' →
              wpAnyIn F n P .any ops R fuel (listed.setIfInBounds i true) a' w' := by
            intro s' T0 ρ' a' w' hk hs' hT0 hpd hla hf'
            obtain ⟨e', st', hce', hst', hch', hend'⟩ := chain_of rest (i + 1) s' hrest hk
            have hfn : Fr N0.length ρs Hs ws ρ' (st' (i + 1)).H w' := by rw [hst']; exact hf.trans hf'
            have hM2 : Mid P N0 ops st' (i + 1) e' (Lof (listed.setIfInBounds i true)) ρ' a' w' := .start hch' hce' hcl
              (fun j hj hLj => by
                obtain ⟨e1, e2⟩ := hLL j hLj
                rw [hst']; exact hpd j (by omega) e2)
              (fun i' j' h1 h2 h3 h4 => by
                obtain ⟨e1, e2⟩ := hLL i' h3
                obtain ⟨e3, e4⟩ := hLL j' h4
                exact hla i' j' h1 (by omega) e2 e4)
              (fun j hj => by
                rw [hL']; try dsimp only
                rw [if_neg (by omega)]; exact hM.high j (by omega))
              (T0 := T0) (fun t h => by
                rw [hst']
                refine hT0 t fun j h1 h2 => h j (by omega) ?_
                rw [hL']; try dsimp only
                rw [if_neg (by omega)]; exact h2) (by rw [hst']; exact hs')
            have hf2 : Fr N0.length ρs Hs ws ρ' (st' e').H w' := by
              refine ⟨hfn.os, hfn.tape, hfn.output, hfn.size, hfn.keep, hfn.oldA, fun b l' hb hw => hfn.fresh b l' hb ?_⟩
              obtain ⟨o2, p1, p2⟩ := hw
              have hb2 : b < (st' (i + 1)).H.length := by
                by_cases e1 : b < (st' (i + 1)).H.length
                · exact e1
                · rw [hst'] at e1
                  have h9 : ρ' b = .none := hs'.heap.bound b (by show s'.H.length ≤ b; omega)
                  rw [h9] at hb; cases hb
              exact ⟨o2, by rw [← chain_get hch' (Nat.le_refl _) hce' (Nat.le_refl _) hb2]; exact p1, p2⟩
            refine ih _ ρ' a' w' st' (i + 1) e' hsz' hlf' hce' hch' hM2 hf2 ?_
            rcases hend' with ⟨q1, q2⟩ | ⟨o', r', q1, q2, q3, q4, q5⟩
            · exact .inl ⟨by omega, q2⟩
            · exact .inr ⟨o', r', q1, q2, q5⟩
          have go : ∀ (T' : Nat → Value) (K' : ASt → Prop), SRel N0 ρ { st i with T := T' } a w → GYes ops o T' → OpOk F n P N0 o K' { st i with T := T' } →
              (∀ s' ρ' a' w', K' s' → SRel N0 ρ' s' a' w' → Fr N0.length ρ (st i).H w ρ' s'.H w' → wpAnyIn F n P .any ops R fuel (listed.setIfInBounds i true) a' w') →
              wpOpIn F n P ops R i (wpAnyIn F n P .any ops R fuel (listed.setIfInBounds i true)) a w := by
            intro T' K' hsr hg hop hk
            unfold wpOpIn
            simp only [ho]
            rw [if_pos (wanted_yes hsr.tmps hg)]
            have h2 := Oper.wpIn_mono (K' := wpAnyIn F n P .any ops R fuel (listed.setIfInBounds i true)) (fun a' w' ⟨s', ρ', hk', hs', hf'⟩ => hk s' ρ' a' w' hk' hs' hf') (hop ρ a w hsr)
            unfold Oper.wpIn at h2 ⊢
            refine ⟨h2.1, ?_⟩
            have h3 := h2.2
            generalize (o.semAt F.round a.eval).run P w = r at h3 ⊢
            cases r with
            | ok x w' =>
              cases x <;> simp only [Oper.uponIn] at h3 ⊢ <;>
                first
                  | exact h3
                  | exact ⟨h3.1, CallsIn.mono h3.2 (fun e w'' he => by cases e <;> first | exact he | exact he.elim | exact (by obtain ⟨_, _, hf⟩ := he; exact hf.elim))⟩
                  | exact ⟨h3.1, RoundIn.mono h3.2 (fun e w'' he => by cases e <;> first | exact he | exact he.elim | exact (by obtain ⟨_, _, hf⟩ := he; exact hf.elim))⟩
            | halt x w' => cases x <;> simp only [Oper.uponIn] at h3 ⊢ <;> exact h3.elim
          rcases hop with ⟨hcut, hg, hop⟩ | ⟨fl, R', hfl, hg, hop, hk0⟩
          · have hall : ∀ j, j < i → Lof listed j = true := fun j hj => by
              have h1 := List.all_eq_true.1 hcut j (List.mem_range.2 (by omega))
              simp only [Bool.and_eq_true, Bool.or_eq_true, Bool.not_eq_true', decide_eq_false_iff_not] at h1
              rcases h1.1 with h2 | h2
              · omega
              · exact tab_listed ht hM.closed i hin hdi j (by omega) h2
            have hno : ∀ j, j < i → Lof listed j ≠ false := fun j hj h => by rw [hall j hj] at h; cases h
            refine go (st i).T _ (hM.finish hch hs hce hall) hg hop fun s' ρ' a' w' hk hs' hf' => ?_
            exact behind s' s'.T ρ' a' w' hk hs' (fun _ _ => rfl) (fun j h1 h2 => absurd h2 (hno j h1)) (fun i' j' _ h1 _ h2 => absurd h2 (hno j' h1)) hf'
          · have hin_fl : ∀ j, j < i → Lof listed j = false → j ∈ fl := fun j hj hLj => by
              have h1 := List.all_eq_true.1 hfl j (List.mem_range.2 (by omega))
              rw [Bool.and_eq_true] at h1
              have h1 := h1.1
              simp only [Bool.and_eq_true, Bool.or_eq_true, Bool.not_eq_true', decide_eq_false_iff_not, List.contains_iff_mem] at h1
              rcases h1.1 with (h2 | h2) | h2
              · omega
              · rw [tab_listed ht hM.closed i hin hdi j (by omega) h2] at hLj; cases hLj
              · exact h2
            obtain ⟨T', hT1, hT2⟩ : ∃ T' : Nat → Value, (∀ t, (∀ j, j < i → Lof listed j = false → dstOf ops j ≠ some t) → T' t = (st i).T t) ∧ (∀ t, (∃ j, j < i ∧ Lof listed j = false ∧ dstOf ops j = some t) → T' t = junk) := by
              refine ⟨fun t => open Classical in if ∃ j, j < i ∧ Lof listed j = false ∧ dstOf ops j = some t then junk else (st i).T t, fun t h => ?_, fun t h => ?_⟩
              · exact if_neg fun ⟨j, h1, h2, h3⟩ => h j h1 h2 h3
              · exact if_pos h
            have hgY : GYes ops o T' := by
              intro j want hgd
              have h1 := hg j want hgd
              have : gval ops T' j = gval ops (st i).T j := by
                unfold gval
                cases hoj : ops[j]? with
                | none => rfl
                | some oj =>
                  cases hdj : oj.dst with
                  | none => simp [hdj]
                  | some d =>
                    simp only [hdj]
                    refine hT1 d fun j' h2 h3 h4 => ?_
                    rcases ssa_read hs hin (gval_read ho hgd (show dstOf ops j = some d by unfold dstOf; rw [hoj]; simpa using hdj)) h4 with ⟨h5, h6⟩ | ⟨h5, h6⟩
                    · rw [tab_listed ht hM.closed i hin hdi j' (by omega) h6] at h3; cases h3
                    · omega
              rw [this]; exact h1
            have hsJ := hM.finishJ hch hs hce hT1 hT2
            refine go T' (fun s' => ∃ v H', R' v H' ∧ s' = ASt.put { st i with T := T', H := H' } o.dst v) hsJ hgY (hop T' (fun t h => hT1 t fun j h1 h2 => h j (hin_fl j h1 h2)) _ fun v H' hR => ⟨v, H', hR, rfl⟩) fun s' ρ' a' w' hk' hs' hf' => ?_
            obtain ⟨v, H', hR', rfl⟩ := hk'
            obtain ⟨hpd, hk⟩ := hk0 v H' hR'
            refine behind (ASt.put { st i with H := H' } o.dst v) (ASt.put { st i with T := T', H := H' } o.dst v).T ρ' a' w' hk ?_ (fun t h => ?_) (fun j h1 h2 => hpd j (hin_fl j h1 h2)) (fun i' j' h1 h2 h3 h4 t hr hdt => ?_) ?_
            · have : ({ (ASt.put { st i with H := H' } o.dst v) with T := (ASt.put { st i with T := T', H := H' } o.dst v).T } : ASt) = ASt.put { st i with T := T', H := H' } o.dst v := by cases o.dst <;> rfl
              rw [this]; exact hs'
            · cases hdo : o.dst with
              | none => exact hT1 t h
              | some d =>
                show upd T' d v t = upd (st i).T d v t
                by_cases e1 : t = d
                · subst e1; rw [upd_same, upd_same]
                · rw [upd_other _ _ e1, upd_other _ _ e1]; exact hT1 t h
            · have h5 := List.all_eq_true.1 hfl j' (List.mem_range.2 (by omega))
              rw [Bool.and_eq_true] at h5
              have h6 := List.all_eq_true.1 h5.2 i' (List.mem_range.2 (by omega))
              rw [hdt] at h6
              have m1 : fl.contains i' = true := List.contains_iff_mem.2 (hin_fl i' (by omega) h3)
              have m2 : fl.contains j' = true := List.contains_iff_mem.2 (hin_fl j' h2 h4)
              have m3 : (readsOf ops i').contains t = true := List.contains_iff_mem.2 hr
              simp only [m1, m2, m3, decide_eq_true h1] at h6
              simp at h6
            · have h7 : (ASt.put { st i with H := H' } o.dst v).H = (ASt.put { st i with T := T', H := H' } o.dst v).H := by cases o.dst <;> rfl
              rw [h7]; exact hf'
/-- A region that draws its order. -/
theorem awp_region_any (hF : Wd F) (hm : P.follows .mixedOrders = true) {id : Nat} {Q : AEx → ASt → Prop} {s : ASt} {l : List Oper} (tab : List Nat) (ht : tabOk l.toArray tab = true) (hs : ssaOk l.toArray tab = true)
    (h : dList F n P N0 l.toArray tab 0 l (Q .normal) s) : awp F n P N0 (.region id l.toArray true) Q s := by
  intro ρ a w hs0
  refine wpIn_region_any hm ?_
  obtain ⟨e, st, hce, hst, hch, hend⟩ := chain_of (ops := l.toArray) l 0 s (fun j => by simp) h
  have hL : ∀ k, Lof (Array.replicate l.toArray.size false) k = false := fun k => by
    unfold Lof
    by_cases hk : k < l.length <;> simp [hk]
  have hs1 := hs0.drawn (w.drawn + 1)
  have hf0 : Fr N0.length ρ s.H w ρ s.H { w with drawn := w.drawn + 1 } := (Fr.refl N0.length ρ s.H { w with drawn := w.drawn + 1 }).drew
  have hM : Mid P N0 l.toArray st 0 e (Lof (Array.replicate l.toArray.size false)) ρ a { w with drawn := w.drawn + 1 } :=
    .start hch hce (fun k hk => by rw [hL k] at hk; cases hk) (fun k hk => by omega) (fun i j h1 h2 => by omega) (fun k _ => hL k) (T0 := (st 0).T) (fun _ _ => rfl) (by rw [hst]; exact hs1)
  refine any_sound (R := APost N0 Q ρ s.H w) hF ht hs (fun hl => by obtain ⟨a, w, x, s', ρ', h, _⟩ := hl; cases x <;> cases h) ρ s.H w (fun s' ρ' a' w' hk hs' hf => ⟨.normal, s', ρ', rfl, hk, hs', hf⟩) _ _ ρ a _ st 0 e (by simp) ?_ hce hch hM ?_ ?_
  · unfold left
    rw [List.filter_eq_self.2 (fun i _ => by rw [hL i]; rfl)]
    simp
  · refine ⟨hf0.os, hf0.tape, hf0.output, hf0.size, hf0.keep, hf0.oldA, fun b l' hb hw => .inl ⟨b, l', hb, rfl, ?_⟩⟩
    obtain ⟨o2, p1, p2⟩ := hw
    have hb2 : b < (st 0).H.length := by
      by_cases e1 : b < (st 0).H.length
      · exact e1
      · rw [hst] at e1; rw [hs0.heap.bound b (by omega)] at hb; cases hb
    exact ⟨o2, by rw [← hst, ← chain_get hch (Nat.le_refl _) hce (Nat.le_refl _) hb2]; exact p1, p2⟩
  · rcases hend with ⟨q1, q2⟩ | ⟨o', r', q1, q2, q3, q4, q5⟩
    · exact .inl ⟨by simpa using q1, q2⟩
    · exact .inr ⟨o', r', q1, q2, q5⟩
end
end Go.Proofs.YtnafdgcikaifmaaGreatA


/-
  The quiet operations, one by one: numbers, texts, reads of memory, new blocks.
-/
namespace Go.Proofs.YtnafdgcikaifmaaGreatA
set_option linter.unusedVariables false
open Go Go.RowKit
section
variable {P : Program} {T : Nat → Value} {H : AHeap} {dst : Option Tmp} {ty : TypeId} {pos : String} {af : Array Edge} {g : Option (Nat × Bool)}

/-- What turns no block. -/
theorem q_val {o : Oper} {v : Value} (hnd : ∀ c, o.op ≠ .defer c)
    (h : ∀ ρ e w, HRel ρ H w → (∀ x ∈ o.op.operands, VRel ρ (ev T x) (e x)) → ∃ v', (execOp e o).run P w = .ok (.value v') w ∧ VRel ρ v v') : OpQ P o T H v [] := by
  refine ⟨hnd, by simp, fun ρ e w hh he => ?_⟩
  obtain ⟨v', h1, h2⟩ := h ρ e w hh he
  rw [h1]
  exact ⟨ρ, h2, by simpa using hh, .refl hh⟩
theorem q_move {x : Operand} : OpQ P ⟨dst, .move x, ty, pos, af, g⟩ T H (ev T x) [] :=
  q_val (by simp) fun ρ e w hh he => ⟨e x, rfl, he x (by simp [Op.operands])⟩
theorem q_assign {x : Operand} : OpQ P ⟨dst, .assign x, ty, pos, af, g⟩ T H (ev T x) [] :=
  q_val (by simp) fun ρ e w hh he => ⟨e x, rfl, he x (by simp [Op.operands])⟩
theorem q_pick_t {c x y : Operand} (hc : ev T c = .bool true) : OpQ P ⟨dst, .pick c x y, ty, pos, af, g⟩ T H (ev T x) [] :=
  q_val (by simp) fun ρ e w hh he => by
    have h1 := he c (by simp [Op.operands])
    rw [hc] at h1
    have h2 := vrel_bool h1
    exact ⟨e x, by simp [execOp, h2, asBool, go_sem], he x (by simp [Op.operands])⟩
theorem q_pick_f {c x y : Operand} (hc : ev T c = .bool false) : OpQ P ⟨dst, .pick c x y, ty, pos, af, g⟩ T H (ev T y) [] :=
  q_val (by simp) fun ρ e w hh he => by
    have h1 := he c (by simp [Op.operands])
    rw [hc] at h1
    have h2 := vrel_bool h1
    exact ⟨e y, by simp [execOp, h2, asBool, go_sem], he y (by simp [Op.operands])⟩
theorem run_v {s : Sem Value} {v : Value} {w w' : World} (h : s.run P w = .ok v w') : (do pure (.value (← s)) : Sem Next).run P w = .ok (.value v) w' := by
  rw [Sem.run_bind, h]; rfl
theorem run_und {t : TypeId} {d : TypeDesc} (h : P.underlying t = some d) (w : World) : (underlying t).run P w = .ok d w := by
  simp [underlying, program, Sem.run_bind, Sem.run, h]
/-! Numbers. -/
def iop (op : BinOp) (k : IntKind) (a b : Int) : Option Value :=
  match op with
  | .add => some (.int k (k.wrap (a + b)))
  | .sub => some (.int k (k.wrap (a - b)))
  | .mul => some (.int k (k.wrap (a * b)))
  | .and => some (.int k (k.wrap (BitVec.ofInt k.bits a &&& BitVec.ofInt k.bits b).toNat))
  | .or => some (.int k (k.wrap (BitVec.ofInt k.bits a ||| BitVec.ofInt k.bits b).toNat))
  | .xor => some (.int k (k.wrap (BitVec.ofInt k.bits a ^^^ BitVec.ofInt k.bits b).toNat))
  | .andNot => some (.int k (k.wrap (BitVec.ofInt k.bits a &&& ~~~BitVec.ofInt k.bits b).toNat))
  | .eql => some (.bool (a == b))
  | .neq => some (.bool (a != b))
  | .lss => some (.bool (decide (a < b)))
  | .leq => some (.bool (decide (a ≤ b)))
  | .gtr => some (.bool (decide (b < a)))
  | .geq => some (.bool (decide (b ≤ a)))
  | _ => none
theorem iop_scalar {op : BinOp} {k : IntKind} {a b : Int} {v : Value} (h : iop op k a b = some v) : Scalar v = true := by
  cases op <;> simp [iop] at h <;> subst h <;> rfl
theorem q_int {op : BinOp} {t u : TypeId} {x y : Operand} {k : IntKind} {a b : Int} {v : Value} (hx : ev T x = .int k a) (hy : ev T y = .int k b) (hv : iop op k a b = some v) :
    OpQ P ⟨dst, .binOp op t x y u, ty, pos, af, g⟩ T H v [] := by
  refine q_scalar (by simp) (by simp) (fun z hz => ?_) (iop_scalar hv) (fun w => ?_)
  · simp only [Op.operands, List.mem_toArray, List.mem_cons, List.not_mem_nil, or_false] at hz
    rcases hz with rfl | rfl
    · rw [hx]; rfl
    · rw [hy]; rfl
  · have h1 : eqGuard op t x y (.int k a) (.int k b) = Sem.pure () := by cases op <;> rfl
    have h2 : binOp op t (.int k a) (.int k b) = Sem.pure v := by
      cases op <;> simp only [iop, Option.some.injEq, reduceCtorEq] at hv <;> subst hv <;> simp only [binOp, ne_eq, not_true_eq_false, if_false] <;> rfl
    simp only [execOp, hx, hy, h1, h2]
    rfl
theorem q_not {t : TypeId} {x : Operand} {b : Bool} (hx : ev T x = .bool b) : OpQ P ⟨dst, .unOp .not t x, ty, pos, af, g⟩ T H (.bool (!b)) [] := by
  refine q_scalar (by simp) (by simp) (fun z hz => ?_) rfl (fun w => ?_)
  · simp only [Op.operands, List.mem_toArray, List.mem_cons, List.not_mem_nil, or_false] at hz
    subst hz; rw [hx]; rfl
  · simp [execOp, hx, Op.unary, go_sem]
theorem q_boolne {t u : TypeId} {x y : Operand} {a b : Bool} (hu : P.underlying t = some .bool) (hx : ev T x = .bool a) (hy : ev T y = .bool b) :
    OpQ P ⟨dst, .binOp .neq t x y u, ty, pos, af, g⟩ T H (.bool (a != b)) [] := by
  refine q_scalar (by simp) (by simp) (fun z hz => ?_) rfl (fun w => ?_)
  · simp only [Op.operands, List.mem_toArray, List.mem_cons, List.not_mem_nil, or_false] at hz
    rcases hz with rfl | rfl
    · rw [hx]; rfl
    · rw [hy]; rfl
  · refine run_v ?_
    have h1 : eqGuard .neq t x y (ev T x) (ev T y) = Sem.pure () := by rw [hx, hy]; rfl
    have h2 : binOp .neq t (ev T x) (ev T y) = (do pure (Value.bool (!(← Op.equal t (.bool a) (.bool b))))) := by rw [hx, hy]; rfl
    show (Sem.bind (eqGuard .neq t x y (ev T x) (ev T y)) fun _ => binOp .neq t (ev T x) (ev T y)).run P w = _
    rw [h1, h2]
    show (Sem.bind (Op.equal t (.bool a) (.bool b)) fun r => pure (Value.bool (!r))).run P w = _
    have h3 := Go.run_equal_bool (P := P) w t a b hu
    have h4 := Sem.run_bind' P (Op.equal t (.bool a) (.bool b)) (fun r => (pure (Value.bool (!r)) : Sem Value)) w
    rw [h3] at h4
    exact h4
/-! Texts. -/
theorem bytes_list_inj {a b : ByteArray} : (a.toList == b.toList) = decide (a = b) := by
  have h : a.toList = b.toList ↔ a = b := by
    constructor
    · intro h
      have h1 : a.data.toList = b.data.toList := by simpa [ByteArray.toList_eq] using h
      cases a; cases b
      simp at h1 ⊢
      exact h1
    · rintro rfl; rfl
  by_cases e : a = b
  · simp [e]
  · simp [e, mt h.1 e]
theorem q_streq {t u : TypeId} {x y : Operand} {a b : ByteArray} (hx : ev T x = .string a) (hy : ev T y = .string b) :
    OpQ P ⟨dst, .binOp .eql t x y u, ty, pos, af, g⟩ T H (.bool (decide (a = b))) [] := by
  refine q_scalar (by simp) (by simp) (fun z hz => ?_) rfl (fun w => ?_)
  · simp only [Op.operands, List.mem_toArray, List.mem_cons, List.not_mem_nil, or_false] at hz
    rcases hz with rfl | rfl
    · rw [hx]; rfl
    · rw [hy]; rfl
  · rw [← bytes_list_inj]; simp [execOp, hx, hy, eqGuard, binOp, Op.stringOp, go_sem]
theorem q_strne {t u : TypeId} {x y : Operand} {a b : ByteArray} (hx : ev T x = .string a) (hy : ev T y = .string b) :
    OpQ P ⟨dst, .binOp .neq t x y u, ty, pos, af, g⟩ T H (.bool (!decide (a = b))) [] := by
  refine q_scalar (by simp) (by simp) (fun z hz => ?_) rfl (fun w => ?_)
  · simp only [Op.operands, List.mem_toArray, List.mem_cons, List.not_mem_nil, or_false] at hz
    rcases hz with rfl | rfl
    · rw [hx]; rfl
    · rw [hy]; rfl
  · rw [← bytes_list_inj]; simp [execOp, hx, hy, eqGuard, binOp, Op.stringOp, go_sem]
theorem q_strix {t : TypeId} {x y : Operand} {s : ByteArray} {k : IntKind} {i : Nat} (hu : P.underlying t = some .string) (hx : ev T x = .string s) (hy : ev T y = .int k i) (hi : i < s.size) :
    OpQ P ⟨dst, .index t x y, ty, pos, af, g⟩ T H (.int .u8 (s[i].toNat)) [] := by
  refine q_scalar (by simp) (by simp) (fun z hz => ?_) rfl (fun w => ?_)
  · simp only [Op.operands, List.mem_toArray, List.mem_cons, List.not_mem_nil, or_false] at hz
    rcases hz with rfl | rfl
    · rw [hx]; rfl
    · rw [hy]; rfl
  · have : s[(i : Int).toNat]? = some s[i] := by simp [hi]
    refine run_v ?_
    show (Instr.index t (ev T x) (ev T y)).run P w = _
    rw [hx, hy]
    unfold Instr.index
    simp only [asIntOf, Sem.run_bind, Sem.run_pure, Result.andThen_ok, run_und hu]
    simp [this, hi]
end
end Go.Proofs.YtnafdgcikaifmaaGreatA


/-
  The quiet operations: reads of memory, places in it, new blocks.
-/
namespace Go.Proofs.YtnafdgcikaifmaaGreatA
set_option linter.unusedVariables false
open Go Go.RowKit
/-- A block that may be read. -/
def Rd (H : AHeap) (b : Nat) (vs : List Value) (sz : Nat) : Prop := (∃ wr, H[b]? = some (.cells wr vs sz)) ∨ H[b]? = some (.glob vs sz) ∨ (H[b]? = some .null ∧ vs = []) ∨ ∃ t, H[b]? = some (.typed t vs sz)
theorem Rd.live {H : AHeap} {b : Nat} {vs : List Value} {sz : Nat} (h : Rd H b vs sz) : H[b]? ≠ some .dead := by
  rcases h with ⟨wr, h⟩ | h | ⟨h, _⟩ | ⟨t, h⟩ <;> rw [h] <;> simp
theorem Rd.lt {H : AHeap} {b : Nat} {vs : List Value} {sz : Nat} (h : Rd H b vs sz) : b < H.length := by
  rcases h with ⟨wr, h⟩ | h | ⟨h, _⟩ | ⟨t, h⟩ <;> exact (List.getElem?_eq_some_iff.1 h).1
theorem Rd.get {H : AHeap} {b : Nat} {vs : List Value} {sz : Nat} (h : Rd H b vs sz) {ρ : Ren} {w : World} (hh : HRel ρ H w) {l : Loc} (hl : ρ b = .at l) :
    l.sz = sz ∧ ∃ cs T fr, w.heap[l.blk]? = some (.cells cs T fr) ∧ l.base + vs.length ≤ l.lim ∧ l.lim ≤ cs.size ∧ CRel ρ vs cs l.base := by
  obtain ⟨o, h1, h2, h3⟩ := hh.rel b l hl
  rcases h with ⟨wr, h⟩ | h | ⟨h, _⟩ | ⟨t, h⟩ <;> rw [h] at h1 <;> cases h1
  · obtain ⟨h4, cs, T, fr, h5, h6, h7, h8, _⟩ := h3
    exact ⟨h4, cs, T, fr, h5, h6, h7, h8⟩
  · exact h3
  · exact h3.elim
  · obtain ⟨h4, cs, T, fr, h5, h6, h7, h8, _⟩ := h3
    exact ⟨h4, cs, T, fr, h5, h6, h7, h8⟩
theorem vrel_ptr {ρ : Ren} {H : AHeap} {w : World} (hh : HRel ρ H w) {b o : Nat} {v' : Value} (h : VRel ρ (.pointer (some ⟨b, o, none⟩)) v') (hl : H[b]? ≠ some .dead) : ∃ l, ρ b = .at l ∧ v' = .pointer (some ⟨l.blk, l.base + o, none⟩) := by
  cases h with
  | ptr h => exact ⟨_, h, rfl⟩
  | dead h => exact absurd (hh.isdead b h) hl
theorem vrel_slice {ρ : Ren} {H : AHeap} {w : World} (hh : HRel ρ H w) {b o n c : Nat} {v' : Value} (h : VRel ρ (.slice (some ⟨b, o, none⟩) n c) v') (hl : H[b]? ≠ some .dead) :
    (∃ l o' c', ρ b = .at l ∧ v' = .slice (some ⟨l.blk, o', none⟩) n c' ∧ n ≤ c ∧ c ≤ c' ∧ (o' = l.base + o ∨ c' = 0) ∧ l.base + o + c' * l.sz ≤ l.lim) ∨ (n = 0 ∧ c = 0 ∧ ρ b = .null ∧ ∃ a, v' = .slice a 0 0) := by
  cases h with
  | slice h hn hc ho hr => exact .inl ⟨_, _, _, h, rfl, hn, hc, ho, hr⟩
  | empty h => exact .inr ⟨rfl, rfl, h, _, rfl⟩
  | dead h => exact absurd (hh.isdead b h) hl
theorem add_plain (b o n : Nat) : (⟨b, o, none⟩ : Addr).add n = ⟨b, o + n, none⟩ := by
  unfold Addr.add; split <;> simp_all
theorem cell_at {w : World} {b : Nat} {cs : Array Value} {T : TypeId} {fr : Nat × Nat} (h : w.heap[b]? = some (.cells cs T fr)) {i : Nat} (hi : i < cs.size) : w.cell? ⟨b, i, none⟩ = some (cs.getD i undef) := by
  simp [World.cell?, h, hi]
section
variable {P : Program} {T : Nat → Value} {H : AHeap} {dst : Option Tmp} {ty : TypeId} {pos : String} {af : Array Edge} {g : Option (Nat × Bool)}
theorem run_load_cells {w : World} {b : Nat} {cs : Array Value} {E : TypeId} {fr : Nat × Nat} (h : w.heap[b]? = some (.cells cs E fr)) {i n : Nat} (hi : i + n ≤ cs.size) :
    (loadCells ⟨b, i, none⟩ n).run P w = .ok ((List.range n).map fun j => cs.getD (i + j) undef).toArray w :=
  run_loadCells w ⟨b, i, none⟩ n (fun j => cs.getD (i + j) undef) fun j hj => by rw [add_plain]; exact cell_at h (by omega)
theorem q_load {t : TypeId} {x : Operand} {b o : Nat} {vs : List Value} {sz : Nat} {v : Value} (hu : ∀ w, (isAgg t).run P w = .ok false w) (hp : ev T x = .pointer (some ⟨b, o, none⟩)) (hR : Rd H b vs sz) (hv : vs[o]? = some v) :
    OpQ P ⟨dst, .load t x, ty, pos, af, g⟩ T H v [] :=
  q_val (by simp) fun ρ e w hh he => by
    have h1 := he x (by simp [Op.operands])
    rw [hp] at h1
    obtain ⟨l, hl, h2⟩ := vrel_ptr hh h1 hR.live
    obtain ⟨_, cs, E, fr, h3, h4, h5, h6⟩ := hR.get hh hl
    have ho := (List.getElem?_eq_some_iff.1 hv).1
    have h7 := h6 o ho
    rw [List.getD_eq_getElem?_getD, hv] at h7
    refine ⟨_, run_v ?_, h7⟩
    show (Instr.loadAt t (e x)).run P w = _
    rw [h2]
    show (Sem.run P (do if ← isAgg t then pure (.agg (← loadCells ⟨l.blk, l.base + o, none⟩ (← sizeOf t))) else load ⟨l.blk, l.base + o, none⟩) w) = _
    rw [Sem.run_bind, hu w, Result.andThen_ok]
    simp only [Bool.false_eq_true, if_false]
    rw [run_load, cell_at h3 (by omega)]
theorem q_loadAgg {t : TypeId} {x : Operand} {b o n : Nat} {vs us : List Value} {sz : Nat} (hu : ∀ w, (isAgg t).run P w = .ok true w) (hn : ∀ w, (sizeOf t).run P w = .ok n w) (hp : ev T x = .pointer (some ⟨b, o, none⟩)) (hR : Rd H b vs sz)
    (ho : o + n ≤ vs.length) (hv : (vs.drop o).take n = us) : OpQ P ⟨dst, .load t x, ty, pos, af, g⟩ T H (.agg us.toArray) [] :=
  q_val (by simp) fun ρ e w hh he => by
    have h1 := he x (by simp [Op.operands])
    rw [hp] at h1
    obtain ⟨l, hl, h2⟩ := vrel_ptr hh h1 hR.live
    obtain ⟨_, cs, E, fr, h3, h4, h5, h6⟩ := hR.get hh hl
    refine ⟨.agg ((List.range n).map fun j => cs.getD (l.base + o + j) undef).toArray, run_v ?_, ?_⟩
    · show (Instr.loadAt t (e x)).run P w = _
      rw [h2]
      show (Sem.run P (do if ← isAgg t then pure (.agg (← loadCells ⟨l.blk, l.base + o, none⟩ (← sizeOf t))) else load ⟨l.blk, l.base + o, none⟩) w) = _
      rw [Sem.run_bind, hu w, Result.andThen_ok]
      simp only [if_true, Sem.run_bind, hn w, Result.andThen_ok, run_load_cells h3 (show l.base + o + n ≤ cs.size by omega), Sem.run_pure]
    · have hlen : us.length = n := by rw [← hv]; simp; omega
      refine .agg (by simp [hlen]) fun i hi => ?_
      simp only [List.size_toArray] at hi
      have h7 := h6 (o + i) (by omega)
      have e1 : us.toArray.getD i undef = vs.getD (o + i) undef := by
        simp only [← hv, List.getD_eq_getElem?_getD, Array.getD_eq_getD_getElem?, List.getElem?_toArray, List.getElem?_take, List.getElem?_drop]
        rw [if_pos (by omega)]
      have e2 : ((List.range n).map fun j => cs.getD (l.base + o + j) undef).toArray.getD i undef = cs.getD (l.base + (o + i)) undef := by
        have : i < n := by omega
        simp [this, Nat.add_assoc]
      rw [e1, e2]
      exact h7
theorem q_field {s : TypeId} {x : Operand} {b o i n : Nat} {fs : Array Field} {f : Field} {vs : List Value} {sz : Nat} (hu : P.underlying s = some (.struct fs)) (hf : fs[i]? = some f) (hz : ∀ w, (sizeOf f.type).run P w = .ok (n + 1) w)
    (hp : ev T x = .pointer (some ⟨b, o, none⟩)) (hR : Rd H b vs sz) : OpQ P ⟨dst, .fieldAddr s x i, ty, pos, af, g⟩ T H (.pointer (some ⟨b, o + f.offset, none⟩)) [] :=
  q_val (by simp) fun ρ e w hh he => by
    have h1 := he x (by simp [Op.operands])
    rw [hp] at h1
    obtain ⟨l, hl, h2⟩ := vrel_ptr hh h1 hR.live
    refine ⟨.pointer (some ⟨l.blk, l.base + o + f.offset, none⟩), run_v ?_, ?_⟩
    · show (Instr.fieldAt s (e x) i).run P w = _
      rw [h2]
      unfold Instr.fieldAt
      simp only [Sem.run_bind, run_und hu, Result.andThen_ok, hf]
      simp only [Instr.sureAddr, fieldPlace, Sem.run_bind, Sem.run_pure, Result.andThen_ok, hz w, Nat.add_one_ne_zero, if_false, add_plain]
    · rw [Nat.add_assoc]; exact .ptr hl
theorem run_indexAt_slice {t el : TypeId} {n : Nat} (hu : P.underlying t = some (.slice el)) (hs : ∀ w, (sizeOf el).run P w = .ok n w) {a : Addr} {len c : Nat} {k : IntKind} {i : Nat} (hi : i < len) (w : World) :
    (Instr.indexAt t (.slice (some a) len c) (.int k i)).run P w = .ok (.pointer (some (a.add (i * n)))) w := by
  unfold Instr.indexAt
  have h1 : (0 : Int) ≤ (i : Int) ∧ (i : Int) < (len : Int) := ⟨by omega, by omega⟩
  simp only [asIntOf, Sem.run_bind, Sem.run_pure, Result.andThen_ok, run_und hu]
  simp only [Int.toNat_natCast, if_pos h1, Sem.run_bind, hs w, Result.andThen_ok, Sem.run_pure]
/-- The place of an element of a slice. -/
theorem q_index {t el u : TypeId} {x y : Operand} {b o n len c i : Nat} {k : IntKind} {vs : List Value} {sz : Nat} (hu : P.underlying t = some (.slice el)) (hs : ∀ w, (sizeOf el).run P w = .ok n w)
    (hx : ev T x = .slice (some ⟨b, o, none⟩) len c) (hy : ev T y = .int k i) (hi : i < len) (hR : Rd H b vs sz) : OpQ P ⟨dst, .indexAddr t x y, ty, pos, af, g⟩ T H (.pointer (some ⟨b, o + i * n, none⟩)) [] :=
  q_val (by simp) fun ρ e w hh he => by
    have h1 := he x (by simp [Op.operands])
    have hy1 := he y (by simp [Op.operands])
    rw [hx] at h1
    rw [hy] at hy1
    obtain ⟨l, o', c', hl, h2, h3, h4, h5, h6⟩ | ⟨h, _⟩ := vrel_slice hh h1 hR.live
    case inr => omega
    have h7 : o' = l.base + o := by
      rcases h5 with h | h
      · exact h
      · omega
    have h8 := hy1.scalar_eq rfl
    refine ⟨.pointer (some ⟨l.blk, l.base + (o + i * n), none⟩), run_v ?_, .ptr hl⟩
    show (Instr.indexAt t (e x) (e y)).run P w = _
    rw [h2, h8, run_indexAt_slice hu hs hi, add_plain, h7, Nat.add_assoc]
/-! Parts of values. -/
theorem vrel_agg {ρ : Ren} {vs : Array Value} {v' : Value} (h : VRel ρ (.agg vs) v') : ∃ vs', v' = .agg vs' ∧ vs.size = vs'.size ∧ ∀ i, i < vs.size → VRel ρ (vs.getD i undef) (vs'.getD i undef) := by
  cases h with
  | agg h1 h2 => exact ⟨_, rfl, h1, h2⟩
  | dead h => exact h.elim
theorem vrel_tuple {ρ : Ren} {vs : Array Value} {v' : Value} (h : VRel ρ (.tuple vs) v') : ∃ vs', v' = .tuple vs' ∧ vs.size = vs'.size ∧ ∀ i, i < vs.size → VRel ρ (vs.getD i undef) (vs'.getD i undef) := by
  cases h with
  | tuple h1 h2 => exact ⟨_, rfl, h1, h2⟩
  | dead h => exact h.elim
theorem q_extract {x : Operand} {i : Nat} {vs : Array Value} {v : Value} (hx : ev T x = .tuple vs) (hv : vs[i]? = some v) : OpQ P ⟨dst, .extract x i, ty, pos, af, g⟩ T H v [] :=
  q_val (by simp) fun ρ e w hh he => by
    have h1 := he x (by simp [Op.operands])
    rw [hx] at h1
    obtain ⟨vs', h2, h3, h4⟩ := vrel_tuple h1
    have hi := (Array.getElem?_eq_some_iff.1 hv).1
    have h5 := h4 i hi
    rw [Array.getD_eq_getD_getElem?, hv, Option.getD_some, Array.getD_eq_getD_getElem?, Array.getElem?_eq_getElem (by omega : i < vs'.size), Option.getD_some] at h5
    refine ⟨_, run_v ?_, h5⟩
    show (Instr.extract (e x) i).run P w = _
    rw [h2]
    unfold Instr.extract
    simp only [Array.getElem?_eq_getElem (by omega : i < vs'.size), Sem.run_pure]
/-! Lengths, the lesser, the greater. -/
theorem run_builtin {b : Builtin} {args : Array Operand} {ats : Array TypeId} {e : Operand → Value} {w w' : World} {v : Value} {us : Array Value} (hus : args.map e = us) (h : (builtin b ats ty (args.map fun | .const _ => true | _ => false) us).run P w = .ok (.value v) w') :
    (execOp e ⟨dst, .call { callee := .builtin b, args := args, argTypes := ats }, ty, pos, af, g⟩).run P w = .ok (.value v) w' := by
  show (Sem.run P (do let d ← resolve e _ ty; invoke d.target d.args) w) = _
  unfold resolve
  simp only [Sem.run_bind, Sem.run_pure, Result.andThen_ok, hus]
  exact h
theorem q_len_str {t : TypeId} {x : Operand} {s : ByteArray} (hu : P.underlying t = some .string) (hx : ev T x = .string s) : OpQ P ⟨dst, .call { callee := .builtin .len, args := #[x], argTypes := #[t] }, ty, pos, af, g⟩ T H (.int .i64 s.size) [] :=
  q_val (by simp) fun ρ e w hh he => by
    have h1 := he x (by simp [Op.operands, Call.operands])
    rw [hx] at h1
    refine ⟨_, run_builtin (us := #[e x]) (by simp) (run_v ?_), .int _ _⟩
    show (Builtin.len_ #[t] ty #[e x]).run P w = _
    rw [h1.scalar_eq rfl]
    unfold Builtin.len_
    simp only [List.getElem?_toArray, List.getElem?_cons_zero, Sem.run_bind, run_und hu, Result.andThen_ok]
    rfl
theorem q_len_slice {t el : TypeId} {x : Operand} {b o n c : Nat} {vs : List Value} {sz : Nat} (hu : P.underlying t = some (.slice el)) (hx : ev T x = .slice (some ⟨b, o, none⟩) n c) (hR : Rd H b vs sz) : OpQ P ⟨dst, .call { callee := .builtin .len, args := #[x], argTypes := #[t] }, ty, pos, af, g⟩ T H (.int .i64 n) [] :=
  q_val (by simp) fun ρ e w hh he => by
    have h1 := he x (by simp [Op.operands, Call.operands])
    rw [hx] at h1
    have h2 : ∃ a c', e x = .slice a n c' := by
      rcases vrel_slice hh h1 hR.live with ⟨l, o', c', hl, h2, _⟩ | ⟨h3, _, _, a, h2⟩
      · exact ⟨_, _, h2⟩
      · exact ⟨_, _, by rw [h2, h3]⟩
    obtain ⟨a, c', h2⟩ := h2
    refine ⟨_, run_builtin (us := #[e x]) (by simp) (run_v ?_), .int _ _⟩
    show (Builtin.len_ #[t] ty #[e x]).run P w = _
    rw [h2]
    unfold Builtin.len_
    simp only [List.getElem?_toArray, List.getElem?_cons_zero, Sem.run_bind, run_und hu, Result.andThen_ok]
    rfl
theorem q_len_nil {t el : TypeId} {x : Operand} (hu : P.underlying t = some (.slice el)) (hx : ev T x = .slice none 0 0) : OpQ P ⟨dst, .call { callee := .builtin .len, args := #[x], argTypes := #[t] }, ty, pos, af, g⟩ T H (.int .i64 0) [] :=
  q_val (by simp) fun ρ e w hh he => by
    have h1 := he x (by simp [Op.operands, Call.operands])
    rw [hx] at h1
    refine ⟨_, run_builtin (us := #[e x]) (by simp) (run_v ?_), .int _ _⟩
    show (Builtin.len_ #[t] ty #[e x]).run P w = _
    rw [h1.scalar_eq rfl]
    unfold Builtin.len_
    simp only [List.getElem?_toArray, List.getElem?_cons_zero, Sem.run_bind, run_und hu, Result.andThen_ok]
    rfl
end
end Go.Proofs.YtnafdgcikaifmaaGreatA


/-
  The quiet operations that make blocks; slices of slices.
-/
namespace Go.Proofs.YtnafdgcikaifmaaGreatA
set_option linter.unusedVariables false
open Go Go.RowKit
/-- A new block. -/
theorem new_obj {ρ : Ren} {H : AHeap} {w w1 : World} (hh : HRel ρ H w) {o : AObj} {ob : Obj} (hw : o.wr = true) (l : Loc) (hl : l.blk = w.heap.size) (hheap : w1.heap = w.heap.push ob) (hos : w1.os = w.os) (htape : w1.tape = w.tape) (hout : w1.output = w.output)
    (hO : ∀ ρ', (∀ b, ρ b ≠ .none → ρ' b = ρ b ∨ ρ' b = .dead) → ORel ρ' l w1 o) :
    ∃ ρ', ρ' H.length = .at l ∧ (∀ b, ρ b ≠ .none → ρ' b = ρ b ∨ ρ' b = .dead) ∧ HRel ρ' (H ++ [o]) w1 ∧ Ext ρ H w ρ' w1 := by
  obtain ⟨ρ', hρ⟩ : ∃ ρ' : Ren, ρ' = fun b => if b = H.length then .at l else ρ b := ⟨_, rfl⟩
  have e1 : ρ' H.length = .at l := by rw [hρ]; exact if_pos rfl
  have e2 : ∀ b, b ≠ H.length → ρ' b = ρ b := fun b hb => by rw [hρ]; exact if_neg hb
  have hm : ∀ b, ρ b ≠ .none → ρ' b = ρ b ∨ ρ' b = .dead := fun b hb => .inl (e2 b (fun h => hb (by rw [h]; exact hh.bound _ (Nat.le_refl _))))
  have hk : ∀ k, k < w.heap.size → w1.heap[k]? = w.heap[k]? := fun k hk => by rw [hheap, Array.getElem?_push, if_neg (by omega)]
  have hsz : w1.heap.size = w.heap.size + 1 := by rw [hheap]; simp
  refine ⟨ρ', e1, hm, ⟨fun b hb => ?_, fun b m hb => ?_, fun b c m m' hne hb hc hwr => ?_, fun g vs sz hg => ?_, fun b hb => ?_⟩, ⟨hos, htape, hout, by omega, fun k hk' _ => hk k hk', fun b hb => e2 b (by omega), fun b l' hb hl' => ?_⟩⟩
  · simp only [List.length_append, List.length_cons, List.length_nil] at hb
    rw [e2 b (by omega)]; exact hh.bound b (by omega)
  · by_cases h : b = H.length
    · subst h
      rw [e1] at hb; cases hb
      exact ⟨o, by simp, by omega, hO ρ' hm⟩
    · rw [e2 b h] at hb
      obtain ⟨o', h1, h2, h3⟩ := hh.rel b m hb
      have hlt : b < H.length := (List.getElem?_eq_some_iff.1 h1).1
      exact ⟨o', by rw [List.getElem?_append_left hlt]; exact h1, by omega, h3.mono hm (hk _ h2)⟩
  · have old : ∀ b m, b ≠ H.length → ρ' b = .at m → m.blk < w.heap.size := fun b m hne hb => by
      rw [e2 b hne] at hb
      obtain ⟨o', h1, h2, h3⟩ := hh.rel b m hb
      exact h2
    by_cases h : b = H.length <;> by_cases h' : c = H.length
    · omega
    · subst h
      rw [e1] at hb; cases hb
      have := old c m' h' hc; omega
    · subst h'
      rw [e1] at hc; cases hc
      have := old b m h hb; omega
    · rw [e2 b h] at hb
      rw [e2 c h'] at hc
      refine hh.inj b c m m' hne hb hc ?_
      obtain ⟨o', h1, h2⟩ := hwr
      have hlt : b < H.length := by
        obtain ⟨o2, h3, _⟩ := hh.rel b m hb
        exact (List.getElem?_eq_some_iff.1 h3).1
      rw [List.getElem?_append_left hlt] at h1
      exact ⟨o', h1, h2⟩
  · by_cases h : g < H.length
    · rw [List.getElem?_append_left h] at hg
      obtain ⟨m, h1, h2, h3⟩ := hh.glob g vs sz hg
      exact ⟨m, by rw [e2 g (by omega)]; exact h1, h2, h3⟩
    · rw [List.getElem?_append_right (by omega)] at hg
      have := List.mem_of_getElem? hg
      simp at this
      subst this
      simp [AObj.wr] at hw
  · by_cases h : b = H.length
    · subst h; rw [e1] at hb; cases hb
    · rw [e2 b h] at hb
      have := hh.isdead b hb
      rw [List.getElem?_append_left (List.getElem?_eq_some_iff.1 this).1]; exact this
  · by_cases h : b = H.length
    · subst h; rw [e1] at hl'; cases hl'; omega
    · rw [e2 b h, hh.bound b hb] at hl'; cases hl'
theorem new_cells {ρ : Ren} {H : AHeap} {w w1 : World} (hh : HRel ρ H w) {vs : List Value} {cs : Array Value} {E : TypeId} {fr : Nat × Nat} (sz : Nat) (hc : CRel ρ vs cs 0) (hl : vs.length ≤ cs.size) (hfr : frozenFree fr ⟨w.heap.size, 0, cs.size, sz⟩)
    (hheap : w1.heap = w.heap.push (.cells cs E fr)) (hos : w1.os = w.os) (htape : w1.tape = w.tape) (hout : w1.output = w.output) :
    ∃ ρ', ρ' H.length = .at ⟨w.heap.size, 0, cs.size, sz⟩ ∧ (∀ b, ρ b ≠ .none → ρ' b = ρ b ∨ ρ' b = .dead) ∧ HRel ρ' (H ++ [.cells true vs sz]) w1 ∧ Ext ρ H w ρ' w1 :=
  new_obj hh rfl _ rfl hheap hos htape hout fun ρ' hm => ⟨rfl, cs, E, fr, by rw [hheap]; simp, by simpa using hl, Nat.le_refl _, fun i hi => (hc i hi).mono hm, fun _ => hfr⟩
theorem frozen_none (l : Loc) : frozenFree (0, 0) l := fun o _ _ h => by omega
/-- A value that may be put into cells: nothing dead in sight. -/
def Lv (H : AHeap) : Value → Prop
  | .pointer (some a) => H[a.block]? ≠ some .dead
  | .slice (some a) _ _ => H[a.block]? ≠ some .dead
  | .map (some r) => H[r]? ≠ some .dead
  | .func (.yield l) _ _ => H[l]? ≠ some .dead
  | .chan _ => False
  | _ => True
theorem vrel_cells {ρ : Ren} {H : AHeap} {w : World} (hh : HRel ρ H w) {v v' : Value} (h : VRel ρ v v') (hl : Lv H v) : LRel ρ v.cells.toList v'.cells.toList := by
  have one : ∀ {v v' : Value}, VRel ρ v v' → v.cells = #[v] → v'.cells = #[v'] → LRel ρ v.cells.toList v'.cells.toList := fun {v v'} h h1 h2 => by
    rw [h1, h2]; exact .cons h (.nil ρ)
  cases h with
  | agg h1 h2 => exact ⟨by simpa [Value.cells] using h1, fun i hi => by have := h2 i (by simpa [Value.cells] using hi); simpa [Value.cells, List.getD_eq_getElem?_getD] using this⟩
  | dead hd =>
    exfalso
    cases v with
    | pointer a => cases a with | none => exact hd | some a => exact hl (hh.isdead _ hd)
    | slice a n c => cases a with | none => exact hd | some a => exact hl (hh.isdead _ hd)
    | map a => cases a with | none => exact hd | some a => exact hl (hh.isdead _ hd)
    | func fn fs cs => cases fn <;> first | exact hd | exact hl (hh.isdead _ hd)
    | _ => exact hd
  | junk r v' => exact hl.elim
  | bool b => exact one (.bool b) rfl rfl
  | int k n => exact one (.int k n) rfl rfl
  | float k n => exact one (.float k n) rfl rfl
  | complex k n m => exact one (.complex k n m) rfl rfl
  | string s => exact one (.string s) rfl rfl
  | nilPtr => exact one .nilPtr rfl rfl
  | ptr h => exact one (.ptr h) rfl rfl
  | nilSlice => exact one .nilSlice rfl rfl
  | slice h a b c d => exact one (.slice h a b c d) rfl rfl
  | empty h => exact one (.empty h) rfl rfl
  | nilMap => exact one .nilMap rfl rfl
  | map h => exact one (.map h) rfl rfl
  | func a b c d e => exact one (.func a b c d e) rfl rfl
  | yield h => exact one (.yield h) rfl rfl
  | nilFunc => exact one .nilFunc rfl rfl
  | nilIface => exact one .nilIface rfl rfl
  | iface h => exact one (.iface h) rfl rfl
  | tuple a b => exact one (.tuple a b) rfl rfl
theorem crel_of_lrel {ρ : Ren} {vs : List Value} {cs : Array Value} (h : LRel ρ vs cs.toList) : CRel ρ vs cs 0 := fun i hi => by
  have := h.2 i hi
  simpa [List.getD_eq_getElem?_getD] using this
/-- Values without addresses, in a row. -/
def Flat (v : Value) : Prop := ∀ ρ, LRel ρ v.cells.toList v.cells.toList
theorem flat_scalar {v : Value} (h : Scalar v = true) : Flat v := fun ρ => by
  have : v.cells = #[v] := by cases v <;> first | rfl | simp [Scalar] at h
  rw [this]; exact .cons (.scalar h ρ) (.nil ρ)
theorem flat_list {l : List Value} (h : l.all Scalar = true) (ρ : Ren) : LRel ρ l l := ⟨rfl, fun i hi => by
  rw [List.getD_eq_getElem?_getD, List.getElem?_eq_getElem hi]
  exact .scalar (List.all_eq_true.1 h _ (List.getElem_mem hi)) ρ⟩
theorem flat_agg {vs : Array Value} (h : vs.toList.all Scalar = true) : Flat (.agg vs) := fun ρ => flat_list h ρ
section
variable {P : Program} {T : Nat → Value} {H : AHeap} {dst : Option Tmp} {ty : TypeId} {pos : String} {af : Array Edge} {g : Option (Nat × Bool)}
theorem q_alloc {t : TypeId} {z : Value} (sz : Nat) {vs : List Value} (hz : ∀ w, (zeroValue t).run P w = .ok z w) (hf : Flat z) (hvs : z.cells.toList = vs) :
    OpQ P ⟨dst, .alloc t, ty, pos, af, g⟩ T H (.pointer (some ⟨H.length, 0, none⟩)) [.cells true vs sz] := by
  subst hvs
  refine ⟨by simp, by simp [AObj.wr], fun ρ e w hh he => ?_⟩
  have hr : (execOp e ⟨dst, .alloc t, ty, pos, af, g⟩).run P w = .ok (.value (.pointer (some ⟨w.heap.size, 0, none⟩))) (w.alloc (.cells z.cells t)) := by
    refine run_v ?_
    show (Instr.alloc t true (.tuple #[])).run P w = _
    unfold Instr.alloc
    rw [Sem.run_bind, hz w, Result.andThen_ok]
    rfl
  rw [hr]
  obtain ⟨ρ', h1, h2, h3, h4⟩ := new_cells (w1 := w.alloc (.cells z.cells t)) hh sz (crel_of_lrel (hf ρ)) (by simp) (frozen_none _) rfl rfl rfl rfl
  exact ⟨ρ', by have := VRel.ptr (o := 0) h1; simpa using this, h3, h4⟩
theorem q_box {t : TypeId} {x : Operand} {v : Value} (sz : Nat) {vs : List Value} (hx : ev T x = v) (hl : Lv H v) (hvs : v.cells.toList = vs) :
    OpQ P ⟨dst, .box t x, ty, pos, af, g⟩ T H (.pointer (some ⟨H.length, 0, none⟩)) [.cells true vs sz] := by
  subst hvs
  refine ⟨by simp, by simp [AObj.wr], fun ρ e w hh he => ?_⟩
  have h1 := he x (by simp [Op.operands])
  rw [hx] at h1
  have hr : (execOp e ⟨dst, .box t x, ty, pos, af, g⟩).run P w = .ok (.value (.pointer (some ⟨w.heap.size, 0, none⟩))) (w.alloc (.cells (e x).cells t)) := run_v rfl
  rw [hr]
  have hc := vrel_cells hh h1 hl
  obtain ⟨ρ', h1, h2, h3, h4⟩ := new_cells (w1 := w.alloc (.cells (e x).cells t)) hh sz (crel_of_lrel hc) (by have := hc.1; simp at this ⊢; omega) (frozen_none _) rfl rfl rfl rfl
  exact ⟨ρ', by have := VRel.ptr (o := 0) h1; simpa using this, h3, h4⟩
/-! Structs, arrays and slices, part by part. -/
theorem foldl_rel {ρ : Ren} : ∀ (l l' : List Value) (k off : Nat) (cs cs' : Array Value), LRel ρ l l' → LRel ρ cs.toList cs'.toList →
    LRel ρ ((l.zipIdx k).foldl (fun cs (c, j) => cs.setIfInBounds (off + j) c) cs).toList ((l'.zipIdx k).foldl (fun cs (c, j) => cs.setIfInBounds (off + j) c) cs').toList
  | [], [], k, off, cs, cs', _, h => h
  | [], _ :: _, k, off, cs, cs', h, _ => by simp [LRel] at h
  | _ :: _, [], k, off, cs, cs', h, _ => by simp [LRel] at h
  | v :: l, v' :: l', k, off, cs, cs', h, hc => by
    have h0 : VRel ρ v v' := by simpa using h.2 0 (by simp)
    have ht : LRel ρ l l' := ⟨by simpa using h.1, fun i hi => by simpa using h.2 (i + 1) (by simpa using hi)⟩
    refine foldl_rel l l' (k + 1) off _ _ ht ?_
    rw [Array.toList_setIfInBounds, Array.toList_setIfInBounds]
    exact hc.set _ h0
theorem fill_rel {ρ : Ren} (place : Nat → Option (Nat × Nat)) : ∀ (ps ps' : List (Nat × Value)) (cs cs' ds : Array Value), ps.length = ps'.length → (∀ i, i < ps.length → (ps.getD i default).1 = (ps'.getD i default).1 ∧ LRel ρ (ps.getD i default).2.cells.toList (ps'.getD i default).2.cells.toList) →
    LRel ρ cs.toList cs'.toList → Instr.fill place cs ps = some ds → ∃ ds', Instr.fill place cs' ps' = some ds' ∧ LRel ρ ds.toList ds'.toList
  | [], [], cs, cs', ds, _, _, hc, h => by simp only [Instr.fill, Option.some.injEq] at h; subst h; exact ⟨cs', rfl, hc⟩
  | [], _ :: _, _, _, _, h, _, _, _ => by simp at h
  | _ :: _, [], _, _, _, h, _, _, _ => by simp at h
  | (i, v) :: ps, (i', v') :: ps', cs, cs', ds, hl, hp, hc, h => by
    have h0 := hp 0 (by simp)
    simp only [List.getD_cons_zero] at h0
    obtain ⟨rfl, hv⟩ := h0
    have hs : v.cells.size = v'.cells.size := by simpa using hv.1
    have hcs : cs.size = cs'.size := by simpa using hc.1
    unfold Instr.fill at h ⊢
    cases hpl : place i with
    | none => rw [hpl] at h; simp at h
    | some p =>
      obtain ⟨off, size⟩ := p
      rw [hpl] at h
      simp only at h ⊢
      split at h
      · cases h
      · rename_i hn
        rw [if_neg (by rw [← hs, ← hcs]; exact hn)]
        refine fill_rel place ps ps' _ _ ds (by simpa using hl) (fun j hj => by simpa using hp (j + 1) (by simpa using hj)) ?_ h
        have := foldl_rel v.cells.toList v'.cells.toList 0 off cs cs' hv hc
        rw [← Array.foldl_toList, ← Array.foldl_toList, Array.toList_zipIdx, Array.toList_zipIdx]
        exact this
abbrev pmap (e : Operand → Value) (parts : Array (Nat × Operand)) : Array (Nat × Value) := parts.map fun (p : Nat × Operand) => match p with | (i, x) => (i, e x)
theorem parts_get {e : Operand → Value} (parts : Array (Nat × Operand)) (i : Nat) (hi : i < parts.size) : ((pmap e parts).toList.getD i default) = (parts[i].1, e parts[i].2) := by
  simp [List.getD_eq_getElem?_getD, hi]
theorem build_parts {ρ : Ren} {w : World} {e : Operand → Value} (hh : HRel ρ H w) (parts : Array (Nat × Operand)) (he : ∀ x ∈ (parts.toList.map (·.2)), VRel ρ (ev T x) (e x)) (hl : ∀ x ∈ (parts.toList.map (·.2)), Lv H (ev T x)) :
    ((pmap (ev T) parts).toList).length = ((pmap e parts).toList).length ∧ ∀ i, i < ((pmap (ev T) parts).toList).length →
      ((pmap (ev T) parts).toList.getD i default).1 = ((pmap e parts).toList.getD i default).1 ∧
      LRel ρ ((pmap (ev T) parts).toList.getD i default).2.cells.toList ((pmap e parts).toList.getD i default).2.cells.toList := by
  refine ⟨by simp, fun i hi => ?_⟩
  have hi' : i < parts.size := by simpa using hi
  rw [parts_get parts i hi', parts_get parts i hi']
  have hm : parts[i].2 ∈ parts.toList.map (·.2) := List.mem_map.2 ⟨parts[i], by simp, rfl⟩
  exact ⟨rfl, vrel_cells hh (he _ hm) (hl _ hm)⟩
theorem run_places {fs : Array Field} {pl : Array (Nat × Nat)} (w : World) (h : fs.toList.map (fun f => (f.offset, (P.info? f.type).map (·.size))) = pl.toList.map (fun p => (p.1, some p.2))) :
    (fs.mapM fun f => (do pure (f.offset, ← sizeOf f.type) : Sem (Nat × Nat))).run P w = .ok pl w := by
  have key : ∀ (l : List Field) (m : List (Nat × Nat)), l.map (fun f => (f.offset, (P.info? f.type).map (·.size))) = m.map (fun p => (p.1, some p.2)) → (l.mapM fun f => (do pure (f.offset, ← sizeOf f.type) : Sem (Nat × Nat))).run P w = .ok m w := by
    intro l
    induction l with
    | nil => intro m hm; cases m with | nil => simp | cons _ _ => simp at hm
    | cons f l ih =>
      intro m hm
      cases m with
      | nil => simp at hm
      | cons p m =>
        simp only [List.map_cons, List.cons.injEq, Prod.mk.injEq] at hm
        obtain ⟨⟨h1, h2⟩, h3⟩ := hm
        have h4 : (sizeOf f.type).run P w = .ok p.2 w := by
          unfold sizeOf typeInfo
          cases hi : P.info? f.type with
          | none => rw [hi] at h2; simp at h2
          | some i =>
            rw [hi] at h2
            simp only [Option.map_some, Option.some.injEq] at h2
            simp [program, Sem.run_bind, Sem.run, hi, h2]
        rw [List.mapM_cons]
        simp only [Sem.run_bind, h4, Result.andThen_ok, Sem.run_pure, ih m h3]
        rw [h1]
  have := key fs.toList pl.toList h
  rw [← Array.toArray_toList (xs := fs), List.mapM_toArray, Sem.run_map, this]
  simp
theorem q_build {t : TypeId} {parts : Array (Nat × Operand)} {fs : Array Field} {pl : Array (Nat × Nat)} {z : Value} {ds : Array Value} (hu : P.underlying t = some (.struct fs)) (hz : ∀ w, (zeroValue t).run P w = .ok z w) (hf : Flat z)
    (hpl : fs.toList.map (fun f => (f.offset, (P.info? f.type).map (·.size))) = pl.toList.map (fun p => (p.1, some p.2))) (hl : ∀ x ∈ (parts.toList.map (·.2)), Lv H (ev T x))
    (hds : Instr.fill (pl[·]?) z.cells (pmap (ev T) parts).toList = some ds) : OpQ P ⟨dst, .build t parts, ty, pos, af, g⟩ T H (.agg ds) [] :=
  q_val (by simp) fun ρ e w hh he => by
    obtain ⟨h1, h2⟩ := build_parts (T := T) hh parts (fun x hx => he x (by simpa [Op.operands] using hx)) hl
    obtain ⟨ds', h3, h4⟩ := fill_rel (ρ := ρ) (pl[·]?) _ _ z.cells z.cells ds h1 h2 (hf ρ) hds
    refine ⟨.agg ds', run_v ?_, .agg (by simpa using h4.1) fun i hi => by have := h4.2 i (by simpa using hi); simpa [List.getD_eq_getElem?_getD] using this⟩
    show (Instr.build t (pmap e parts)).run P w = _
    unfold Instr.build
    simp only [Sem.run_bind, Sem.run_map, hz w, Result.andThen_ok, run_und hu]
    rw [run_places w hpl]
    simp only [Result.andThen_ok, h3, Sem.run_pure]
theorem q_buildSlice {t el : TypeId} {len : Nat} {parts : Array (Nat × Operand)} {n : Nat} {z : Value} {ds : Array Value} {vs : List Value} (hu : P.underlying t = some (.slice el)) (hs : ∀ w, (sizeOf el).run P w = .ok n w) (hz : ∀ w, (zeroValue el).run P w = .ok z w) (hf : z.cells.toList.all Scalar = true) (hzn : 0 < z.cells.size)
    (hlim : len * n ≤ 16777216) (hl : ∀ x ∈ (parts.toList.map (·.2)), Lv H (ev T x))
    (hds : Instr.fill (fun i => some (i * n, n)) ((Array.range (len * n)).map (z.cells[· % z.cells.size]!)) (pmap (ev T) parts).toList = some ds) (hvs : ds.toList = vs) (hnl : ds.size = len * n) :
    OpQ P ⟨dst, .buildSlice t len parts, ty, pos, af, g⟩ T H (.slice (some ⟨H.length, 0, none⟩) len len) [.cells true vs n] := by
  subst hvs
  refine ⟨by simp, by simp [AObj.wr], fun ρ e w hh he => ?_⟩
  obtain ⟨h1, h2⟩ := build_parts (T := T) hh parts (fun x hx => he x (by simpa [Op.operands] using hx)) hl
  have hzr : LRel ρ ((Array.range (len * n)).map (z.cells[· % z.cells.size]!)).toList ((Array.range (len * n)).map (z.cells[· % z.cells.size]!)).toList := by
    refine flat_list ?_ ρ
    rw [List.all_eq_true]
    intro x hx
    simp only [Array.toList_map, List.mem_map] at hx
    obtain ⟨i, _, rfl⟩ := hx
    have hlt : i % z.cells.size < z.cells.size := Nat.mod_lt _ hzn
    rw [getElem!_pos z.cells _ hlt]
    exact List.all_eq_true.1 hf _ (by simp)
  obtain ⟨ds', h3, h4⟩ := fill_rel (ρ := ρ) (fun i => some (i * n, n)) _ _ _ _ ds h1 h2 hzr hds
  have hr : (execOp e ⟨dst, .buildSlice t len parts, ty, pos, af, g⟩).run P w = .ok (.value (.slice (some ⟨w.heap.size, 0, none⟩) len len)) (w.alloc (.cells ds' el)) := by
    refine run_v ?_
    show (Instr.buildSlice t len (pmap e parts)).run P w = _
    unfold Instr.buildSlice
    simp only [Sem.run_bind, run_und hu, Result.andThen_ok, hs w, if_neg (show ¬ len * n > 2 ^ 24 by omega)]
    by_cases h0 : len * n = 0
    · rw [h0] at h3 ⊢
      rw [if_pos rfl]
      have h5 : Instr.fill (fun i => some (i * n, n)) (Array.map (fun x => (#[] : Array Value)[x % (#[] : Array Value).size]!) (Array.range 0)) (pmap e parts).toList = some ds' := by
        have : (Array.map (fun x => (#[] : Array Value)[x % (#[] : Array Value).size]!) (Array.range 0)) = ((Array.range 0).map (z.cells[· % z.cells.size]!)) := by simp
        rw [this]; exact h3
      show (match Instr.fill (fun i => some (i * n, n)) (Array.map (fun x => (#[] : Array Value)[x % (#[] : Array Value).size]!) (Array.range 0)) (pmap e parts).toList with | some cells => (do pure (.slice (some (← newRow el cells)) len len) : Sem Value) | _ => stuck "buildSlice: a part of the wrong size").run P w = _
      rw [h5]
      rfl
    · rw [if_neg h0]
      simp only [Sem.run_bind, hz w, Result.andThen_ok, Sem.run_pure]
      show (match Instr.fill (fun i => some (i * n, n)) ((Array.range (len * n)).map (z.cells[· % z.cells.size]!)) (pmap e parts).toList with | some cells => (do pure (.slice (some (← newRow el cells)) len len) : Sem Value) | _ => stuck "buildSlice: a part of the wrong size").run P w = _
      rw [h3]
      rfl
  rw [hr]
  have hsz : ds.size = ds'.size := by simpa using h4.1
  obtain ⟨ρ', k1, k2, k3, k4⟩ := new_cells (w1 := w.alloc (.cells ds' el)) hh n (crel_of_lrel h4) (by simp; omega) (frozen_none _) rfl rfl rfl rfl
  exact ⟨ρ', .slice k1 (Nat.le_refl _) (Nat.le_refl _) (.inl (by simp)) (by simp; omega), k3, k4⟩
theorem run_fname {fn : Fn} {fi ca : Array Operand} {e : Operand → Value} (w : World) : (execOp e ⟨dst, .makeFunc fn fi ca, ty, pos, af, g⟩).run P w = .ok (.value (.func fn (fi.map e) (ca.map e))) w := rfl
theorem q_makeFunc {f : FuncId} {ca : Array Operand} {vs : Array Value} (hvs : ca.map (ev T) = vs) : OpQ P ⟨dst, .makeFunc (.func f) #[] ca, ty, pos, af, g⟩ T H (.func (.func f) #[] vs) [] :=
  q_val (by simp) fun ρ e w hh he => by
    subst hvs
    refine ⟨_, run_fname w, .func trivial (by simp) (fun i hi => by simp at hi) (by simp) fun i hi => ?_⟩
    have hi' : i < ca.size := by simpa using hi
    have := he ca[i] (by simp [Op.operands])
    simpa [hi'] using this
theorem q_nilCheck {x : Operand} {b o : Nat} (hx : ev T x = .pointer (some ⟨b, o, none⟩)) (hl : H[b]? ≠ some .dead) : OpQ P ⟨dst, .nilCheck x, ty, pos, af, g⟩ T H (.pointer (some ⟨b, o, none⟩)) [] :=
  q_val (by simp) fun ρ e w hh he => by
    have h1 := he x (by simp [Op.operands])
    rw [hx] at h1
    obtain ⟨l, hl', h2⟩ := vrel_ptr hh h1 hl
    refine ⟨_, ?_, .ptr hl'⟩
    show (match e x with | .pointer none | .nilIface | .nilFunc => _ | .func (.method name) first captured => _ | x => (pure (.value x) : Sem Next)).run P w = _
    rw [h2]
    rfl
theorem vrel_func {ρ : Ren} {f : FuncId} {fs cs : Array Value} {v' : Value} (h : VRel ρ (.func (.func f) fs cs) v') : ∃ fs' cs', v' = .func (.func f) fs' cs' ∧ fs.size = fs'.size ∧ (∀ i, i < fs.size → VRel ρ (fs.getD i undef) (fs'.getD i undef)) ∧ cs.size = cs'.size ∧ (∀ i, i < cs.size → VRel ρ (cs.getD i undef) (cs'.getD i undef)) := by
  cases h with
  | func _ h1 h2 h3 h4 => exact ⟨_, _, rfl, h1, h2, h3, h4⟩
  | dead h => exact h.elim
/-! Slices of slices. -/
end
end Go.Proofs.YtnafdgcikaifmaaGreatA


/-
  Stores.
-/
namespace Go.Proofs.YtnafdgcikaifmaaGreatA
set_option linter.unusedVariables false
open Go Go.RowKit
def splice (vs : List Value) (o : Nat) (us : List Value) : List Value := vs.take o ++ us ++ vs.drop (o + us.length)
theorem splice_length {vs us : List Value} {o : Nat} (h : o + us.length ≤ vs.length) : (splice vs o us).length = vs.length := by
  simp [splice]; omega
theorem splice_get {vs us : List Value} {o i : Nat} (h : o + us.length ≤ vs.length) : (splice vs o us).getD i undef = if o ≤ i ∧ i < o + us.length then us.getD (i - o) undef else vs.getD i undef := by
  unfold splice
  simp only [List.getD_eq_getElem?_getD]
  by_cases h1 : i < o
  · rw [if_neg (by omega), List.append_assoc, List.getElem?_append_left (by simp; omega), List.getElem?_take, if_pos h1]
  · by_cases h2 : i < o + us.length
    · rw [if_pos ⟨by omega, h2⟩, List.getElem?_append_left (by simp; omega), List.getElem?_append_right (by simp; omega)]
      simp [show min o vs.length = o by omega]
    · rw [if_neg (by omega), List.getElem?_append_right (by simp; omega)]
      simp only [List.length_append, List.length_take, List.getElem?_drop]
      congr 2
      omega
theorem splice_one {vs : List Value} {o : Nat} {v : Value} (h : o < vs.length) : splice vs o [v] = vs.set o v := by
  unfold splice
  rw [List.set_eq_take_append_cons_drop, if_pos h]
  simp
/-- A value for one cell. -/
def Lc (H : AHeap) (v : Value) : Prop := Lv H v ∧ v.oneCell' = true
theorem vrel_one {ρ : Ren} {H : AHeap} {w : World} (hh : HRel ρ H w) {v v' : Value} (h : VRel ρ v v') (hl : Lc H v) : v'.oneCell' = true := by
  have h1 := vrel_cells hh h hl.1
  cases h with
  | agg => exact absurd hl.2 (by simp [Value.oneCell'])
  | tuple => exact absurd hl.2 (by simp [Value.oneCell'])
  | junk => exact hl.1.elim
  | dead hd =>
    obtain ⟨hl, _⟩ := hl
    exfalso
    cases v with
    | pointer a => cases a with | none => exact hd | some a => exact hl (hh.isdead _ hd)
    | slice a n c => cases a with | none => exact hd | some a => exact hl (hh.isdead _ hd)
    | map a => cases a with | none => exact hd | some a => exact hl (hh.isdead _ hd)
    | func fn fs cs => cases fn <;> first | exact hd | exact hl (hh.isdead _ hd)
    | _ => exact hd
  | _ => rfl
theorem heap_setCells (b : Nat) : ∀ (us : List Value) (o : Nat) (w : World) (cs : Array Value) (E : TypeId) (fr : Nat × Nat), w.heap[b]? = some (.cells cs E fr) → o + us.length ≤ cs.size →
    ∃ cs', (w.setCells b o us).heap[b]? = some (.cells cs' E fr) ∧ cs'.size = cs.size ∧ ∀ i, cs'.getD i undef = if o ≤ i ∧ i < o + us.length then us.getD (i - o) undef else cs.getD i undef
  | [], o, w, cs, E, fr, h, _ => ⟨cs, h, rfl, fun i => by rw [if_neg (by simp)]⟩
  | v :: us, o, w, cs, E, fr, h, hl => by
    have h1 : (w.setCell ⟨b, o, none⟩ v).heap[b]? = some (.cells (cs.setIfInBounds o v) E fr) := by
      show (w.heap.modify b _)[b]? = _
      rw [Array.getElem?_modify, if_pos rfl, h]; rfl
    obtain ⟨cs', h2, h3, h4⟩ := heap_setCells b us (o + 1) _ _ E fr h1 (by simp at hl ⊢; omega)
    refine ⟨cs', h2, by simpa using h3, fun i => ?_⟩
    rw [h4 i]
    simp only [List.length_cons] at hl ⊢
    by_cases e1 : o + 1 ≤ i ∧ i < o + 1 + us.length
    · rw [if_pos e1, if_pos (by omega), show i - o = (i - (o + 1)) + 1 by omega]
      simp
    · rw [if_neg e1]
      by_cases e2 : i = o
      · subst e2
        rw [if_pos (by omega)]
        have : i < cs.size := by omega
        simp [this]
      · rw [if_neg (by omega)]
        simp [Array.getElem?_setIfInBounds, Ne.symm e2]
theorem other_setCells (b k : Nat) (hk : k ≠ b) : ∀ (us : List Value) (o : Nat) (w : World), (w.setCells b o us).heap[k]? = w.heap[k]?
  | [], _, _ => rfl
  | v :: us, o, w => by
    rw [World.setCells, other_setCells b k hk us, Below.heap_setCell _ _ _ _ hk]
theorem size_setCells (b : Nat) : ∀ (us : List Value) (o : Nat) (w : World), (w.setCells b o us).heap.size = w.heap.size ∧ (w.setCells b o us).os = w.os ∧ (w.setCells b o us).tape = w.tape ∧ (w.setCells b o us).output = w.output
  | [], _, _ => ⟨rfl, rfl, rfl, rfl⟩
  | v :: us, o, w => by
    rw [World.setCells]
    obtain ⟨h1, h2, h3, h4⟩ := size_setCells b us (o + 1) (w.setCell ⟨b, o, none⟩ v)
    exact ⟨by rw [h1]; simp [World.setCell], h2, h3, h4⟩
/-- A writable block, written. -/
theorem store_rel {ρ : Ren} {H : AHeap} {w : World} (hh : HRel ρ H w) {b o : Nat} {l : Loc} {vs us us' : List Value} {sz : Nat} (hl : ρ b = .at l) (hH : H[b]? = some (.cells true vs sz)) (hu : LRel ρ us us') (ho : o + us.length ≤ vs.length) (n : Nat) :
    HRel ρ (H.set b (.cells true (splice vs o us) sz)) (w.setCells l.blk (l.base + o) us') ∧ Fr n ρ H w ρ (H.set b (.cells true (splice vs o us) sz)) (w.setCells l.blk (l.base + o) us') := by
  have hb : b < H.length := (List.getElem?_eq_some_iff.1 hH).1
  obtain ⟨o1, q1, q2, q3⟩ := hh.rel b l hl
  rw [hH] at q1; cases q1
  obtain ⟨q4, cs, E, fr, q5, q6, q7, q8, q9⟩ := q3
  have hul : us'.length = us.length := hu.1.symm
  obtain ⟨cs', p1, p2, p3⟩ := heap_setCells l.blk us' (l.base + o) w cs E fr q5 (by omega)
  obtain ⟨s1, s2, s3, s4⟩ := size_setCells l.blk us' (l.base + o) w
  have hwr : wr H b := ⟨_, hH, rfl⟩
  have hother : ∀ c m, c ≠ b → ρ c = .at m → (w.setCells l.blk (l.base + o) us').heap[m.blk]? = w.heap[m.blk]? := fun c m hc hm => other_setCells _ _ (fun e => hh.inj b c l m (Ne.symm hc) hl hm hwr e.symm) _ _ _
  have hwr' : ∀ c, wr (H.set b (.cells true (splice vs o us) sz)) c → wr H c := fun c ⟨o2, h1, h2⟩ => by
    by_cases e1 : c = b
    · subst e1; exact hwr
    · rw [List.getElem?_set, if_neg (Ne.symm e1)] at h1; exact ⟨o2, h1, h2⟩
  refine ⟨⟨fun c hc => hh.bound c (by simpa using hc), fun c m hm => ?_, fun c d m m' hne hc hd hw => hh.inj c d m m' hne hc hd (hwr' c hw), fun g vs' sz' hg => ?_, fun c hc => ?_⟩,
    ⟨s2, s3, s4, by omega, fun k hk ho' => other_setCells _ _ (fun e => ho' ⟨b, l, hl, e.symm, hwr⟩) _ _ _, fun c _ => .inl rfl, fun c m hm hw => .inl ⟨c, m, hm, rfl, hwr' c hw⟩⟩⟩
  · by_cases e1 : c = b
    · subst e1
      rw [hl] at hm; cases hm
      refine ⟨.cells true (splice vs o us) sz, by rw [List.getElem?_set, if_pos rfl, if_pos hb], by omega, q4, cs', E, fr, p1, by rw [splice_length ho]; exact q6, by omega, fun i hi => ?_, q9⟩
      rw [splice_length ho] at hi
      rw [splice_get ho, p3]
      by_cases e2 : o ≤ i ∧ i < o + us.length
      · rw [if_pos e2, if_pos (by omega)]
        have := hu.2 (i - o) (by omega)
        rwa [show l.base + i - (l.base + o) = i - o by omega]
      · rw [if_neg e2, if_neg (by omega)]
        exact q8 i hi
    · obtain ⟨o2, r1, r2, r3⟩ := hh.rel c m hm
      exact ⟨o2, by rw [List.getElem?_set, if_neg (Ne.symm e1)]; exact r1, by omega, r3.mono (fun _ _ => .inl rfl) (hother c m e1 hm)⟩
  · by_cases e1 : g = b
    · subst e1
      rw [List.getElem?_set, if_pos rfl, if_pos hb] at hg; cases hg
    · rw [List.getElem?_set, if_neg (Ne.symm e1)] at hg; exact hh.glob g vs' sz' hg
  · have := hh.isdead c hc
    rw [List.getElem?_set]
    by_cases e1 : b = c
    · subst e1; rw [hH] at this; cases this
    · rw [if_neg e1]; exact this
section
variable {F : Fence} {n : Nat} {P : Program} {N0 : AHeap} {s : ASt} {dst : Option Tmp} {ty : TypeId} {pos : String} {af : Array Edge} {g : Option (Nat × Bool)}
theorem DRel.keep {ρ : Ren} {H H' : AHeap} {b : Nat} (hk : ∀ c, c ≠ b → H'[c]? = H[c]?) (hm : H[b]? ≠ some .mark) : ∀ (D : List Nat) (ds : List Deferred), DRel ρ H D ds → DRel ρ H' D ds
  | [], [], _ => trivial
  | [], _ :: _, h => h.elim
  | _ :: _, [], h => h.elim
  | d :: D, x :: ds, ⟨⟨l, h1, h2, h3⟩, h4⟩ => ⟨⟨l, h1, by rw [hk d (fun e => hm (e ▸ h2))]; exact h2, h3⟩, DRel.keep hk hm D ds h4⟩
theorem run_storeAt {t : TypeId} {m : Nat} (hs : ∀ w, (sizeOf t).run P w = .ok m w) {w : World} {a : Addr} {v : Value} (hv : v.cells.size = m) {w' : World} (h : (storeCells a v.cells.toList).run P w = .ok () w') : (Instr.storeAt t (.pointer (some a)) v).run P w = .ok () w' := by
  unfold Instr.storeAt
  show (Sem.run P (do storeVar t a v) w) = _
  unfold storeVar
  rw [Sem.run_bind, hs w, Result.andThen_ok, if_neg (by simp [hv])]
  exact h
theorem o_store {K : ASt → Prop} (hF : Wd F) {t : TypeId} {x y : Operand} {b o m : Nat} {vs us : List Value} {sz : Nat} {v : Value} (hs : ∀ w, (sizeOf t).run P w = .ok m w) (hx : ev s.T x = .pointer (some ⟨b, o, none⟩)) (hy : ev s.T y = v) (hH : s.H[b]? = some (.cells true vs sz))
    (hus : v.cells.toList = us) (hm : us.length = m) (hl : Lv s.H v) (hc : ∀ u ∈ us, Lc s.H u) (ho : o + us.length ≤ vs.length) (hcx : cOk s.H x) (hcy : cOk s.H y) (hd : dOk s.nt dst)
    (hk : K (ASt.put { s with H := s.H.set b (.cells true (splice vs o us) sz) } dst undef)) : OpOk F n P N0 ⟨dst, .store t x y, ty, pos, af, g⟩ K s := by
  subst hus
  intro ρ a w hs'
  have hh := hs'.heap
  have h1 := ev_rel hh hs'.tmps hcx
  have h2 := ev_rel hh hs'.tmps hcy
  rw [hx] at h1
  rw [hy] at h2
  obtain ⟨l, hl', h3⟩ := vrel_ptr hh h1 (by rw [hH]; simp)
  have hcs := vrel_cells hh h2 hl
  obtain ⟨o1, q1, q2, q3⟩ := hh.rel b l hl'
  rw [hH] at q1; cases q1
  obtain ⟨q4, cs, E, fr, q5, q6, q7, q8, q9⟩ := q3
  have hlen : (a.eval y).cells.toList.length = v.cells.toList.length := hcs.1.symm
  have hrun : (storeCells ⟨l.blk, l.base + o, none⟩ (a.eval y).cells.toList).run P w = .ok () (w.setCells l.blk (l.base + o) (a.eval y).cells.toList) := by
    have := run_storeCells_cells (P := P) l.blk (l.base + o) (a.eval y).cells.toList 0 w (fun j hj => by
      rw [cell_at q5 (by omega)]; rfl) (fun j hj => by
      have h4 := q9 rfl (l.base + o + j) (by omega) (by omega)
      cases h5 : w.frozen? ⟨l.blk, l.base + o + 0 + j, none⟩ with
      | false => rfl
      | true =>
        unfold World.frozen? at h5
        rw [q5] at h5
        obtain ⟨lo, hi⟩ := fr
        simp only [Bool.and_eq_true, decide_eq_true_eq] at h5
        exact absurd ⟨by omega, by omega⟩ h4) (fun u hu => by
      obtain ⟨i, hi, rfl⟩ := List.mem_iff_getElem.1 hu
      have hi' : i < v.cells.toList.length := by omega
      have h4 := hcs.2 i hi'
      rw [List.getD_eq_getElem?_getD, List.getD_eq_getElem?_getD, List.getElem?_eq_getElem hi', List.getElem?_eq_getElem hi] at h4
      exact vrel_one hh h4 (hc _ (List.getElem_mem hi')))
    simpa using this
  obtain ⟨p1, p2⟩ := store_rel hh hl' hH hcs ho N0.length
  refine ⟨fun f _ => hF.fn f, ?_⟩
  rw [Oper.semAt_eq _ _ _ (by simp)]
  have hr : (execOp a.eval ⟨dst, .store t x y, ty, pos, af, g⟩).run P w = .ok .skip (w.setCells l.blk (l.base + o) (a.eval y).cells.toList) := by
    show (Sem.run P (do Instr.storeAt t (a.eval x) (a.eval y); pure Next.skip) w) = _
    rw [Sem.run_bind, h3, run_storeAt hs (by simp at hlen hm; omega) hrun]
    rfl
  rw [hr]
  refine ⟨_, ρ, hk, ?_, ?_⟩
  · refine SRel.put (s := { s with H := s.H.set b (.cells true (splice vs o v.cells.toList) sz) }) ⟨p1, hs'.tmps, ?_, by simpa using hs'.len, hs'.entry⟩ hd (.undef ρ)
    exact DRel.keep (b := b) (fun c hc => by rw [List.getElem?_set, if_neg (Ne.symm hc)]) (by rw [hH]; simp) _ _ hs'.defers
  · rw [ASt.put_H]; exact p2
/-- A store of one cell. -/
theorem o_store1 {K : ASt → Prop} (hF : Wd F) {t : TypeId} {x y : Operand} {b o : Nat} {vs : List Value} {sz : Nat} {v : Value} (hs : ∀ w, (sizeOf t).run P w = .ok 1 w) (hx : ev s.T x = .pointer (some ⟨b, o, none⟩)) (hy : ev s.T y = v) (hH : s.H[b]? = some (.cells true vs sz))
    (hc : Lc s.H v) (ho : o < vs.length) (hcx : cOk s.H x) (hcy : cOk s.H y) (hk : K { s with H := s.H.set b (.cells true (vs.set o v) sz) }) : OpOk F n P N0 ⟨none, .store t x y, ty, pos, af, g⟩ K s := by
  have hv : v.cells.toList = [v] := by
    obtain ⟨_, h⟩ := hc
    cases v <;> first | rfl | simp [Value.oneCell'] at h
  refine o_store hF hs hx hy hH hv rfl hc.1 (fun u hu => by rw [List.mem_singleton.1 hu]; exact hc) (by simp; omega) hcx hcy trivial ?_
  rw [splice_one ho]; exact hk
end
end Go.Proofs.YtnafdgcikaifmaaGreatA


/-
  States that say less: slots of which nothing is known, blocks dropped, blocks named anew.
-/
namespace Go.Proofs.YtnafdgcikaifmaaGreatA
set_option linter.unusedVariables false
open Go Go.RowKit
/-- Whatever the state s stands for, s2 stands for it, too. -/
def Wk (N0 : AHeap) (s s2 : ASt) : Prop := ∀ ρ a w, SRel N0 ρ s a w → ∃ ρ2, SRel N0 ρ2 s2 a w ∧ Fr N0.length ρ s.H w ρ2 s2.H w
theorem Wk.refl (N0 : AHeap) (s : ASt) : Wk N0 s s := fun ρ a w h => ⟨ρ, h, .refl _ _ _ _⟩
theorem Wk.trans {N0 : AHeap} {s s1 s2 : ASt} (h : Wk N0 s s1) (k : Wk N0 s1 s2) : Wk N0 s s2 := fun ρ a w hs => by
  obtain ⟨ρ1, h1, h2⟩ := h ρ a w hs
  obtain ⟨ρ2, h3, h4⟩ := k ρ1 a w h1
  exact ⟨ρ2, h3, h2.trans h4⟩
def comp (φ : Nat → Option Nat) (ρ : Ren) : Ren := fun b => match φ b with | some c => ρ c | none => .none
theorem comp_some {φ : Nat → Option Nat} {b c : Nat} (h : φ b = some c) (ρ : Ren) : comp φ ρ b = ρ c := by unfold comp; rw [h]
theorem comp_none {φ : Nat → Option Nat} {b : Nat} (h : φ b = none) (ρ : Ren) : comp φ ρ b = .none := by unfold comp; rw [h]
theorem comp_inv {φ : Nat → Option Nat} {ρ : Ren} {b : Nat} (h : comp φ ρ b ≠ .none) : ∃ c, φ b = some c ∧ comp φ ρ b = ρ c := by
  cases hb : φ b with
  | none => exact absurd (comp_none hb ρ) h
  | some c => exact ⟨c, rfl, comp_some hb ρ⟩
def VSub (φ : Nat → Option Nat) (v2 v : Value) : Prop := ∀ ρ v', VRel ρ v v' → VRel (comp φ ρ) v2 v'
section
variable {φ : Nat → Option Nat}
theorem VSub.junk (v : Value) : VSub φ junk v := fun ρ v' _ => .junk _ _
theorem VSub.scalar {v : Value} (h : Scalar v = true) : VSub φ v v := fun ρ v' hv => by rw [hv.scalar_eq h]; exact .scalar h _
theorem VSub.undef : VSub φ undef undef := fun ρ v' h => by rw [vrel_undef h]; exact .undef _
theorem VSub.ptr {b2 b o : Nat} (h : φ b2 = some b) : VSub φ (.pointer (some ⟨b2, o, none⟩)) (.pointer (some ⟨b, o, none⟩)) := fun ρ v' hv => by
  cases hv with
  | ptr hl => exact .ptr ((comp_some h ρ).trans hl)
  | dead hd => exact .dead ((comp_some h ρ).trans hd)
theorem VSub.slice {b2 b o n c : Nat} (h : φ b2 = some b) : VSub φ (.slice (some ⟨b2, o, none⟩) n c) (.slice (some ⟨b, o, none⟩) n c) := fun ρ v' hv => by
  cases hv with
  | slice hl h1 h2 h3 h4 => exact .slice ((comp_some h ρ).trans hl) h1 h2 h3 h4
  | empty hl => exact .empty ((comp_some h ρ).trans hl)
  | dead hd => exact .dead ((comp_some h ρ).trans hd)
theorem VSub.map {b2 b : Nat} (h : φ b2 = some b) : VSub φ (.map (some b2)) (.map (some b)) := fun ρ v' hv => by
  cases hv with
  | map hl => exact .map ((comp_some h ρ).trans hl)
  | dead hd => exact .dead ((comp_some h ρ).trans hd)
theorem VSub.yield {b2 b : Nat} (h : φ b2 = some b) : VSub φ (.func (.yield b2) #[] #[]) (.func (.yield b) #[] #[]) := fun ρ v' hv => by
  cases hv with
  | yield hl => exact .yield ((comp_some h ρ).trans hl)
  | func hf => exact hf.elim
  | dead hd => exact .dead ((comp_some h ρ).trans hd)
theorem VSub.agg {vs2 vs : Array Value} (hs : vs2.size = vs.size) (h : ∀ i, i < vs.size → VSub φ (vs2.getD i Go.undef) (vs.getD i Go.undef)) : VSub φ (.agg vs2) (.agg vs) := fun ρ v' hv => by
  cases hv with
  | agg h1 h2 => exact .agg (hs.trans h1) fun i hi => h i (by omega) ρ _ (h2 i (by omega))
  | dead hd => exact hd.elim
theorem VSub.tuple {vs2 vs : Array Value} (hs : vs2.size = vs.size) (h : ∀ i, i < vs.size → VSub φ (vs2.getD i Go.undef) (vs.getD i Go.undef)) : VSub φ (.tuple vs2) (.tuple vs) := fun ρ v' hv => by
  cases hv with
  | tuple h1 h2 => exact .tuple (hs.trans h1) fun i hi => h i (by omega) ρ _ (h2 i (by omega))
  | dead hd => exact hd.elim
theorem VSub.func {f : FuncId} {cs2 cs : Array Value} (hs : cs2.size = cs.size) (h : ∀ i, i < cs.size → VSub φ (cs2.getD i Go.undef) (cs.getD i Go.undef)) : VSub φ (.func (.func f) #[] cs2) (.func (.func f) #[] cs) := fun ρ v' hv => by
  obtain ⟨fs', cs', rfl, h1, h2, h3, h4⟩ := vrel_func hv
  exact .func trivial h1 (fun i hi => by simp at hi) (hs.trans h3) fun i hi => h i (by omega) ρ _ (h4 i (by omega))
/-- Row by row. -/
def LSub (φ : Nat → Option Nat) : List Value → List Value → Prop
  | [], [] => True
  | v2 :: l2, v :: l => VSub φ v2 v ∧ LSub φ l2 l
  | _, _ => False
theorem LSub.length : ∀ {l2 l : List Value}, LSub φ l2 l → l2.length = l.length
  | [], [], _ => rfl
  | [], _ :: _, h => h.elim
  | _ :: _, [], h => h.elim
  | v2 :: l2, v :: l, h => by simp [LSub.length h.2]
theorem LSub.at : ∀ {l2 l : List Value}, LSub φ l2 l → ∀ i, VSub φ (l2.getD i Go.undef) (l.getD i Go.undef)
  | [], [], _, i => by simpa using VSub.undef
  | [], _ :: _, h, _ => h.elim
  | _ :: _, [], h, _ => h.elim
  | v2 :: l2, v :: l, h, i => by
    cases i with
    | zero => simpa using h.1
    | succ i => simpa using LSub.at h.2 i
structure OSub (φ : Nat → Option Nat) (o2 o : AObj) : Prop where
  wr : o2.wr = true → o.wr = true
  dead : o = .dead → o2 = .dead
  rel : ∀ ρ l w, ORel ρ l w o → ORel (comp φ ρ) l w o2
theorem OSub.none (o : AObj) (h : o ≠ .dead) : OSub φ .none o := ⟨by simp [AObj.wr], fun e => absurd e h, fun _ _ _ _ => trivial⟩
theorem OSub.cells {wr : Bool} {vs2 vs : List Value} {sz : Nat} (h : LSub φ vs2 vs) : OSub φ (.cells wr vs2 sz) (.cells wr vs sz) :=
  ⟨fun e => e, fun e => (by cases e), fun ρ l w ⟨h1, cs, E, fr, h2, h3, h4, h5, h6⟩ => ⟨h1, cs, E, fr, h2, by rw [h.length]; exact h3, h4, fun i hi => h.at i ρ _ (h5 i (by rw [← h.length]; exact hi)), h6⟩⟩
theorem OSub.mark : OSub φ .mark .mark := ⟨fun e => e, fun e => (by cases e), fun _ _ _ h => h⟩
theorem OSub.map {es2 es : List MapEntry} {c : Nat} (hl : es2.length = es.length) (h : ∀ i, i < es.length → (es2.getD i default).key = (es.getD i default).key ∧ VSub φ (es2.getD i default).val (es.getD i default).val ∧ (es2.getD i default).born = (es.getD i default).born) :
    OSub φ (.map es2 c) (.map es c) :=
  ⟨fun e => e, fun e => (by cases e), fun ρ l w ⟨es', h1, h2, h3⟩ => ⟨es', h1, hl.trans h2, fun i hi => by
    have hi' : i < es.length := by omega
    exact ⟨(h i hi').1.trans (h3 i hi').1, (h i hi').2.1 ρ _ (h3 i hi').2.1, (h i hi').2.2.trans (h3 i hi').2.2⟩⟩⟩
theorem OSub.loop {st : LoopState} {pe : Option Code} {fn : FuncId} {nt : Nat} {T2 T : Nat → Value} {ps : Array Tmp} {asg bo : Code} (h : ∀ t, VSub φ (T2 t) (T t)) : OSub φ (.loop st pe fn nt T2 ps asg bo) (.loop st pe fn nt T ps asg bo) :=
  ⟨fun e => e, fun e => (by cases e), fun ρ l w ⟨r, h1, h2, h3, h4, h5, h6⟩ => ⟨r, h1, h2, h3, h4, ⟨h5.1, fun t => h t ρ _ (h5.2 t)⟩, h6⟩⟩
end
/-- Blocks dropped, and named anew: φ tells where a new name's block was. -/
structure Gc (N0 : AHeap) (φ : Nat → Option Nat) (H H2 : AHeap) : Prop where
  id : ∀ b, b < N0.length → φ b = some b
  len : N0.length ≤ H2.length
  inj : ∀ b c d, φ b = some d → φ c = some d → b = c
  dom : ∀ b, H2.length ≤ b → φ b = none
  obj : ∀ b c, φ b = some c → (b < N0.length ∧ N0[b]? = H[b]? ∧ H2[b]? = H[b]?) ∨ (∃ o2 o, H2[b]? = some o2 ∧ H[c]? = some o ∧ OSub φ o2 o)
  glob : ∀ g vs sz, H2[g]? = some (.glob vs sz) → φ g = some g ∧ H[g]? = some (.glob vs sz)
theorem Gc.wr {N0 H H2 : AHeap} {φ : Nat → Option Nat} (h : Gc N0 φ H H2) {b c : Nat} (hb : φ b = some c) (hw : wr H2 b) : Go.Proofs.YtnafdgcikaifmaaGreatA.wr H c := by
  rcases h.obj b c hb with ⟨h1, h2, h3⟩ | ⟨o2, o, h1, h2, h3⟩
  · have := h.id b h1
    rw [hb] at this; cases this
    obtain ⟨o, k1, k2⟩ := hw
    exact ⟨o, h3 ▸ k1, k2⟩
  · obtain ⟨o', k1, k2⟩ := hw
    rw [h1] at k1; cases k1
    exact ⟨o, h2, h3.wr k2⟩
theorem Gc.heap {N0 H H2 : AHeap} {φ : Nat → Option Nat} (h : Gc N0 φ H H2) {ρ : Ren} {w : World} (hh : HRel ρ H w) (he : Entry N0 ρ) : HRel (comp φ ρ) H2 w := by
  refine ⟨fun b hb => comp_none (h.dom b hb) ρ, fun b l hb => ?_, fun b c l m hne hb hc hw => ?_, fun g vs sz hg => ?_, fun b hb => ?_⟩
  · obtain ⟨c, h1, h2⟩ := comp_inv (by rw [hb]; simp)
    rw [h2] at hb
    obtain ⟨o, q1, q2, q3⟩ := hh.rel c l hb
    rcases h.obj b c h1 with ⟨k1, k2, k3⟩ | ⟨o2, o', k1, k2, k3⟩
    · have := h.id b k1
      rw [h1] at this; cases this
      refine ⟨o, k3.trans q1, q2, ?_⟩
      obtain ⟨ρ0, w0, e1, e2⟩ := he
      have hn := (e2 b k1).1 (by rw [hb]; simp)
      cases h0 : ρ0 b with
      | none => exact absurd h0 hn
      | null => exact absurd h0 ((e2 b k1).2 l hb)
      | dead =>
        have := e1.isdead b h0
        rw [k2, q1] at this; cases this
        exact q3.elim
      | «at» l0 =>
        obtain ⟨o0, p1, p2, p3⟩ := e1.rel b l0 h0
        rw [k2, q1] at p1; cases p1
        refine (p3.cut (m := N0.length) e1.bound q3).mono (fun b' hb' => .inl ?_) rfl
        by_cases e : b' < N0.length
        · rw [res_lt e, comp_some (h.id b' e)]
        · exact absurd (res_ge (by omega)) hb'
    · rw [q1] at k2; cases k2
      exact ⟨o2, k1, q2, k3.rel ρ l w q3⟩
  · obtain ⟨b', h1, h2⟩ := comp_inv (by rw [hb]; simp)
    obtain ⟨c', h3, h4⟩ := comp_inv (by rw [hc]; simp)
    rw [h2] at hb
    rw [h4] at hc
    exact hh.inj b' c' l m (fun e => hne (h.inj b c b' h1 (e ▸ h3))) hb hc (h.wr h1 hw)
  · obtain ⟨h1, h2⟩ := h.glob g vs sz hg
    obtain ⟨l, h3, h4, h5⟩ := hh.glob g vs sz h2
    exact ⟨l, (comp_some h1 ρ).trans h3, h4, h5⟩
  · obtain ⟨c, h1, h2⟩ := comp_inv (by rw [hb]; simp)
    rw [h2] at hb
    have hd := hh.isdead c hb
    rcases h.obj b c h1 with ⟨k1, k2, k3⟩ | ⟨o2, o', k1, k2, k3⟩
    · have := h.id b k1
      rw [h1] at this; cases this
      exact k3.trans hd
    · rw [hd] at k2; cases k2
      rw [k1, k3.dead rfl]
theorem Gc.fr {N0 H H2 : AHeap} {φ : Nat → Option Nat} (h : Gc N0 φ H H2) (ρ : Ren) (w : World) : Fr N0.length ρ H w (comp φ ρ) H2 w :=
  ⟨rfl, rfl, rfl, Nat.le_refl _, fun _ _ _ => rfl, fun b hb => .inl (comp_some (h.id b hb) ρ), fun b l' hb hw => by
    obtain ⟨c, h1, h2⟩ := comp_inv (by rw [hb]; simp)
    rw [h2] at hb
    exact .inl ⟨c, l', hb, rfl, h.wr h1 hw⟩⟩
def DSub (φ : Nat → Option Nat) (H2 : AHeap) : List Nat → List Nat → Prop
  | [], [] => True
  | d2 :: l2, d :: l => φ d2 = some d ∧ H2[d2]? = some .mark ∧ DSub φ H2 l2 l
  | _, _ => False
theorem DSub.rel {φ : Nat → Option Nat} {H H2 : AHeap} {ρ : Ren} : ∀ {D2 D : List Nat} {ds : List Deferred}, DSub φ H2 D2 D → DRel ρ H D ds → DRel (comp φ ρ) H2 D2 ds
  | [], [], [], _, _ => trivial
  | [], [], _ :: _, _, h => h.elim
  | [], _ :: _, _, h, _ => h.elim
  | _ :: _, [], _, h, _ => h.elim
  | _ :: _, _ :: _, [], _, h => h.elim
  | d2 :: D2, d :: D, x :: ds, ⟨h1, h2, h3⟩, ⟨⟨l, k1, k2, k3⟩, k4⟩ => ⟨⟨l, (comp_some h1 ρ).trans k1, h2, k3⟩, DSub.rel h3 k4⟩
/-- Slots alone: some are known, of the others nothing. -/
def U (l : List (Nat × Value)) : Nat → Value
  | t => match l with
    | [] => junk
    | (k, v) :: l => cond (Nat.beq t k) v (U l t)
theorem U_cons (k : Nat) (v : Value) (l : List (Nat × Value)) (t : Nat) : U ((k, v) :: l) t = cond (Nat.beq t k) v (U l t) := rfl
theorem Wk.slots {N0 : AHeap} {nt : Nat} {T T2 : Nat → Value} {D : List Nat} {H : AHeap} (h : ∀ t, T2 t = T t ∨ T2 t = junk) : Wk N0 ⟨nt, T, D, H⟩ ⟨nt, T2, D, H⟩ :=
  fun ρ a w hs => ⟨ρ, ⟨hs.heap, ⟨hs.tmps.1, fun t => by
    rcases h t with e | e
    · show VRel ρ (T2 t) _
      rw [e]; exact hs.tmps.2 t
    · show VRel ρ (T2 t) _
      rw [e]; exact .junk _ _⟩, hs.defers, hs.len, hs.entry⟩, .refl _ _ _ _⟩
def AgreesOn (T : Nat → Value) : List (Nat × Value) → Prop
  | [] => True
  | (k, v) :: l => T k = v ∧ AgreesOn T l
theorem U_agrees {T : Nat → Value} : ∀ {l : List (Nat × Value)}, AgreesOn T l → ∀ t, U l t = T t ∨ U l t = junk
  | [], _, t => .inr rfl
  | (k, v) :: l, ⟨h1, h2⟩, t => by
    rw [U_cons]
    cases e : Nat.beq t k with
    | true =>
      have := Nat.eq_of_beq_eq_true e
      subst this
      exact .inl h1.symm
    | false => exact U_agrees h2 t
/-- Of the slots, those of a list are kept. -/
theorem Wk.U {N0 : AHeap} {nt : Nat} {T : Nat → Value} {D : List Nat} {H : AHeap} (l : List (Nat × Value)) (h : AgreesOn T l) : Wk N0 ⟨nt, T, D, H⟩ ⟨nt, Go.Proofs.YtnafdgcikaifmaaGreatA.U l, D, H⟩ := Wk.slots (U_agrees h)
section
variable {F : Fence} {n : Nat} {P : Program} {N0 : AHeap} {Q : AEx → ASt → Prop} {s s2 : ASt}
theorem awp_wk {c : Code} (hw : Wk N0 s s2) (h : awp F n P N0 c Q s2) : awp F n P N0 c Q s := by
  intro ρ a w hs
  obtain ⟨ρ2, h1, h2⟩ := hw ρ a w hs
  exact wpIn_mono (h ρ2 a w h1) fun e a' w' hp => hp.from h2
theorem awp_post {c : Code} (h : awp F n P N0 c (fun e s' => ∃ s2, Wk N0 s' s2 ∧ Q e s2) s) : awp F n P N0 c Q s := by
  intro ρ a w hs
  refine wpIn_mono (h ρ a w hs) ?_
  rintro e a' w' ⟨x, s', ρ', rfl, ⟨s2, hw, h2⟩, h3, h4⟩
  obtain ⟨ρ2, h5, h6⟩ := hw ρ' a' w' h3
  exact ⟨x, s2, ρ2, rfl, h2, h5, h4.trans h6⟩
/-- A region; at its end the state may say less. -/
theorem awp_reg (hF : Wd F) {id : Nat} {l : List Oper} (h : aList F n P N0 l.toArray l (fun s' => ∃ s2, Wk N0 s' s2 ∧ Q .normal s2) s) : awp F n P N0 (.region id l.toArray false) Q s :=
  awp_post (awp_region hF h)
theorem awp_regd (hF : Wd F) (hm : P.follows .mixedOrders = true) {id : Nat} {l : List Oper} (tab : List Nat) (ht : tabOk l.toArray tab = true) (hs : ssaOk l.toArray tab = true)
    (h : dList F n P N0 l.toArray tab 0 l (fun s' => ∃ s2, Wk N0 s' s2 ∧ Q .normal s2) s) : awp F n P N0 (.region id l.toArray true) Q s :=
  awp_post (awp_region_any hF hm tab ht hs h)
end
end Go.Proofs.YtnafdgcikaifmaaGreatA


/-
  Contracts of functions over abstract states: how they are proved, how they are used.
-/
namespace Go.Proofs.YtnafdgcikaifmaaGreatA
set_option linter.unusedVariables false
open Go Go.RowKit Go.Shelf

/-- A function's contract: called with these values over this heap it returns, and Q holds of what it returns and of the heap. -/
def ACalls (P : Program) (f : FuncId) (args : List Value) (H : AHeap) (Q : Value → AHeap → Prop) : Prop :=
  ∀ ρ w args', HRel ρ H w → LRel ρ args args'.toList → Calls P f args' w fun e w' => ∃ v v' H' ρ', e = .returned v' ∧ Q v H' ∧ VRel ρ' v v' ∧ HRel ρ' H' w' ∧ Fr H.length ρ H w ρ' H' w' ∧ H.length ≤ H'.length
theorem ACalls.mono {P : Program} {f : FuncId} {args : List Value} {H : AHeap} {Q Q' : Value → AHeap → Prop} (h : ACalls P f args H Q) (hq : ∀ v H', Q v H' → Q' v H') : ACalls P f args H Q' :=
  fun ρ w args' hh ha => (h ρ w args' hh ha).mono fun e w' ⟨v, v', H', ρ', h1, h2, h3⟩ => ⟨v, v', H', ρ', h1, hq _ _ h2, h3⟩
/-- The result is v, and new are the blocks Δ. -/
abbrev Rets (v : Value) (H' : AHeap) : Value → AHeap → Prop := fun u K => u = v ∧ K = H'

/-! ### Results -/
inductive Res (P : Program) (tmps : Array Value) (w : World) : List ResultVar → List Value → Prop where
  | nil : Res P tmps w [] []
  | tmp {u : Tmp} {rs : List ResultVar} {vs : List Value} (h : Res P tmps w rs vs) : Res P tmps w (.tmp u :: rs) (tmps.getD u undef :: vs)
  | cell {p : Tmp} {ty : TypeId} {rs : List ResultVar} {vs : List Value} (a : Addr) (v : Value)
      (hp : tmps.getD p undef = .pointer (some a)) (hr : (loadVar ty a).run P w = .ok v w)
      (h : Res P tmps w rs vs) : Res P tmps w (.cell p ty :: rs) (v :: vs)
theorem res_run {P : Program} {tmps : Array Value} {w : World} {rs : List ResultVar} {vs : List Value} (hv : Res P tmps w rs vs) (f : ResultVar → Sem Value) (hf : ∀ u, f (.tmp u) = pure (tmps.getD u undef)) (hc : ∀ a t, f (.cell a t) = (do loadVar t (← asAddr (tmps.getD a undef)))) :
    (rs.mapM f).run P w = .ok vs w := by
  induction hv with
  | nil => simp
  | tmp h ih => simp [List.mapM_cons, hf, ih]
  | cell a v hp hr h ih =>
    rw [List.mapM_cons, hc, hp]
    simp [asAddr, hr, ih]
def retv : List Value → Value
  | [v] => v
  | vs => .tuple vs.toArray
theorem results_res {P : Program} {tmps : Array Value} {w : World} {fn : Func} {vs : List Value} (hv : Res P tmps w fn.results.toList vs) : (results fn tmps).run P w = .ok (retv vs) w := by
  unfold results
  rw [show fn.results = fn.results.toList.toArray by simp, List.mapM_toArray]
  simp only [Sem.run_bind, Sem.run_map]
  rw [res_run hv]
  · simp only [Result.andThen_ok]
    unfold retv
    match vs with
    | [] => simp
    | [v] => simp
    | v :: u :: vs => simp
  · intro u
    rfl
  · intro a t
    rfl
inductive ARes (P : Program) (s : ASt) : List ResultVar → List Value → Prop where
  | nil : ARes P s [] []
  | tmp {u : Tmp} {v : Value} {rs : List ResultVar} {vs : List Value} (hv : s.T u = v) (h : ARes P s rs vs) : ARes P s (.tmp u :: rs) (v :: vs)
  | cell {p : Tmp} {ty : TypeId} {rs : List ResultVar} {us : List Value} {b o : Nat} {vs : List Value} {sz : Nat} {v : Value} (hp : s.T p = .pointer (some ⟨b, o, none⟩)) (hu : ∀ w, (isAgg ty).run P w = .ok false w)
      (hR : Rd s.H b vs sz) (hv : vs[o]? = some v) (h : ARes P s rs us) : ARes P s (.cell p ty :: rs) (v :: us)
  | agg {p : Tmp} {ty : TypeId} {rs : List ResultVar} {us : List Value} {b o n : Nat} {vs xs : List Value} {sz : Nat} (hp : s.T p = .pointer (some ⟨b, o, none⟩)) (hu : ∀ w, (isAgg ty).run P w = .ok true w) (hn : ∀ w, (sizeOf ty).run P w = .ok n w)
      (hR : Rd s.H b vs sz) (ho : o + n ≤ vs.length) (hv : (vs.drop o).take n = xs) (h : ARes P s rs us) : ARes P s (.cell p ty :: rs) (.agg xs.toArray :: us)
theorem ares_run {P : Program} {s : ASt} {ρ : Ren} {w : World} {ts : Array Value} (hh : HRel ρ s.H w) (ht : TRel ρ s.nt s.T ts) {rs : List ResultVar} {vs : List Value} (h : ARes P s rs vs) : ∃ vs', Res P ts w rs vs' ∧ LRel ρ vs vs' := by
  induction h with
  | nil => exact ⟨[], .nil, .nil ρ⟩
  | @tmp u v rs vs hv h ih =>
    obtain ⟨vs', h1, h2⟩ := ih
    have h3 := ht.2 u
    rw [hv] at h3
    exact ⟨_, .tmp h1, .cons h3 h2⟩
  | @cell p ty rs us b o vs sz v hp hu hR hv h ih =>
    obtain ⟨vs', h1, h2⟩ := ih
    have h3 := ht.2 p
    rw [hp] at h3
    obtain ⟨l, hl, h4⟩ := vrel_ptr hh h3 hR.live
    obtain ⟨_, cs, E, fr, h5, h6, h7, h8⟩ := hR.get hh hl
    have ho := (List.getElem?_eq_some_iff.1 hv).1
    have h9 := h8 o ho
    rw [List.getD_eq_getElem?_getD, hv] at h9
    refine ⟨_, .cell ⟨l.blk, l.base + o, none⟩ _ h4 ?_ h1, .cons h9 h2⟩
    show (Sem.run P (do if ← isAgg ty then pure (.agg (← loadCells ⟨l.blk, l.base + o, none⟩ (← sizeOf ty))) else load ⟨l.blk, l.base + o, none⟩) w) = _
    rw [Sem.run_bind, hu w, Result.andThen_ok]
    simp only [Bool.false_eq_true, if_false]
    rw [run_load, cell_at h5 (by omega)]
  | @agg p ty rs us b o n vs xs sz hp hu hn hR ho hv h ih =>
    obtain ⟨vs', h1, h2⟩ := ih
    have h3 := ht.2 p
    rw [hp] at h3
    obtain ⟨l, hl, h4⟩ := vrel_ptr hh h3 hR.live
    obtain ⟨_, cs, E, fr, h5, h6, h7, h8⟩ := hR.get hh hl
    have hlen : xs.length = n := by rw [← hv]; simp; omega
    refine ⟨_, .cell ⟨l.blk, l.base + o, none⟩ (.agg ((List.range n).map fun j => cs.getD (l.base + o + j) undef).toArray) h4 ?_ h1, .cons ?_ h2⟩
    · show (Sem.run P (do if ← isAgg ty then pure (.agg (← loadCells ⟨l.blk, l.base + o, none⟩ (← sizeOf ty))) else load ⟨l.blk, l.base + o, none⟩) w) = _
      rw [Sem.run_bind, hu w, Result.andThen_ok]
      simp only [if_true, Sem.run_bind, hn w, Result.andThen_ok, run_load_cells h5 (show l.base + o + n ≤ cs.size by omega), Sem.run_pure]
    · refine .agg (by simp [hlen]) fun i hi => ?_
      simp only [List.size_toArray] at hi
      have h9 := h8 (o + i) (by omega)
      have e1 : xs.toArray.getD i undef = vs.getD (o + i) undef := by
        simp only [← hv, List.getD_eq_getElem?_getD, Array.getD_eq_getD_getElem?, List.getElem?_toArray, List.getElem?_take, List.getElem?_drop]
        rw [if_pos (by omega)]
      have e2 : ((List.range n).map fun j => cs.getD (l.base + o + j) undef).toArray.getD i undef = cs.getD (l.base + (o + i)) undef := by
        have : i < n := by omega
        simp [this, Nat.add_assoc]
      rw [e1, e2]
      exact h9
theorem vrel_retv {ρ : Ren} {vs vs' : List Value} (h : LRel ρ vs vs') : VRel ρ (retv vs) (retv vs') := by
  have tup : ∀ {us us' : List Value}, LRel ρ us us' → VRel ρ (.tuple us.toArray) (.tuple us'.toArray) := fun {us us'} h => .tuple (by simpa using h.1) fun i hi => by
    have := h.2 i (by simpa using hi)
    simpa [List.getD_eq_getElem?_getD] using this
  match vs, vs', h with
  | [], [], h => exact tup h
  | [], _ :: _, h => have := h.1; simp at this
  | [v], [v'], h => have := h.2 0 (by simp); simpa [retv] using this
  | [_], [], h => have := h.1; simp at this
  | [_], _ :: _ :: _, h => have := h.1; simp at this
  | _ :: _ :: _, [], h => have := h.1; simp at this
  | _ :: _ :: _, [_], h => have := h.1; simp at this
  | _ :: _ :: _, _ :: _ :: _, h => exact tup h

/-! ### The marks of ranges over functions -/
def unmark (D : List Nat) (H : AHeap) : AHeap := D.foldl (fun H d => H.set d .none) H
theorem unmark_length : ∀ (D : List Nat) (H : AHeap), (unmark D H).length = H.length
  | [], H => rfl
  | d :: D, H => by
    show (unmark D (H.set d .none)).length = _
    rw [unmark_length D]; simp
theorem put_mark {ρ : Ren} {H : AHeap} {w : World} (hh : HRel ρ H w) {d : Nat} {l : Loc} (hl : ρ d = .at l) (hH : H[d]? = some .mark) (n : Nat) (ob : Obj) :
    HRel ρ (H.set d .none) (w.putObj l.blk ob) ∧ Fr n ρ H w ρ (H.set d .none) (w.putObj l.blk ob) := by
  have hd : d < H.length := (List.getElem?_eq_some_iff.1 hH).1
  have hwr : wr H d := ⟨_, hH, rfl⟩
  have hwr' : ∀ c, wr (H.set d .none) c → wr H c := fun c ⟨o2, h1, h2⟩ => by
    by_cases e1 : c = d
    · subst e1; exact hwr
    · rw [List.getElem?_set, if_neg (Ne.symm e1)] at h1; exact ⟨o2, h1, h2⟩
  have hsz : (w.putObj l.blk ob).heap.size = w.heap.size := by simp [World.putObj]
  refine ⟨⟨fun c hc => hh.bound c (by simpa using hc), fun c m hm => ?_, fun c e m m' hne hc he hw => hh.inj c e m m' hne hc he (hwr' c hw), fun g vs sz hg => ?_, fun c hc => ?_⟩,
    ⟨rfl, rfl, rfl, by omega, fun k hk ho => World.putObj_heap_other (fun e => ho ⟨d, l, hl, e.symm, hwr⟩), fun c _ => .inl rfl, fun c m hm hw => .inl ⟨c, m, hm, rfl, hwr' c hw⟩⟩⟩
  · by_cases e1 : c = d
    · subst e1
      rw [hl] at hm; cases hm
      obtain ⟨o, q1, q2, q3⟩ := hh.rel c l hl
      exact ⟨.none, by rw [List.getElem?_set, if_pos rfl, if_pos hd], by omega, trivial⟩
    · obtain ⟨o, q1, q2, q3⟩ := hh.rel c m hm
      exact ⟨o, by rw [List.getElem?_set, if_neg (Ne.symm e1)]; exact q1, by omega, q3.mono (fun _ _ => .inl rfl) (World.putObj_heap_other (fun e => hh.inj d c l m (Ne.symm e1) hl hm hwr e.symm))⟩
  · by_cases e1 : g = d
    · subst e1; rw [List.getElem?_set, if_pos rfl, if_pos hd] at hg; cases hg
    · rw [List.getElem?_set, if_neg (Ne.symm e1)] at hg; exact hh.glob g vs sz hg
  · have := hh.isdead c hc
    by_cases e1 : d = c
    · subst e1; rw [hH] at this; cases this
    · rw [List.getElem?_set, if_neg e1]; exact this
theorem leaves_marks {P : Program} {fn : Func} {ts : Array Value} {R : Ending → World → Prop} {m : Nat} {N : Nat} : ∀ (D : List Nat) (ds : List Deferred) (ρ : Ren) (H : AHeap) (w : World), DRel ρ H D ds → D.Nodup → HRel ρ H w →
    (hend : ∀ w', HRel ρ (unmark D H) w' → Fr N ρ H w ρ (unmark D H) w' → ∃ v, (results fn ts).run P w' = .ok v w' ∧ R (.returned v) w') → LeavesInM Fence.wide m P fn ts R ds .returning w
  | [], [], ρ, H, w, _, _, hh, hend => by
    obtain ⟨v, h1, h2⟩ := hend w hh (.refl _ _ _ _)
    exact ⟨v, h1, h2⟩
  | [], _ :: _, _, _, _, h, _, _, _ => h.elim
  | _ :: _, [], _, _, _, h, _, _, _ => h.elim
  | d :: D, x :: ds, ρ, H, w, ⟨⟨l, h1, h2, h3⟩, h4⟩, hnd, hh, hend => by
    subst h3
    obtain ⟨hx, hnd'⟩ := List.nodup_cons.1 hnd
    obtain ⟨o, q1, q2, q3⟩ := hh.rel d l h1
    rw [h2] at q1; cases q1
    obtain ⟨p1, p2⟩ := put_mark hh h1 h2 N (.deferred none)
    have h5 : DRel ρ (H.set d .none) D ds := by
      have : ∀ (D : List Nat) (ds : List Deferred), d ∉ D → DRel ρ H D ds → DRel ρ (H.set d .none) D ds := by
        intro D
        induction D with
        | nil => intro ds _ h; cases ds with | nil => trivial | cons _ _ => exact h.elim
        | cons c D ih =>
          intro ds hc h
          cases ds with
          | nil => exact h.elim
          | cons y ds =>
            obtain ⟨⟨l', k1, k2, k3⟩, k4⟩ := h
            simp only [List.mem_cons, not_or] at hc
            exact ⟨⟨l', k1, by rw [List.getElem?_set, if_neg hc.1]; exact k2, k3⟩, ih ds hc.2 k4⟩
      exact this D ds hx h4
    refine ⟨by simp, .inl ⟨_, _, rfl, run_takeDeferred q3, leaves_marks D ds ρ _ _ h5 hnd' p1 fun w' k1 k2 => hend w' k1 (p2.trans k2)⟩⟩

/-! ### A function's contract from its body -/
/-- What must hold where a function returns. -/
def Ret (P : Program) (N0 : AHeap) (fn : Func) (Q : Value → AHeap → Prop) (s : ASt) : Prop :=
  s.D.Nodup ∧ ((∃ vs, ARes P { s with H := unmark s.D s.H } fn.results.toList vs ∧ Q (retv vs) (unmark s.D s.H)) ∨ ∃ vs φ v2 H2, ARes P { s with H := unmark s.D s.H } fn.results.toList vs ∧ Gc N0 φ (unmark s.D s.H) H2 ∧ VSub φ v2 (retv vs) ∧ Q v2 H2)
def RetQ (P : Program) (N0 : AHeap) (fn : Func) (Q : Value → AHeap → Prop) : AEx → ASt → Prop
  | .normal, s => Ret P N0 fn Q s
  | .ret, s => Ret P N0 fn Q s
  | _, _ => False
/-- A function's slots as it begins. -/
def T0 (args : List Value) : Nat → Value := fun t => args.getD t undef
theorem acalls_of {P : Program} {f : FuncId} {fn : Func} {c : Code} {args : List Value} {H : AHeap} {Q : Value → AHeap → Prop} (hf : P.funcs[f]? = some fn) (hb : fn.body = some c) {nt : Nat} (hnt : fn.ntmps = nt) (hn : args.length ≤ nt)
    (h : awp Fence.wide 1 P H c (RetQ P H fn Q) ⟨nt, T0 args, [], H⟩) : ACalls P f args H Q := by
  intro ρ w args' hh ha
  refine callsIn_wide.1 (callsIn_of_wp_marks (n := 1) hf hb trivial ?_)
  have hsz : args'.size = args.length := by have := ha.1; simpa using this.symm
  have hs : SRel H ρ ⟨nt, T0 args, [], H⟩ { tmps := args' ++ Array.replicate (fn.ntmps - args'.size) undef, defers := [] } w := by
    refine ⟨hh, ⟨by simp; omega, fun t => ?_⟩, trivial, Nat.le_refl _, ⟨ρ, w, hh, fun _ _ => ⟨fun h => h, fun l h h2 => by rw [h] at h2; cases h2⟩⟩⟩
    have e1 : (args' ++ Array.replicate (fn.ntmps - args'.size) undef).getD t undef = args'.toList.getD t undef := by
      simp only [Array.getD_eq_getD_getElem?, List.getD_eq_getElem?_getD, Array.getElem?_append, Array.getElem?_replicate, Array.getElem?_toList]
      by_cases h1 : t < args'.size
      · simp [h1]
      · simp only [if_neg h1]
        split <;> simp [Array.getElem?_eq_none (Nat.le_of_not_lt h1)]
    show VRel ρ (args.getD t undef) _
    rw [e1]
    exact ha.at t
  refine wpIn_mono (h ρ _ w hs) ?_
  rintro e a' w' ⟨x, s', ρ', rfl, h2, h3, h4⟩
  have fin : Ret P H fn Q s' → LeavesInM Fence.wide 1 P fn a'.tmps (fun e w' => ∃ v v' H' ρ', e = .returned v' ∧ Q v H' ∧ VRel ρ' v v' ∧ HRel ρ' H' w' ∧ Fr H.length ρ H w ρ' H' w' ∧ H.length ≤ H'.length) a'.defers .returning w' := by
    rintro ⟨hnd, ⟨vs, hr, hQ⟩ | ⟨vs, φ, v2, H2, hr, hg, hv, hQ⟩⟩
    · refine leaves_marks (N := H.length) s'.D a'.defers ρ' s'.H w' h3.defers hnd h3.heap fun w2 k1 k2 => ?_
      obtain ⟨vs', r1, r2⟩ := ares_run (s := { s' with H := unmark s'.D s'.H }) k1 h3.tmps hr
      exact ⟨retv vs', results_res r1, retv vs, _, _, ρ', rfl, hQ, vrel_retv r2, k1, h4.trans k2, by rw [unmark_length]; exact h3.len⟩
    refine leaves_marks (N := H.length) s'.D a'.defers ρ' s'.H w' h3.defers hnd h3.heap fun w2 k1 k2 => ?_
    obtain ⟨vs', r1, r2⟩ := ares_run (s := { s' with H := unmark s'.D s'.H }) k1 h3.tmps hr
    exact ⟨retv vs', results_res r1, v2, _, H2, comp φ ρ', rfl, hQ, hv _ _ (vrel_retv r2), hg.heap k1 h3.entry, (h4.trans k2).trans (hg.fr ρ' w2), hg.len⟩
  cases x with
  | normal => exact fin h2
  | ret => exact fin h2
  | exit id => exact h2.elim
  | goto l => exact h2.elim

/-! ### Calls -/
theorem run_call {P : Program} {f : FuncId} (hE : Enters P f) {e : Operand → Value} {dst : Option Tmp} {xs : Array Operand} {ats : Array TypeId} {ty : TypeId} {pos : String} {af : Array Edge} {g : Option (Nat × Bool)} {x : Operand} {fs cs : Array Value} (hx : e x = .func (.func f) fs cs) (w : World) :
    (execOp e ⟨dst, .call { callee := .value x, args := xs, argTypes := ats }, ty, pos, af, g⟩).run P w = .ok (.enter f (fs ++ xs.map e ++ cs)) w := by
  show (Sem.run P (do let d ← resolve e _ ty; invoke d.target d.args) w) = _
  unfold resolve
  simp only [hx, Deferred.ofValue, Sem.run_bind, Sem.run_pure, Result.andThen_ok, invoke]
  exact hE _ _
section
variable {F : Fence} {n : Nat} {P : Program} {N0 : AHeap} {s : ASt} {T : Nat → Value} {H : AHeap} {dst : Option Tmp} {ty : TypeId} {pos : String} {af : Array Edge} {g : Option (Nat × Bool)}
theorem lrel_args {ρ : Ren} {e : Operand → Value} (xs : Array Operand) (he : ∀ x ∈ xs, VRel ρ (ev T x) (e x)) : LRel ρ (xs.toList.map (ev T)) (xs.map e).toList := by
  refine ⟨by simp, fun i hi => ?_⟩
  have hi' : i < xs.size := by simpa using hi
  have := he xs[i] (by simp)
  simpa [List.getD_eq_getElem?_getD, hi'] using this
/-- A call that leaves the heap as it was, but for new blocks. -/
theorem q_call {f : FuncId} {xs : Array Operand} {ats : Array TypeId} {args : List Value} {v : Value} {Δ : AHeap} (hE : Enters P f) (hargs : xs.toList.map (ev T) = args) (hΔ : ∀ o ∈ Δ, o.wr = true) (h : ACalls P f args H (Rets v (H ++ Δ))) :
    OpQ P ⟨dst, .call { callee := .value (.func f), args := xs, argTypes := ats }, ty, pos, af, g⟩ T H v Δ := by
  subst hargs
  refine ⟨by simp, hΔ, fun ρ e w hh he => ?_⟩
  have hf := he (.func f) (by simp [Op.operands, Call.operands])
  obtain ⟨fs', cs', h2, h3, _, h4, _⟩ := vrel_func (f := f) (fs := #[]) (cs := #[]) hf
  have hfs : fs' = #[] := Array.eq_empty_of_size_eq_zero (by simpa using h3.symm)
  have hcs : cs' = #[] := Array.eq_empty_of_size_eq_zero (by simpa using h4.symm)
  rw [run_call hE h2, hfs, hcs]
  simp only [Array.empty_append, Array.append_empty]
  refine (h ρ w _ hh (lrel_args xs fun x hx => he x (by simp [Op.operands, Call.operands, hx]))).mono ?_
  rintro e' w' ⟨u, v', H', ρ', rfl, ⟨rfl, rfl⟩, k1, k2, k3, k4⟩
  exact ⟨v', rfl, ρ', k1, k2, k3.ext hh k2 hΔ⟩
/-- A call of a function value. -/
theorem q_callv {f : FuncId} {x : Operand} {xs : Array Operand} {ats : Array TypeId} {cs : Array Value} {args : List Value} {v : Value} {Δ : AHeap} (hE : Enters P f) (hx : ev T x = .func (.func f) #[] cs) (hargs : xs.toList.map (ev T) ++ cs.toList = args) (hΔ : ∀ o ∈ Δ, o.wr = true) (h : ACalls P f args H (Rets v (H ++ Δ))) :
    OpQ P ⟨dst, .call { callee := .value x, args := xs, argTypes := ats }, ty, pos, af, g⟩ T H v Δ := by
  subst hargs
  refine ⟨by simp, hΔ, fun ρ e w hh he => ?_⟩
  have hf := he x (by simp [Op.operands, Call.operands])
  rw [hx] at hf
  obtain ⟨fs', cs', h2, h3, _, h4, h5⟩ := vrel_func hf
  have hfs : fs' = #[] := Array.eq_empty_of_size_eq_zero (by simpa using h3.symm)
  rw [run_call hE h2, hfs]
  simp only [Array.empty_append]
  have hc : LRel ρ cs.toList cs'.toList := ⟨by simpa using h4, fun i hi => by have := h5 i (by simpa using hi); simpa [List.getD_eq_getElem?_getD] using this⟩
  refine (h ρ w _ hh (by
    rw [Array.toList_append]
    exact (lrel_args xs fun x hx => he x (by simp [Op.operands, Call.operands, hx])).append hc)).mono ?_
  rintro e' w' ⟨u, v', H', ρ', rfl, ⟨rfl, rfl⟩, k1, k2, k3, k4⟩
  exact ⟨v', rfl, ρ', k1, k2, k3.ext hh k2 hΔ⟩
theorem DRel.fr {ρ ρ' : Ren} {H H' : AHeap} (hk : ∀ d l, ρ d = .at l → H[d]? = some .mark → ρ' d = .at l ∧ H'[d]? = some .mark) : ∀ (D : List Nat) (ds : List Deferred), DRel ρ H D ds → DRel ρ' H' D ds
  | [], [], _ => trivial
  | [], _ :: _, h => h.elim
  | _ :: _, [], h => h.elim
  | d :: D, x :: ds, ⟨⟨l, h1, h2, h3⟩, h4⟩ => ⟨⟨l, (hk d l h1 h2).1, (hk d l h1 h2).2, h3⟩, DRel.fr hk D ds h4⟩
/-- A call that turns the heap. -/
theorem o_callv {K : ASt → Prop} (hF : Wd F) {f : FuncId} {x : Operand} {xs : Array Operand} {ats : Array TypeId} {cs : Array Value} {args : List Value} {Q : Value → AHeap → Prop} (hE : Enters P f) (hx : ev s.T x = .func (.func f) #[] cs) (hargs : xs.toList.map (ev s.T) ++ cs.toList = args)
    (h : ACalls P f args s.H Q) (hc : ∀ y ∈ #[x] ++ xs, cOk s.H y) (hd : dOk s.nt dst) (hm : ∀ v H', Q v H' → ∀ d ∈ s.D, H'[d]? = some .mark)
    (hk : ∀ v H', Q v H' → K (ASt.put { s with H := H' } dst v)) : OpOk F n P N0 ⟨dst, .call { callee := .value x, args := xs, argTypes := ats }, ty, pos, af, g⟩ K s := by
  subst hargs
  intro ρ a w hs
  have hh := hs.heap
  have he : ∀ y ∈ #[x] ++ xs, VRel ρ (ev s.T y) (a.eval y) := fun y hy => ev_rel hh hs.tmps (hc y hy)
  have hf := he x (by simp)
  rw [hx] at hf
  obtain ⟨fs', cs', h2, h3, _, h4, h5⟩ := vrel_func hf
  have hfs : fs' = #[] := Array.eq_empty_of_size_eq_zero (by simpa using h3.symm)
  refine ⟨fun f _ => hF.fn f, ?_⟩
  rw [Oper.semAt_eq _ _ _ (by simp), run_call hE h2, hfs]
  simp only [Array.empty_append]
  have hcr : LRel ρ cs.toList cs'.toList := ⟨by simpa using h4, fun i hi => by have := h5 i (by simpa using hi); simpa [List.getD_eq_getElem?_getD] using this⟩
  refine ⟨fun hd => by rw [hF.depth] at hd; simp at hd, hF.calls (Calls.mono (h ρ w _ hh (by
    rw [Array.toList_append]
    exact (lrel_args xs fun x hx => he x (by simp [hx])).append hcr)) ?_)⟩
  rintro e' w' ⟨u, v', H', ρ', rfl, hq, k1, k2, k3, k4⟩
  have hm' : ∀ b, ρ b ≠ .none → ρ' b = ρ b ∨ ρ' b = .dead := fun b hb => by
    rcases k3.old b (by
      by_cases e : b < s.H.length
      · exact e
      · exact absurd (hh.bound b (by omega)) hb) with e | ⟨e, _⟩
    · exact .inl e
    · exact .inr e
  have hs1 : SRel N0 ρ' { s with H := H' } a w' := by
    refine ⟨k2, hs.tmps.mono hm', ?_, by have := hs.len; show N0.length ≤ H'.length; omega, hs.entry.of fun b hb => k3.old b (by have := hs.len; omega)⟩
    have key : ∀ (D : List Nat) (ds : List Deferred), (∀ d ∈ D, H'[d]? = some .mark) → DRel ρ s.H D ds → DRel ρ' H' D ds := by
      intro D
      induction D with
      | nil => intro ds _ h; cases ds with | nil => trivial | cons _ _ => exact h.elim
      | cons d D ih =>
        intro ds hD h
        cases ds with
        | nil => exact h.elim
        | cons y ds =>
          obtain ⟨⟨l', q1, q2, q3⟩, q4⟩ := h
          refine ⟨⟨l', ?_, hD d (by simp), q3⟩, ih ds (fun d' hd' => hD d' (by simp [hd'])) q4⟩
          rcases k3.old d (List.getElem?_eq_some_iff.1 q2).1 with e | ⟨e, _⟩
          · exact e.trans q1
          · have := k2.isdead d e
            rw [hD d (by simp)] at this; cases this
    exact key _ _ (hm u H' hq) hs.defers
  refine ⟨_, ρ', hk u H' hq, hs1.put hd k1, ?_⟩
  rw [ASt.put_H]
  exact k3.mono hs.len
end
end Go.Proofs.YtnafdgcikaifmaaGreatA


/-
  The steps of a walk.
-/
namespace Go.Proofs.YtnafdgcikaifmaaGreatA
set_option linter.unusedVariables false
open Go Go.RowKit Go.Shelf
section
variable {F : Fence} {n : Nat} {P : Program} {N0 : AHeap} {ops : Array Oper} {o : Oper} {rest : List Oper} {K : ASt → Prop} {nt : Nat} {T : Nat → Value} {D : List Nat} {H H' : AHeap} {d : Tmp} {v : Value} {Δ : AHeap}
theorem gyes_none (hg : o.guard = none) : GYes ops o T := fun j want h => by rw [hg] at h; cases h
theorem gyes_some {j : Nat} {want : Bool} (hg : o.guard = some (j, want)) (h : gval ops T j = .bool want) : GYes ops o T := fun j' want' h' => by rw [hg] at h'; cases h'; exact h
variable {tab : List Nat} {i : Nat}
theorem dv (hg : GYes ops o T) (hq : OpQ P o T H v []) (hd : o.dst = some d) (hn : d < nt) (hc : ∀ x ∈ o.op.operands, cOk H x) (hk : dList F n P N0 ops tab (i + 1) rest K ⟨nt, upd T d v, D, H⟩) : dList F n P N0 ops tab i (o :: rest) K ⟨nt, T, D, H⟩ :=
  .inl ⟨⟨nt, upd T d v, D, H⟩, ⟨v, [], by rw [hd]; exact hn, by rw [hd]; simp [ASt.put], .inl ⟨hg, hq, hc⟩⟩, hk⟩
theorem dn (hg : GYes ops o T) (hq : OpQ P o T H v Δ) (hd : o.dst = some d) (hn : d < nt) (hc : ∀ x ∈ o.op.operands, cOk H x) (hH : H ++ Δ = H') (hk : dList F n P N0 ops tab (i + 1) rest K ⟨nt, upd T d v, D, H'⟩) : dList F n P N0 ops tab i (o :: rest) K ⟨nt, T, D, H⟩ := by
  subst hH
  exact .inl ⟨⟨nt, upd T d v, D, H ++ Δ⟩, ⟨v, Δ, by rw [hd]; exact hn, by rw [hd]; rfl, .inl ⟨hg, hq, hc⟩⟩, hk⟩
theorem dno {j : Nat} {want : Bool} (hg : o.guard = some (j, want)) (h : gval ops T j = .bool (!want) ∨ gval ops T j = undef) (hd : o.dst = some d) (hn : d < nt) (hk : dList F n P N0 ops tab (i + 1) rest K ⟨nt, upd T d undef, D, H⟩) : dList F n P N0 ops tab i (o :: rest) K ⟨nt, T, D, H⟩ :=
  .inl ⟨⟨nt, upd T d undef, D, H⟩, ⟨undef, [], by rw [hd]; exact hn, by rw [hd]; simp [ASt.put], .inr ⟨⟨j, want, hg, h⟩, rfl, rfl⟩⟩, hk⟩
/-- Late operations, one by one. -/
def PendL (P : Program) (ops : Array Oper) (s : ASt) : List Nat → Prop
  | [] => True
  | j :: l => Pend P ops s j ∧ PendL P ops s l
theorem PendL.all {P : Program} {ops : Array Oper} {s : ASt} : ∀ {l : List Nat}, PendL P ops s l → ∀ j ∈ l, Pend P ops s j
  | [], _, j, h => by simp at h
  | k :: l, ⟨h1, h2⟩, j, h => by
    rcases List.mem_cons.1 h with rfl | h
    · exact h1
    · exact PendL.all h2 j h
theorem pend_yes {j : Nat} (ho : ops[j]? = some o) (hg : GYes ops o T) (hq : OpQ P o T H v []) (hd : o.dst = some d) (hn : d < nt) (hc : ∀ x ∈ o.op.operands, cOk H x) (hv : T d = v) : Pend P ops ⟨nt, T, D, H⟩ j :=
  ⟨o, v, ho, by rw [hd]; exact hn, fun d' h => (by rw [hd] at h; cases h; exact hv), .inl ⟨hg, hq, hc⟩⟩
/-- The operand's slot is none of those. -/
def offF (ops : Array Oper) (fl : List Nat) : Operand → Bool
  | .tmp t => fl.all fun j => match dstOf ops j with | none => true | some d => !Nat.beq d t
  | _ => true
theorem offF_ev {fl : List Nat} {x : Operand} (h : offF ops fl x = true) {T' : Nat → Value} (hT : ∀ t, (∀ j ∈ fl, dstOf ops j ≠ some t) → T' t = T t) : ev T' x = ev T x := by
  cases x with
  | tmp t =>
    refine hT t fun j hj hd => ?_
    have h1 := List.all_eq_true.1 h j hj
    rw [hd] at h1
    have h2 : (!Nat.beq t t) = true := h1
    rw [Nat.beq_refl] at h2
    cases h2
  | _ => rfl
/-- What turns the heap, some operations being late. -/
theorem dfR (fl : List Nat) (R : Value → AHeap → Prop) (hfl : floatOk ops tab i fl = true) (hg : GYes ops o T) (h : EffOk F n P N0 ops fl o ⟨nt, T, D, H⟩ R) (hk : ∀ v H', R v H' → PendL P ops (ASt.put ⟨nt, T, D, H'⟩ o.dst v) fl ∧ dList F n P N0 ops tab (i + 1) rest K (ASt.put ⟨nt, T, D, H'⟩ o.dst v)) :
    dList F n P N0 ops tab i (o :: rest) K ⟨nt, T, D, H⟩ := .inr (.inr ⟨fl, R, hfl, hg, h, fun v H' hR => ⟨(hk v H' hR).1.all, (hk v H' hR).2⟩⟩)
def EffOk1 (F : Fence) (n : Nat) (P : Program) (N0 : AHeap) (ops : Array Oper) (fl : List Nat) (o : Oper) (s : ASt) (v : Value) (H' : AHeap) : Prop :=
  ∀ T', (∀ t, (∀ j ∈ fl, dstOf ops j ≠ some t) → T' t = s.T t) → ∀ K : ASt → Prop, K (ASt.put { s with T := T', H := H' } o.dst v) → OpOk F n P N0 o K { s with T := T' }
theorem df (fl : List Nat) (hfl : floatOk ops tab i fl = true) (hg : GYes ops o T) (h : EffOk1 F n P N0 ops fl o ⟨nt, T, D, H⟩ v H') (hpd : PendL P ops (ASt.put ⟨nt, T, D, H'⟩ o.dst v) fl) (hk : dList F n P N0 ops tab (i + 1) rest K (ASt.put ⟨nt, T, D, H'⟩ o.dst v)) :
    dList F n P N0 ops tab i (o :: rest) K ⟨nt, T, D, H⟩ := dfR fl (fun v' H'' => v' = v ∧ H'' = H') hfl hg (fun T' hT K' hk' => h T' hT K' (hk' v H' ⟨rfl, rfl⟩)) fun v' H'' hR => by
  obtain ⟨rfl, rfl⟩ := hR
  exact ⟨hpd, hk⟩
theorem cok1 {x : Operand} (h : cOk H x) : ∀ y ∈ #[x], cOk H y := fun y hy => by simp at hy; subst hy; exact h
theorem cok2 {x y : Operand} (h : cOk H x) (k : cOk H y) : ∀ z ∈ #[x, y], cOk H z := fun z hz => by
  simp only [List.mem_toArray, List.mem_cons, List.not_mem_nil, or_false] at hz
  rcases hz with rfl | rfl
  · exact h
  · exact k
theorem cconst {v : Value} (h : Scalar v = true) : cOk H (.const v) := fun ρ => .scalar h ρ
/-- All operands are slots, constants or functions. -/
def cAll (xs : List Operand) : Bool := xs.all fun | .tmp _ => true | .const v => Scalar v | .func _ => true | .global _ => false
theorem call_ok {xs : Array Operand} (h : cAll xs.toList = true) : ∀ x ∈ xs, cOk H x := fun x hx => by
  have := List.all_eq_true.1 h x (by simpa using hx)
  cases x with
  | tmp t => trivial
  | const v => exact cconst this
  | func f => trivial
  | «global» g => cases this
end
/-! A heap's own blocks, behind those that were there. -/
section
variable {H0 : AHeap} {n0 : Nat}
theorem frm_get {L : AHeap} {b : Nat} {o : AObj} (h : H0[b]? = some o) : (H0 ++ L)[b]? = some o := by
  rw [List.getElem?_append_left (List.getElem?_eq_some_iff.1 h).1]; exact h
theorem frm_rd' {L : AHeap} {b : Nat} {vs : List Value} {sz : Nat} (h : Rd H0 b vs sz) : Rd (H0 ++ L) b vs sz := by
  rcases h with ⟨w, h⟩ | h | ⟨h, h'⟩ | ⟨t, h⟩
  · exact .inl ⟨w, frm_get h⟩
  · exact .inr (.inl (frm_get h))
  · exact .inr (.inr (.inl ⟨frm_get h, h'⟩))
  · exact .inr (.inr (.inr ⟨t, frm_get h⟩))
end
end Go.Proofs.YtnafdgcikaifmaaGreatA


/-
  The steps of a walk, as a program prints them.
-/
namespace Go.Proofs.YtnafdgcikaifmaaGreatA
set_option linter.unusedVariables false
open Go Go.RowKit Go.Shelf
section
variable {P : Program} {T : Nat → Value} {H : AHeap} {dst : Option Tmp} {ty : TypeId} {pos : String} {af : Array Edge} {g : Option (Nat × Bool)}
theorem q_mv {x : Operand} {v : Value} (hx : ev T x = v) : OpQ P ⟨dst, .move x, ty, pos, af, g⟩ T H v [] := by subst hx; exact q_move
theorem q_as {x : Operand} {v : Value} (hx : ev T x = v) : OpQ P ⟨dst, .assign x, ty, pos, af, g⟩ T H v [] := by subst hx; exact q_assign
theorem q_pt {c x y : Operand} {v : Value} (hc : ev T c = .bool true) (hx : ev T x = v) : OpQ P ⟨dst, .pick c x y, ty, pos, af, g⟩ T H v [] := by subst hx; exact q_pick_t hc
theorem q_pf {c x y : Operand} {v : Value} (hc : ev T c = .bool false) (hy : ev T y = v) : OpQ P ⟨dst, .pick c x y, ty, pos, af, g⟩ T H v [] := by subst hy; exact q_pick_f hc
theorem OpQ.cast {o : Oper} {v v' : Value} {Δ : AHeap} (h : OpQ P o T H v Δ) (e : v = v') : OpQ P o T H v' Δ := e ▸ h
theorem i64_in {a : Int} (h : -9223372036854775808 ≤ a ∧ a ≤ 9223372036854775807) : IntKind.i64.wrap a = a := IntWalk.i64_in _ h
theorem q_index1 {t el : TypeId} {x y : Operand} {b o len c i : Nat} {k : IntKind} {vs : List Value} {sz : Nat} (hu : P.underlying t = some (.slice el)) (hs : ∀ w, (sizeOf el).run P w = .ok 1 w)
    (hx : ev T x = .slice (some ⟨b, o, none⟩) len c) (hy : ev T y = .int k (i : Int)) (hi : i < len) (hR : Rd H b vs sz) : OpQ P ⟨dst, .indexAddr t x y, ty, pos, af, g⟩ T H (.pointer (some ⟨b, o + i, none⟩)) [] :=
  (q_index (u := 0) hu hs hx hy hi hR).cast (by rw [Nat.mul_one])
theorem q_call0 {f : FuncId} {xs : Array Operand} {ats : Array TypeId} {args : List Value} {v : Value} (hE : Enters P f) (hargs : xs.toList.map (ev T) = args) (h : ACalls P f args H (Rets v H)) :
    OpQ P ⟨dst, .call { callee := .value (.func f), args := xs, argTypes := ats }, ty, pos, af, g⟩ T H v [] := q_call hE hargs (by simp) (by rw [List.append_nil]; exact h)
theorem q_callv0 {f : FuncId} {x : Operand} {xs : Array Operand} {ats : Array TypeId} {cs : Array Value} {args : List Value} {v : Value} (hE : Enters P f) (hx : ev T x = .func (.func f) #[] cs) (hargs : xs.toList.map (ev T) ++ cs.toList = args) (h : ACalls P f args H (Rets v H)) :
    OpQ P ⟨dst, .call { callee := .value x, args := xs, argTypes := ats }, ty, pos, af, g⟩ T H v [] := q_callv hE hx hargs (by simp) (by rw [List.append_nil]; exact h)
end
section
variable {F : Fence} {n : Nat} {P : Program} {N0 : AHeap} {ops : Array Oper} {o : Oper} {rest : List Oper} {K : ASt → Prop} {nt : Nat} {T : Nat → Value} {D : List Nat} {H H' : AHeap} {d : Tmp} {v : Value} {Δ : AHeap} {tab : List Nat} {i : Nat}
theorem dvb {b : Bool} (hg : GYes ops o T) (hq : OpQ P o T H (.bool b) []) (hd : o.dst = some d) (hn : d < nt) (hc : ∀ x ∈ o.op.operands, cOk H x) (h1 : b = true → dList F n P N0 ops tab (i + 1) rest K ⟨nt, upd T d (.bool true), D, H⟩) (h2 : b = false → dList F n P N0 ops tab (i + 1) rest K ⟨nt, upd T d (.bool false), D, H⟩) :
    dList F n P N0 ops tab i (o :: rest) K ⟨nt, T, D, H⟩ := by
  cases b
  · exact dv hg hq hd hn hc (h2 rfl)
  · exact dv hg hq hd hn hc (h1 rfl)
variable {Q : AEx → ASt → Prop}
theorem awp_cond_t {t : Tmp} {x y : Code} (hc : T t = .bool true) (h : awp F n P N0 x Q ⟨nt, T, D, H⟩) : awp F n P N0 (.cond (.tmp t) x y) Q ⟨nt, T, D, H⟩ := awp_cond (b := true) hc h
theorem awp_cond_f {t : Tmp} {x y : Code} (hc : T t = .bool false) (h : awp F n P N0 y Q ⟨nt, T, D, H⟩) : awp F n P N0 (.cond (.tmp t) x y) Q ⟨nt, T, D, H⟩ := awp_cond (b := false) hc h
variable {op : Op} {ty : TypeId} {pos : String} {af : Array Edge} {g : Option (Nat × Bool)}
theorem df_store1 (hF : Wd F) (fl : List Nat) (hfl : floatOk ops tab i fl = true) (hg : GYes ops ⟨none, op, ty, pos, af, g⟩ T) {t : TypeId} {x y : Operand} {b oo : Nat} {vs : List Value} {sz : Nat} {v : Value} (hop : op = .store t x y) (hs : ∀ w, (sizeOf t).run P w = .ok 1 w) (hx : ev T x = .pointer (some ⟨b, oo, none⟩)) (hy : ev T y = v) (hH : H[b]? = some (.cells true vs sz))
    (hc : Lc H v) (ho : oo < vs.length) (hcx : cOk H x) (hcy : cOk H y) (hH' : H.set b (.cells true (vs.set oo v) sz) = H') (hfx : offF ops fl x = true) (hfy : offF ops fl y = true) (hpd : PendL P ops ⟨nt, T, D, H'⟩ fl) (hk : dList F n P N0 ops tab (i + 1) rest K ⟨nt, T, D, H'⟩) : dList F n P N0 ops tab i (⟨none, op, ty, pos, af, g⟩ :: rest) K ⟨nt, T, D, H⟩ := by
  subst hop; subst hH'
  refine df (v := undef) (H' := H.set b (.cells true (vs.set oo v) sz)) fl hfl hg (fun T' hT K' hk' => ?_) hpd hk
  exact o_store1 hF hs ((offF_ev hfx hT).trans hx) ((offF_ev hfy hT).trans hy) hH hc ho hcx hcy hk'
theorem df_store (hF : Wd F) (fl : List Nat) (hfl : floatOk ops tab i fl = true) (hg : GYes ops ⟨none, op, ty, pos, af, g⟩ T) {t : TypeId} {x y : Operand} {b oo m : Nat} {vs us : List Value} {sz : Nat} {v : Value} (hop : op = .store t x y) (hs : ∀ w, (sizeOf t).run P w = .ok m w) (hx : ev T x = .pointer (some ⟨b, oo, none⟩)) (hy : ev T y = v) (hH : H[b]? = some (.cells true vs sz))
    (hus : v.cells.toList = us) (hm : us.length = m) (hl : Lv H v) (hc : ∀ u ∈ us, Lc H u) (ho : oo + us.length ≤ vs.length) (hcx : cOk H x) (hcy : cOk H y) (hH' : H.set b (.cells true (splice vs oo us) sz) = H') (hfx : offF ops fl x = true) (hfy : offF ops fl y = true) (hpd : PendL P ops ⟨nt, T, D, H'⟩ fl) (hk : dList F n P N0 ops tab (i + 1) rest K ⟨nt, T, D, H'⟩) : dList F n P N0 ops tab i (⟨none, op, ty, pos, af, g⟩ :: rest) K ⟨nt, T, D, H⟩ := by
  subst hop; subst hH'
  refine df (v := undef) (H' := H.set b (.cells true (splice vs oo us) sz)) fl hfl hg (fun T' hT K' hk' => ?_) hpd hk
  exact o_store hF hs ((offF_ev hfx hT).trans hx) ((offF_ev hfy hT).trans hy) hH hus hm hl hc ho hcx hcy trivial hk'
end
/-- Values of a slice's cells, alive. -/
theorem lc_scalar {H : AHeap} {v : Value} (h : Scalar v = true) : Lc H v := by
  refine ⟨?_, ?_⟩
  · cases v with
    | pointer a => cases a with | none => trivial | some a => simp [Scalar] at h
    | slice a n c => cases a with | none => trivial | some a => simp [Scalar] at h
    | map a => cases a with | none => trivial | some a => simp [Scalar] at h
    | func fn fs cs => simp [Scalar] at h
    | chan r => simp [Scalar] at h
    | _ => trivial
  · cases v <;> first | rfl | simp [Scalar] at h
theorem lc_slice {H : AHeap} {b o n c : Nat} (h : H[b]? ≠ some .dead) : Lc H (.slice (some ⟨b, o, none⟩) n c) := ⟨h, rfl⟩
theorem lc_ptr {H : AHeap} {b o : Nat} (h : H[b]? ≠ some .dead) : Lc H (.pointer (some ⟨b, o, none⟩)) := ⟨h, rfl⟩
end Go.Proofs.YtnafdgcikaifmaaGreatA


/-
  The ends of walks: blocks dropped, results.
-/
namespace Go.Proofs.YtnafdgcikaifmaaGreatA
set_option linter.unusedVariables false
open Go Go.RowKit Go.Shelf
/-- No address in sight. -/
def plainV : Value → Bool
  | .agg vs => vs.toList.all Scalar
  | v => Scalar v
def noAddr : Value → Bool
  | .tuple vs => vs.toList.all plainV
  | v => plainV v
theorem getD_mem {vs : Array Value} {i : Nat} (hi : i < vs.size) : vs.getD i undef ∈ vs.toList := by
  rw [Array.getD_eq_getD_getElem?, Array.getElem?_eq_getElem hi]; simp
theorem VSub.plain {φ : Nat → Option Nat} {v : Value} (h : plainV v = true) : VSub φ v v := by
  have hs : Scalar v = true → VSub φ v v := fun h => .scalar h
  cases v with
  | agg vs => exact .agg rfl fun i hi => .scalar (List.all_eq_true.1 h _ (getD_mem hi))
  | _ => exact hs h
theorem VSub.noAddr {φ : Nat → Option Nat} {v : Value} (h : noAddr v = true) : VSub φ v v := by
  have hs : plainV v = true → VSub φ v v := fun h => .plain h
  cases v with
  | tuple vs => exact .tuple rfl fun i hi => .plain (List.all_eq_true.1 h _ (getD_mem hi))
  | _ => exact hs h
/-- New names for local blocks: the i-th is what the js[i]-th was. -/
def keep (n0 : Nat) (js : List Nat) : Nat → Option Nat := fun b => if b < n0 then some b else (js[b - n0]?).map (n0 + ·)
def KSub (φ : Nat → Option Nat) (L : AHeap) : AHeap → List Nat → Prop
  | [], [] => True
  | o2 :: L2, j :: js => (∃ o, L[j]? = some o ∧ OSub φ o2 o) ∧ (∀ vs sz, o2 ≠ .glob vs sz) ∧ KSub φ L L2 js
  | _, _ => False
theorem KSub.length {φ : Nat → Option Nat} {L : AHeap} : ∀ {L2 : AHeap} {js : List Nat}, KSub φ L L2 js → L2.length = js.length
  | [], [], _ => rfl
  | [], _ :: _, h => h.elim
  | _ :: _, [], h => h.elim
  | _ :: L2, _ :: js, h => by simp [KSub.length h.2.2]
theorem KSub.at {φ : Nat → Option Nat} {L : AHeap} : ∀ {L2 : AHeap} {js : List Nat}, KSub φ L L2 js → ∀ (i j : Nat), js[i]? = some j → ∃ (o2 o : AObj), L2[i]? = some o2 ∧ L[j]? = some o ∧ OSub φ o2 o
  | [], [], _, i, j, h => by simp at h
  | [], _ :: _, h, _, _, _ => h.elim
  | _ :: _, [], h, _, _, _ => h.elim
  | o2 :: L2, j' :: js, ⟨⟨o, h1, h2⟩, _, h3⟩, i, j, h => by
    cases i with
    | zero => simp at h; subst h; exact ⟨o2, o, by simp, h1, h2⟩
    | succ i => simpa using KSub.at h3 i j (by simpa using h)
theorem KSub.glob {φ : Nat → Option Nat} {L : AHeap} : ∀ {L2 : AHeap} {js : List Nat}, KSub φ L L2 js → ∀ (i : Nat) (vs : List Value) (sz : Nat), L2[i]? ≠ some (AObj.glob vs sz)
  | [], [], _, i, _, _ => by simp
  | [], _ :: _, h, _, _, _ => h.elim
  | _ :: _, [], h, _, _, _ => h.elim
  | o2 :: L2, j' :: js, ⟨_, h1, h3⟩, i, vs, sz => by
    cases i with
    | zero => simpa using h1 vs sz
    | succ i => simpa using KSub.glob h3 i vs sz
theorem nodup_inj : ∀ {l : List Nat} {i j x : Nat}, l.Nodup → l[i]? = some x → l[j]? = some x → i = j
  | [], i, j, x, _, h, _ => by simp at h
  | y :: l, i, j, x, hn, h, k => by
    obtain ⟨h1, h2⟩ := List.nodup_cons.1 hn
    cases i <;> cases j
    · rfl
    · simp at h k; subst h; exact absurd (List.mem_of_getElem? k) h1
    · simp at h k; subst k; exact absurd (List.mem_of_getElem? h) h1
    · rename_i i j
      simp at h k
      rw [nodup_inj h2 h k]
section
variable {P : Program} {H0 L L2 : AHeap} {n0 nt : Nat} {T T2 : Nat → Value} {fn : Func} {Q : Value → AHeap → Prop} {vs : List Value} {v v2 : Value}
/-- The slots of a list, behind a change of names. -/
def USub (φ : Nat → Option Nat) (T : Nat → Value) : List (Nat × Value) → Prop
  | [] => True
  | (k, v) :: l => VSub φ v (T k) ∧ USub φ T l
end
section
variable {F : Fence} {n : Nat} {P : Program} {N0 : AHeap} {Q : AEx → ASt → Prop} {s : ASt}
theorem awp_exit_wk {id : Nat} (h : ∃ s2, Wk N0 s s2 ∧ Q (.exit id) s2) : awp F n P N0 (.exit id) Q s := by
  obtain ⟨s2, h1, h2⟩ := h; exact awp_wk h1 (awp_exit h2)
theorem awp_ret_wk (h : ∃ s2, Wk N0 s s2 ∧ Q .ret s2) : awp F n P N0 .ret Q s := by
  obtain ⟨s2, h1, h2⟩ := h; exact awp_wk h1 (awp_ret h2)
theorem awp_skip_wk (h : ∃ s2, Wk N0 s s2 ∧ Q .normal s2) : awp F n P N0 .skip Q s := by
  obtain ⟨s2, h1, h2⟩ := h; exact awp_wk h1 (awp_skip h2)
end
end Go.Proofs.YtnafdgcikaifmaaGreatA

