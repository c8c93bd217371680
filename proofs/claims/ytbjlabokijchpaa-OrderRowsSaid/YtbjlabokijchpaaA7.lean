/-
  The quiet operations: reads of memory, places in it, new blocks.
-/
import Derived.Test.YtbjlabokijchpaaA6
namespace Go.Proofs.YtbjlabokijchpaaA
set_option linter.unusedVariables false
open Go Go.RowKit
/-- A block that may be read. -/
def Rd (H : AHeap) (b : Nat) (vs : List Value) (sz : Nat) : Prop := (∃ wr, H[b]? = some (.cells wr vs sz)) ∨ H[b]? = some (.glob vs sz) ∨ (H[b]? = some .null ∧ vs = [])
theorem Rd.live {H : AHeap} {b : Nat} {vs : List Value} {sz : Nat} (h : Rd H b vs sz) : H[b]? ≠ some .dead := by
  rcases h with ⟨wr, h⟩ | h | ⟨h, _⟩ <;> rw [h] <;> simp
theorem Rd.lt {H : AHeap} {b : Nat} {vs : List Value} {sz : Nat} (h : Rd H b vs sz) : b < H.length := by
  rcases h with ⟨wr, h⟩ | h | ⟨h, _⟩ <;> exact (List.getElem?_eq_some_iff.1 h).1
theorem Rd.get {H : AHeap} {b : Nat} {vs : List Value} {sz : Nat} (h : Rd H b vs sz) {ρ : Ren} {w : World} (hh : HRel ρ H w) {l : Loc} (hl : ρ b = .at l) :
    l.sz = sz ∧ ∃ cs T fr, w.heap[l.blk]? = some (.cells cs T fr) ∧ l.base + vs.length ≤ l.lim ∧ l.lim ≤ cs.size ∧ CRel ρ vs cs l.base := by
  obtain ⟨o, h1, h2, h3⟩ := hh.rel b l hl
  rcases h with ⟨wr, h⟩ | h | ⟨h, _⟩ <;> rw [h] at h1 <;> cases h1
  · obtain ⟨h4, cs, T, fr, h5, h6, h7, h8, _⟩ := h3
    exact ⟨h4, cs, T, fr, h5, h6, h7, h8⟩
  · exact h3
  · exact h3.elim
theorem vrel_ptr {ρ : Ren} {H : AHeap} {w : World} (hh : HRel ρ H w) {b o : Nat} {v' : Value} (h : VRel ρ (.pointer (some ⟨b, o, none⟩)) v') (hl : H[b]? ≠ some .dead) : ∃ l, ρ b = .at l ∧ v' = .pointer (some ⟨l.blk, l.base + o, none⟩) := by
  cases h with
  | ptr h => exact ⟨_, h, rfl⟩
  | dead h => exact absurd (hh.isdead b h) hl
theorem vrel_slice {ρ : Ren} {H : AHeap} {w : World} (hh : HRel ρ H w) {b o n c : Nat} {v' : Value} (h : VRel ρ (.slice (some ⟨b, o, none⟩) n c) v') (hl : H[b]? ≠ some .dead) :
    (∃ l o' c', ρ b = .at l ∧ v' = .slice (some ⟨l.blk, o', none⟩) n c' ∧ n ≤ c ∧ c ≤ c' ∧ (o' = l.base + o ∨ c' = 0) ∧ l.base + o + c' * l.sz ≤ l.lim) ∨ (n = 0 ∧ c = 0 ∧ ρ b = .null ∧ ∃ a, v' = .slice a 0 0) := by
  cases h with
  | slice h hn hc ho hr => exact .inl ⟨_, _, _, h, rfl, hn, hc, ho, hr⟩
  | empty h => exact .inr ⟨rfl, rfl, h, _, rfl⟩
  | dead h => exact absurd (hh.isdead b h) hl
theorem add_plain (b o n : Nat) : (⟨b, o, none⟩ : Addr).add n = ⟨b, o + n, none⟩ := by
  unfold Addr.add; split <;> simp_all
theorem cell_at {w : World} {b : Nat} {cs : Array Value} {T : TypeId} {fr : Nat × Nat} (h : w.heap[b]? = some (.cells cs T fr)) {i : Nat} (hi : i < cs.size) : w.cell? ⟨b, i, none⟩ = some (cs.getD i undef) := by
  simp [World.cell?, h, hi]
section
variable {P : Program} {T : Nat → Value} {H : AHeap} {dst : Option Tmp} {ty : TypeId} {pos : String} {af : Array Edge} {g : Option (Nat × Bool)}
theorem run_load_cells {w : World} {b : Nat} {cs : Array Value} {E : TypeId} {fr : Nat × Nat} (h : w.heap[b]? = some (.cells cs E fr)) {i n : Nat} (hi : i + n ≤ cs.size) :
    (loadCells ⟨b, i, none⟩ n).run P w = .ok ((List.range n).map fun j => cs.getD (i + j) undef).toArray w :=
  run_loadCells w ⟨b, i, none⟩ n (fun j => cs.getD (i + j) undef) fun j hj => by rw [add_plain]; exact cell_at h (by omega)
theorem q_load {t : TypeId} {x : Operand} {b o : Nat} {vs : List Value} {sz : Nat} {v : Value} (hu : ∀ w, (isAgg t).run P w = .ok false w) (hp : ev T x = .pointer (some ⟨b, o, none⟩)) (hR : Rd H b vs sz) (hv : vs[o]? = some v) :
    OpQ P ⟨dst, .load t x, ty, pos, af, g⟩ T H v [] :=
  q_val (by simp) fun ρ e w hh he => by
    have h1 := he x (by simp [Op.operands])
    rw [hp] at h1
    obtain ⟨l, hl, h2⟩ := vrel_ptr hh h1 hR.live
    obtain ⟨_, cs, E, fr, h3, h4, h5, h6⟩ := hR.get hh hl
    have ho := (List.getElem?_eq_some_iff.1 hv).1
    have h7 := h6 o ho
    rw [List.getD_eq_getElem?_getD, hv] at h7
    refine ⟨_, run_v ?_, h7⟩
    show (Instr.loadAt t (e x)).run P w = _
    rw [h2]
    show (Sem.run P (do if ← isAgg t then pure (.agg (← loadCells ⟨l.blk, l.base + o, none⟩ (← sizeOf t))) else load ⟨l.blk, l.base + o, none⟩) w) = _
    rw [Sem.run_bind, hu w, Result.andThen_ok]
    simp only [Bool.false_eq_true, if_false]
    rw [run_load, cell_at h3 (by omega)]
theorem q_loadAgg {t : TypeId} {x : Operand} {b o n : Nat} {vs us : List Value} {sz : Nat} (hu : ∀ w, (isAgg t).run P w = .ok true w) (hn : ∀ w, (sizeOf t).run P w = .ok n w) (hp : ev T x = .pointer (some ⟨b, o, none⟩)) (hR : Rd H b vs sz)
    (ho : o + n ≤ vs.length) (hv : (vs.drop o).take n = us) : OpQ P ⟨dst, .load t x, ty, pos, af, g⟩ T H (.agg us.toArray) [] :=
  q_val (by simp) fun ρ e w hh he => by
    have h1 := he x (by simp [Op.operands])
    rw [hp] at h1
    obtain ⟨l, hl, h2⟩ := vrel_ptr hh h1 hR.live
    obtain ⟨_, cs, E, fr, h3, h4, h5, h6⟩ := hR.get hh hl
    refine ⟨.agg ((List.range n).map fun j => cs.getD (l.base + o + j) undef).toArray, run_v ?_, ?_⟩
    · show (Instr.loadAt t (e x)).run P w = _
      rw [h2]
      show (Sem.run P (do if ← isAgg t then pure (.agg (← loadCells ⟨l.blk, l.base + o, none⟩ (← sizeOf t))) else load ⟨l.blk, l.base + o, none⟩) w) = _
      rw [Sem.run_bind, hu w, Result.andThen_ok]
      simp only [if_true, Sem.run_bind, hn w, Result.andThen_ok, run_load_cells h3 (show l.base + o + n ≤ cs.size by omega), Sem.run_pure]
    · have hlen : us.length = n := by rw [← hv]; simp; omega
      refine .agg (by simp [hlen]) fun i hi => ?_
      simp only [List.size_toArray] at hi
      have h7 := h6 (o + i) (by omega)
      have e1 : us.toArray.getD i undef = vs.getD (o + i) undef := by
        simp only [← hv, List.getD_eq_getElem?_getD, Array.getD_eq_getD_getElem?, List.getElem?_toArray, List.getElem?_take, List.getElem?_drop]
        rw [if_pos (by omega)]
      have e2 : ((List.range n).map fun j => cs.getD (l.base + o + j) undef).toArray.getD i undef = cs.getD (l.base + (o + i)) undef := by
        have : i < n := by omega
        simp [this, Nat.add_assoc]
      rw [e1, e2]
      exact h7
theorem q_field {s : TypeId} {x : Operand} {b o i n : Nat} {fs : Array Field} {f : Field} {vs : List Value} {sz : Nat} (hu : P.underlying s = some (.struct fs)) (hf : fs[i]? = some f) (hz : ∀ w, (sizeOf f.type).run P w = .ok (n + 1) w)
    (hp : ev T x = .pointer (some ⟨b, o, none⟩)) (hR : Rd H b vs sz) : OpQ P ⟨dst, .fieldAddr s x i, ty, pos, af, g⟩ T H (.pointer (some ⟨b, o + f.offset, none⟩)) [] :=
  q_val (by simp) fun ρ e w hh he => by
    have h1 := he x (by simp [Op.operands])
    rw [hp] at h1
    obtain ⟨l, hl, h2⟩ := vrel_ptr hh h1 hR.live
    refine ⟨.pointer (some ⟨l.blk, l.base + o + f.offset, none⟩), run_v ?_, ?_⟩
    · show (Instr.fieldAt s (e x) i).run P w = _
      rw [h2]
      unfold Instr.fieldAt
      simp only [Sem.run_bind, run_und hu, Result.andThen_ok, hf]
      simp only [Instr.sureAddr, fieldPlace, Sem.run_bind, Sem.run_pure, Result.andThen_ok, hz w, Nat.add_one_ne_zero, if_false, add_plain]
    · rw [Nat.add_assoc]; exact .ptr hl
theorem run_indexAt_slice {t el : TypeId} {n : Nat} (hu : P.underlying t = some (.slice el)) (hs : ∀ w, (sizeOf el).run P w = .ok n w) {a : Addr} {len c : Nat} {k : IntKind} {i : Nat} (hi : i < len) (w : World) :
    (Instr.indexAt t (.slice (some a) len c) (.int k i)).run P w = .ok (.pointer (some (a.add (i * n)))) w := by
  unfold Instr.indexAt
  have h1 : (0 : Int) ≤ (i : Int) ∧ (i : Int) < (len : Int) := ⟨by omega, by omega⟩
  simp only [asIntOf, Sem.run_bind, Sem.run_pure, Result.andThen_ok, run_und hu]
  simp only [Int.toNat_natCast, if_pos h1, Sem.run_bind, hs w, Result.andThen_ok, Sem.run_pure]
/-- The place of an element of a slice. -/
theorem q_index {t el u : TypeId} {x y : Operand} {b o n len c i : Nat} {k : IntKind} {vs : List Value} {sz : Nat} (hu : P.underlying t = some (.slice el)) (hs : ∀ w, (sizeOf el).run P w = .ok n w)
    (hx : ev T x = .slice (some ⟨b, o, none⟩) len c) (hy : ev T y = .int k i) (hi : i < len) (hR : Rd H b vs sz) : OpQ P ⟨dst, .indexAddr t x y, ty, pos, af, g⟩ T H (.pointer (some ⟨b, o + i * n, none⟩)) [] :=
  q_val (by simp) fun ρ e w hh he => by
    have h1 := he x (by simp [Op.operands])
    have hy1 := he y (by simp [Op.operands])
    rw [hx] at h1
    rw [hy] at hy1
    obtain ⟨l, o', c', hl, h2, h3, h4, h5, h6⟩ | ⟨h, _⟩ := vrel_slice hh h1 hR.live
    case inr => omega
    have h7 : o' = l.base + o := by
      rcases h5 with h | h
      · exact h
      · omega
    have h8 := hy1.scalar_eq rfl
    refine ⟨.pointer (some ⟨l.blk, l.base + (o + i * n), none⟩), run_v ?_, .ptr hl⟩
    show (Instr.indexAt t (e x) (e y)).run P w = _
    rw [h2, h8, run_indexAt_slice hu hs hi, add_plain, h7, Nat.add_assoc]
theorem run_indexAt_array {t el : TypeId} {n len : Nat} (hu : P.underlying t = some (.array len el)) (hs : ∀ w, (sizeOf el).run P w = .ok n w) {a : Addr} {k : IntKind} {i : Nat} (hi : i < len) (w : World) :
    (Instr.indexAt t (.pointer (some a)) (.int k i)).run P w = .ok (.pointer (some (a.add (i * n)))) w := by
  unfold Instr.indexAt
  have h1 : (0 : Int) ≤ (i : Int) ∧ (i : Int) < (len : Int) := ⟨by omega, by omega⟩
  simp only [asIntOf, Sem.run_bind, Sem.run_pure, Result.andThen_ok, run_und hu, Instr.sureAddr]
  simp only [Int.toNat_natCast, if_pos h1, Sem.run_bind, hs w, Result.andThen_ok, Sem.run_pure]
theorem q_indexArr {t el : TypeId} {x y : Operand} {b o n len i : Nat} {k : IntKind} {vs : List Value} {sz : Nat} (hu : P.underlying t = some (.array len el)) (hs : ∀ w, (sizeOf el).run P w = .ok n w)
    (hx : ev T x = .pointer (some ⟨b, o, none⟩)) (hy : ev T y = .int k i) (hi : i < len) (hR : Rd H b vs sz) : OpQ P ⟨dst, .indexAddr t x y, ty, pos, af, g⟩ T H (.pointer (some ⟨b, o + i * n, none⟩)) [] :=
  q_val (by simp) fun ρ e w hh he => by
    have h1 := he x (by simp [Op.operands])
    have hy1 := he y (by simp [Op.operands])
    rw [hx] at h1
    rw [hy] at hy1
    obtain ⟨l, hl, h2⟩ := vrel_ptr hh h1 hR.live
    have h8 := hy1.scalar_eq rfl
    refine ⟨.pointer (some ⟨l.blk, l.base + (o + i * n), none⟩), run_v ?_, .ptr hl⟩
    show (Instr.indexAt t (e x) (e y)).run P w = _
    rw [h2, h8, run_indexAt_array hu hs hi, add_plain, Nat.add_assoc]
/-! Parts of values. -/
theorem vrel_agg {ρ : Ren} {vs : Array Value} {v' : Value} (h : VRel ρ (.agg vs) v') : ∃ vs', v' = .agg vs' ∧ vs.size = vs'.size ∧ ∀ i, i < vs.size → VRel ρ (vs.getD i undef) (vs'.getD i undef) := by
  cases h with
  | agg h1 h2 => exact ⟨_, rfl, h1, h2⟩
  | dead h => exact h.elim
theorem vrel_tuple {ρ : Ren} {vs : Array Value} {v' : Value} (h : VRel ρ (.tuple vs) v') : ∃ vs', v' = .tuple vs' ∧ vs.size = vs'.size ∧ ∀ i, i < vs.size → VRel ρ (vs.getD i undef) (vs'.getD i undef) := by
  cases h with
  | tuple h1 h2 => exact ⟨_, rfl, h1, h2⟩
  | dead h => exact h.elim
theorem q_extract {x : Operand} {i : Nat} {vs : Array Value} {v : Value} (hx : ev T x = .tuple vs) (hv : vs[i]? = some v) : OpQ P ⟨dst, .extract x i, ty, pos, af, g⟩ T H v [] :=
  q_val (by simp) fun ρ e w hh he => by
    have h1 := he x (by simp [Op.operands])
    rw [hx] at h1
    obtain ⟨vs', h2, h3, h4⟩ := vrel_tuple h1
    have hi := (Array.getElem?_eq_some_iff.1 hv).1
    have h5 := h4 i hi
    rw [Array.getD_eq_getD_getElem?, hv, Option.getD_some, Array.getD_eq_getD_getElem?, Array.getElem?_eq_getElem (by omega : i < vs'.size), Option.getD_some] at h5
    refine ⟨_, run_v ?_, h5⟩
    show (Instr.extract (e x) i).run P w = _
    rw [h2]
    unfold Instr.extract
    simp only [Array.getElem?_eq_getElem (by omega : i < vs'.size), Sem.run_pure]
/-- A field of a struct's value: one cell. -/
theorem q_fieldv {s : TypeId} {x : Operand} {i : Nat} {fs : Array Field} {f : Field} {vs : Array Value} {v : Value} (hu : P.underlying s = some (.struct fs)) (hf : fs[i]? = some f) (ha : ∀ w, (isAgg f.type).run P w = .ok false w)
    (hx : ev T x = .agg vs) (hv : vs[f.offset]? = some v) : OpQ P ⟨dst, .field s x i, ty, pos, af, g⟩ T H v [] :=
  q_val (by simp) fun ρ e w hh he => by
    have h1 := he x (by simp [Op.operands])
    rw [hx] at h1
    obtain ⟨vs', h2, h3, h4⟩ := vrel_agg h1
    have hi := (Array.getElem?_eq_some_iff.1 hv).1
    have h5 := h4 _ hi
    rw [Array.getD_eq_getD_getElem?, hv, Option.getD_some, Array.getD_eq_getD_getElem?, Array.getElem?_eq_getElem (by omega : f.offset < vs'.size), Option.getD_some] at h5
    refine ⟨_, run_v ?_, h5⟩
    show (Instr.field s (e x) i).run P w = _
    rw [h2]
    unfold Instr.field
    simp only [Sem.run_bind, run_und hu, Result.andThen_ok, hf]
    simp only [part, asAgg, Sem.run_bind, Sem.run_pure, Result.andThen_ok, ha w, Bool.false_eq_true, if_false]
    rw [Array.getElem?_eq_getElem (by omega : f.offset < vs'.size)]
    rfl
theorem vrel_extract {ρ : Ren} {vs vs' : Array Value} (h1 : vs.size = vs'.size) (h2 : ∀ i, i < vs.size → VRel ρ (vs.getD i undef) (vs'.getD i undef)) (a b : Nat) : VRel ρ (.agg (vs.extract a b)) (.agg (vs'.extract a b)) := by
  refine .agg (by simp [h1]) fun i hi => ?_
  have hi' : i < min b vs.size - a := by simpa using hi
  have := h2 (a + i) (by omega)
  simpa [Array.getElem?_extract, hi', show i < min b vs'.size - a by omega, show a + i < vs.size by omega, show a + i < vs'.size by omega] using this
theorem q_fieldvAgg {s : TypeId} {x : Operand} {i n : Nat} {fs : Array Field} {f : Field} {vs : Array Value} (hu : P.underlying s = some (.struct fs)) (hf : fs[i]? = some f) (ha : ∀ w, (isAgg f.type).run P w = .ok true w) (hz : ∀ w, (sizeOf f.type).run P w = .ok n w)
    (hx : ev T x = .agg vs) : OpQ P ⟨dst, .field s x i, ty, pos, af, g⟩ T H (.agg (vs.extract f.offset (f.offset + n))) [] :=
  q_val (by simp) fun ρ e w hh he => by
    have h1 := he x (by simp [Op.operands])
    rw [hx] at h1
    obtain ⟨vs', h2, h3, h4⟩ := vrel_agg h1
    refine ⟨.agg (vs'.extract f.offset (f.offset + n)), run_v ?_, vrel_extract h3 h4 _ _⟩
    show (Instr.field s (e x) i).run P w = _
    rw [h2]
    unfold Instr.field
    simp only [Sem.run_bind, run_und hu, Result.andThen_ok, hf]
    simp only [part, asAgg, Sem.run_bind, Sem.run_pure, Result.andThen_ok, ha w, if_true, hz w]
/-! Lengths, the lesser, the greater. -/
theorem run_builtin {b : Builtin} {args : Array Operand} {ats : Array TypeId} {e : Operand → Value} {w w' : World} {v : Value} {us : Array Value} (hus : args.map e = us) (h : (builtin b ats ty (args.map fun | .const _ => true | _ => false) us).run P w = .ok (.value v) w') :
    (execOp e ⟨dst, .call { callee := .builtin b, args := args, argTypes := ats }, ty, pos, af, g⟩).run P w = .ok (.value v) w' := by
  show (Sem.run P (do let d ← resolve e _ ty; invoke d.target d.args) w) = _
  unfold resolve
  simp only [Sem.run_bind, Sem.run_pure, Result.andThen_ok, hus]
  exact h
theorem q_len_str {t : TypeId} {x : Operand} {s : ByteArray} (hu : P.underlying t = some .string) (hx : ev T x = .string s) : OpQ P ⟨dst, .call { callee := .builtin .len, args := #[x], argTypes := #[t] }, ty, pos, af, g⟩ T H (.int .i64 s.size) [] :=
  q_val (by simp) fun ρ e w hh he => by
    have h1 := he x (by simp [Op.operands, Call.operands])
    rw [hx] at h1
    refine ⟨_, run_builtin (us := #[e x]) (by simp) (run_v ?_), .int _ _⟩
    show (Builtin.len_ #[t] ty #[e x]).run P w = _
    rw [h1.scalar_eq rfl]
    unfold Builtin.len_
    simp only [List.getElem?_toArray, List.getElem?_cons_zero, Sem.run_bind, run_und hu, Result.andThen_ok]
    rfl
theorem q_len_slice {t el : TypeId} {x : Operand} {b o n c : Nat} {vs : List Value} {sz : Nat} (hu : P.underlying t = some (.slice el)) (hx : ev T x = .slice (some ⟨b, o, none⟩) n c) (hR : Rd H b vs sz) : OpQ P ⟨dst, .call { callee := .builtin .len, args := #[x], argTypes := #[t] }, ty, pos, af, g⟩ T H (.int .i64 n) [] :=
  q_val (by simp) fun ρ e w hh he => by
    have h1 := he x (by simp [Op.operands, Call.operands])
    rw [hx] at h1
    have h2 : ∃ a c', e x = .slice a n c' := by
      rcases vrel_slice hh h1 hR.live with ⟨l, o', c', hl, h2, _⟩ | ⟨h3, _, _, a, h2⟩
      · exact ⟨_, _, h2⟩
      · exact ⟨_, _, by rw [h2, h3]⟩
    obtain ⟨a, c', h2⟩ := h2
    refine ⟨_, run_builtin (us := #[e x]) (by simp) (run_v ?_), .int _ _⟩
    show (Builtin.len_ #[t] ty #[e x]).run P w = _
    rw [h2]
    unfold Builtin.len_
    simp only [List.getElem?_toArray, List.getElem?_cons_zero, Sem.run_bind, run_und hu, Result.andThen_ok]
    rfl
theorem q_len_nil {t el : TypeId} {x : Operand} (hu : P.underlying t = some (.slice el)) (hx : ev T x = .slice none 0 0) : OpQ P ⟨dst, .call { callee := .builtin .len, args := #[x], argTypes := #[t] }, ty, pos, af, g⟩ T H (.int .i64 0) [] :=
  q_val (by simp) fun ρ e w hh he => by
    have h1 := he x (by simp [Op.operands, Call.operands])
    rw [hx] at h1
    refine ⟨_, run_builtin (us := #[e x]) (by simp) (run_v ?_), .int _ _⟩
    show (Builtin.len_ #[t] ty #[e x]).run P w = _
    rw [h1.scalar_eq rfl]
    unfold Builtin.len_
    simp only [List.getElem?_toArray, List.getElem?_cons_zero, Sem.run_bind, run_und hu, Result.andThen_ok]
    rfl
theorem q_min {x y : Operand} {ats : Array TypeId} {k k' : IntKind} {a b : Int} (hx : ev T x = .int k a) (hy : ev T y = .int k' b) : OpQ P ⟨dst, .call { callee := .builtin .min, args := #[x, y], argTypes := ats }, ty, pos, af, g⟩ T H (.int k (if b < a then b else a)) [] :=
  q_val (by simp) fun ρ e w hh he => by
    have h1 := he x (by simp [Op.operands, Call.operands])
    have h2 := he y (by simp [Op.operands, Call.operands])
    rw [hx] at h1
    rw [hy] at h2
    refine ⟨_, run_builtin (us := #[e x, e y]) (by simp) (run_v ?_), .int _ _⟩
    show (Builtin.min_ ats ty #[e x, e y]).run P w = _
    rw [h1.scalar_eq rfl, h2.scalar_eq rfl]
    rfl
theorem q_max {x y : Operand} {ats : Array TypeId} {k k' : IntKind} {a b : Int} (hx : ev T x = .int k a) (hy : ev T y = .int k' b) : OpQ P ⟨dst, .call { callee := .builtin .max, args := #[x, y], argTypes := ats }, ty, pos, af, g⟩ T H (.int k (if b > a then b else a)) [] :=
  q_val (by simp) fun ρ e w hh he => by
    have h1 := he x (by simp [Op.operands, Call.operands])
    have h2 := he y (by simp [Op.operands, Call.operands])
    rw [hx] at h1
    rw [hy] at h2
    refine ⟨_, run_builtin (us := #[e x, e y]) (by simp) (run_v ?_), .int _ _⟩
    show (Builtin.max_ ats ty #[e x, e y]).run P w = _
    rw [h1.scalar_eq rfl, h2.scalar_eq rfl]
    rfl
end
end Go.Proofs.YtbjlabokijchpaaA
