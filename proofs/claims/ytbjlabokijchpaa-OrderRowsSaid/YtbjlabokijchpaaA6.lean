/-
  The quiet operations, one by one: numbers, texts, reads of memory, new blocks.
-/
import Derived.Test.YtbjlabokijchpaaA5
import Derived.IntWalk
namespace Go.Proofs.YtbjlabokijchpaaA
set_option linter.unusedVariables false
open Go Go.RowKit
section
variable {P : Program} {T : Nat → Value} {H : AHeap} {dst : Option Tmp} {ty : TypeId} {pos : String} {af : Array Edge} {g : Option (Nat × Bool)}

/-- What turns no block. -/
theorem q_val {o : Oper} {v : Value} (hnd : ∀ c, o.op ≠ .defer c)
    (h : ∀ ρ e w, HRel ρ H w → (∀ x ∈ o.op.operands, VRel ρ (ev T x) (e x)) → ∃ v', (execOp e o).run P w = .ok (.value v') w ∧ VRel ρ v v') : OpQ P o T H v [] := by
  refine ⟨hnd, by simp, fun ρ e w hh he => ?_⟩
  obtain ⟨v', h1, h2⟩ := h ρ e w hh he
  rw [h1]
  exact ⟨ρ, h2, by simpa using hh, .refl hh⟩
theorem q_move {x : Operand} : OpQ P ⟨dst, .move x, ty, pos, af, g⟩ T H (ev T x) [] :=
  q_val (by simp) fun ρ e w hh he => ⟨e x, rfl, he x (by simp [Op.operands])⟩
theorem q_assign {x : Operand} : OpQ P ⟨dst, .assign x, ty, pos, af, g⟩ T H (ev T x) [] :=
  q_val (by simp) fun ρ e w hh he => ⟨e x, rfl, he x (by simp [Op.operands])⟩
theorem q_pick_t {c x y : Operand} (hc : ev T c = .bool true) : OpQ P ⟨dst, .pick c x y, ty, pos, af, g⟩ T H (ev T x) [] :=
  q_val (by simp) fun ρ e w hh he => by
    have h1 := he c (by simp [Op.operands])
    rw [hc] at h1
    have h2 := vrel_bool h1
    exact ⟨e x, by simp [execOp, h2, asBool, go_sem], he x (by simp [Op.operands])⟩
theorem q_pick_f {c x y : Operand} (hc : ev T c = .bool false) : OpQ P ⟨dst, .pick c x y, ty, pos, af, g⟩ T H (ev T y) [] :=
  q_val (by simp) fun ρ e w hh he => by
    have h1 := he c (by simp [Op.operands])
    rw [hc] at h1
    have h2 := vrel_bool h1
    exact ⟨e y, by simp [execOp, h2, asBool, go_sem], he y (by simp [Op.operands])⟩
theorem run_v {s : Sem Value} {v : Value} {w w' : World} (h : s.run P w = .ok v w') : (do pure (.value (← s)) : Sem Next).run P w = .ok (.value v) w' := by
  rw [Sem.run_bind, h]; rfl
theorem run_und {t : TypeId} {d : TypeDesc} (h : P.underlying t = some d) (w : World) : (underlying t).run P w = .ok d w := by
  simp [underlying, program, Sem.run_bind, Sem.run, h]
/-! Numbers. -/
def iop (op : BinOp) (k : IntKind) (a b : Int) : Option Value :=
  match op with
  | .add => some (.int k (k.wrap (a + b)))
  | .sub => some (.int k (k.wrap (a - b)))
  | .mul => some (.int k (k.wrap (a * b)))
  | .and => some (.int k (k.wrap (BitVec.ofInt k.bits a &&& BitVec.ofInt k.bits b).toNat))
  | .or => some (.int k (k.wrap (BitVec.ofInt k.bits a ||| BitVec.ofInt k.bits b).toNat))
  | .xor => some (.int k (k.wrap (BitVec.ofInt k.bits a ^^^ BitVec.ofInt k.bits b).toNat))
  | .andNot => some (.int k (k.wrap (BitVec.ofInt k.bits a &&& ~~~BitVec.ofInt k.bits b).toNat))
  | .eql => some (.bool (a == b))
  | .neq => some (.bool (a != b))
  | .lss => some (.bool (decide (a < b)))
  | .leq => some (.bool (decide (a ≤ b)))
  | .gtr => some (.bool (decide (b < a)))
  | .geq => some (.bool (decide (b ≤ a)))
  | _ => none
theorem iop_scalar {op : BinOp} {k : IntKind} {a b : Int} {v : Value} (h : iop op k a b = some v) : Scalar v = true := by
  cases op <;> simp [iop] at h <;> subst h <;> rfl
theorem q_int {op : BinOp} {t u : TypeId} {x y : Operand} {k : IntKind} {a b : Int} {v : Value} (hx : ev T x = .int k a) (hy : ev T y = .int k b) (hv : iop op k a b = some v) :
    OpQ P ⟨dst, .binOp op t x y u, ty, pos, af, g⟩ T H v [] := by
  refine q_scalar (by simp) (by simp) (fun z hz => ?_) (iop_scalar hv) (fun w => ?_)
  · simp only [Op.operands, List.mem_toArray, List.mem_cons, List.not_mem_nil, or_false] at hz
    rcases hz with rfl | rfl
    · rw [hx]; rfl
    · rw [hy]; rfl
  · have h1 : eqGuard op t x y (.int k a) (.int k b) = Sem.pure () := by cases op <;> rfl
    have h2 : binOp op t (.int k a) (.int k b) = Sem.pure v := by
      cases op <;> simp only [iop, Option.some.injEq, reduceCtorEq] at hv <;> subst hv <;> simp only [binOp, ne_eq, not_true_eq_false, if_false] <;> rfl
    simp only [execOp, hx, hy, h1, h2]
    rfl
theorem q_quo {t u : TypeId} {x y : Operand} {k : IntKind} {a b : Int} (hx : ev T x = .int k a) (hy : ev T y = .int k b) (hb : b ≠ 0) :
    OpQ P ⟨dst, .binOp .quo t x y u, ty, pos, af, g⟩ T H (.int k (k.wrap (a.tdiv b))) [] := by
  refine q_scalar (by simp) (by simp) (fun z hz => ?_) rfl (fun w => ?_)
  · simp only [Op.operands, List.mem_toArray, List.mem_cons, List.not_mem_nil, or_false] at hz
    rcases hz with rfl | rfl
    · rw [hx]; rfl
    · rw [hy]; rfl
  · simp [execOp, hx, hy, eqGuard, binOp, Op.intDiv, hb, go_sem]
theorem q_rem {t u : TypeId} {x y : Operand} {k : IntKind} {a b : Int} (hx : ev T x = .int k a) (hy : ev T y = .int k b) (hb : b ≠ 0) :
    OpQ P ⟨dst, .binOp .rem t x y u, ty, pos, af, g⟩ T H (.int k (a.tmod b)) [] := by
  refine q_scalar (by simp) (by simp) (fun z hz => ?_) rfl (fun w => ?_)
  · simp only [Op.operands, List.mem_toArray, List.mem_cons, List.not_mem_nil, or_false] at hz
    rcases hz with rfl | rfl
    · rw [hx]; rfl
    · rw [hy]; rfl
  · simp [execOp, hx, hy, eqGuard, binOp, Op.intDiv, hb, go_sem]
theorem q_shl {t u : TypeId} {x y : Operand} {k k' : IntKind} {a b : Int} (hx : ev T x = .int k a) (hy : ev T y = .int k' b) (hb : 0 ≤ b) :
    OpQ P ⟨dst, .binOp .shl t x y u, ty, pos, af, g⟩ T H (.int k (k.wrap (a * 2 ^ (min b.toNat k.bits)))) [] := by
  refine q_scalar (by simp) (by simp) (fun z hz => ?_) rfl (fun w => ?_)
  · simp only [Op.operands, List.mem_toArray, List.mem_cons, List.not_mem_nil, or_false] at hz
    rcases hz with rfl | rfl
    · rw [hx]; rfl
    · rw [hy]; rfl
  · simp [execOp, hx, hy, eqGuard, binOp, Op.shift, show ¬ b < 0 by omega, go_sem]
theorem q_shr {t u : TypeId} {x y : Operand} {k k' : IntKind} {a b : Int} (hx : ev T x = .int k a) (hy : ev T y = .int k' b) (hb : 0 ≤ b) :
    OpQ P ⟨dst, .binOp .shr t x y u, ty, pos, af, g⟩ T H (.int k (a.fdiv (2 ^ (min b.toNat k.bits)))) [] := by
  refine q_scalar (by simp) (by simp) (fun z hz => ?_) rfl (fun w => ?_)
  · simp only [Op.operands, List.mem_toArray, List.mem_cons, List.not_mem_nil, or_false] at hz
    rcases hz with rfl | rfl
    · rw [hx]; rfl
    · rw [hy]; rfl
  · simp [execOp, hx, hy, eqGuard, binOp, Op.shift, show ¬ b < 0 by omega, go_sem]
theorem q_not {t : TypeId} {x : Operand} {b : Bool} (hx : ev T x = .bool b) : OpQ P ⟨dst, .unOp .not t x, ty, pos, af, g⟩ T H (.bool (!b)) [] := by
  refine q_scalar (by simp) (by simp) (fun z hz => ?_) rfl (fun w => ?_)
  · simp only [Op.operands, List.mem_toArray, List.mem_cons, List.not_mem_nil, or_false] at hz
    subst hz; rw [hx]; rfl
  · simp [execOp, hx, Op.unary, go_sem]
theorem q_neg {t : TypeId} {x : Operand} {k : IntKind} {a : Int} (hx : ev T x = .int k a) : OpQ P ⟨dst, .unOp .neg t x, ty, pos, af, g⟩ T H (.int k (k.wrap (0 - a))) [] := by
  refine q_scalar (by simp) (by simp) (fun z hz => ?_) rfl (fun w => ?_)
  · simp only [Op.operands, List.mem_toArray, List.mem_cons, List.not_mem_nil, or_false] at hz
    subst hz; rw [hx]; rfl
  · simp [execOp, hx, Op.unary, Op.intArith, go_sem]
theorem q_compl {t : TypeId} {x : Operand} {k : IntKind} {a : Int} (hx : ev T x = .int k a) : OpQ P ⟨dst, .unOp .xor t x, ty, pos, af, g⟩ T H (.int k (k.wrap (BitVec.ofInt k.bits (if k.signed then -1 else k.max) ^^^ BitVec.ofInt k.bits a).toNat)) [] := by
  refine q_scalar (by simp) (by simp) (fun z hz => ?_) rfl (fun w => ?_)
  · simp only [Op.operands, List.mem_toArray, List.mem_cons, List.not_mem_nil, or_false] at hz
    subst hz; rw [hx]; rfl
  · simp only [execOp, hx]
    rfl
theorem q_conv {s d : TypeId} {x : Operand} {k k' : IntKind} {a : Int} {u : TypeDesc} (hs : P.underlying s = some u) (hd : P.underlying d = some (.int k')) (hx : ev T x = .int k a) :
    OpQ P ⟨dst, .convert s d x, ty, pos, af, g⟩ T H (.int k' (k'.wrap a)) [] := by
  refine q_scalar (by simp) (by simp) (fun z hz => ?_) rfl (fun w => ?_)
  · simp only [Op.operands, List.mem_toArray, List.mem_cons, List.not_mem_nil, or_false] at hz
    subst hz; rw [hx]; rfl
  · refine run_v ?_
    show (convert s d (ev T x)).run P w = _
    rw [hx]
    unfold convert
    rw [Sem.run_bind, run_und hs]
    simp only [Result.andThen_ok, Sem.run_bind, run_und hd]
    rfl
theorem q_booleq {t u : TypeId} {x y : Operand} {a b : Bool} (hu : P.underlying t = some .bool) (hx : ev T x = .bool a) (hy : ev T y = .bool b) :
    OpQ P ⟨dst, .binOp .eql t x y u, ty, pos, af, g⟩ T H (.bool (a == b)) [] := by
  refine q_scalar (by simp) (by simp) (fun z hz => ?_) rfl (fun w => ?_)
  · simp only [Op.operands, List.mem_toArray, List.mem_cons, List.not_mem_nil, or_false] at hz
    rcases hz with rfl | rfl
    · rw [hx]; rfl
    · rw [hy]; rfl
  · refine run_v ?_
    have h1 : eqGuard .eql t x y (ev T x) (ev T y) = Sem.pure () := by rw [hx, hy]; rfl
    have h2 : binOp .eql t (ev T x) (ev T y) = (do pure (Value.bool (← Op.equal t (.bool a) (.bool b)))) := by rw [hx, hy]; rfl
    show (Sem.bind (eqGuard .eql t x y (ev T x) (ev T y)) fun _ => binOp .eql t (ev T x) (ev T y)).run P w = _
    rw [h1, h2]
    show (Sem.bind (Op.equal t (.bool a) (.bool b)) fun r => pure (Value.bool r)).run P w = _
    have h3 := Go.run_equal_bool (P := P) w t a b hu
    have h4 := Sem.run_bind' P (Op.equal t (.bool a) (.bool b)) (fun r => (pure (Value.bool r) : Sem Value)) w
    rw [h3] at h4
    exact h4
theorem q_boolne {t u : TypeId} {x y : Operand} {a b : Bool} (hu : P.underlying t = some .bool) (hx : ev T x = .bool a) (hy : ev T y = .bool b) :
    OpQ P ⟨dst, .binOp .neq t x y u, ty, pos, af, g⟩ T H (.bool (a != b)) [] := by
  refine q_scalar (by simp) (by simp) (fun z hz => ?_) rfl (fun w => ?_)
  · simp only [Op.operands, List.mem_toArray, List.mem_cons, List.not_mem_nil, or_false] at hz
    rcases hz with rfl | rfl
    · rw [hx]; rfl
    · rw [hy]; rfl
  · refine run_v ?_
    have h1 : eqGuard .neq t x y (ev T x) (ev T y) = Sem.pure () := by rw [hx, hy]; rfl
    have h2 : binOp .neq t (ev T x) (ev T y) = (do pure (Value.bool (!(← Op.equal t (.bool a) (.bool b))))) := by rw [hx, hy]; rfl
    show (Sem.bind (eqGuard .neq t x y (ev T x) (ev T y)) fun _ => binOp .neq t (ev T x) (ev T y)).run P w = _
    rw [h1, h2]
    show (Sem.bind (Op.equal t (.bool a) (.bool b)) fun r => pure (Value.bool (!r))).run P w = _
    have h3 := Go.run_equal_bool (P := P) w t a b hu
    have h4 := Sem.run_bind' P (Op.equal t (.bool a) (.bool b)) (fun r => (pure (Value.bool (!r)) : Sem Value)) w
    rw [h3] at h4
    exact h4
/-! Texts. -/
theorem q_cat {t u : TypeId} {x y : Operand} {a b : ByteArray} (hx : ev T x = .string a) (hy : ev T y = .string b) (hl : a.size + b.size ≤ 9223372036854775807) :
    OpQ P ⟨dst, .binOp .add t x y u, ty, pos, af, g⟩ T H (.string (a ++ b)) [] := by
  refine q_scalar (by simp) (by simp) (fun z hz => ?_) rfl (fun w => ?_)
  · simp only [Op.operands, List.mem_toArray, List.mem_cons, List.not_mem_nil, or_false] at hz
    rcases hz with rfl | rfl
    · rw [hx]; rfl
    · rw [hy]; rfl
  · have : ¬ (((a.size + b.size : Nat) : Int) > IntKind.i64.max) := by simp [IntKind.max, IntKind.signed, IntKind.bits]; omega
    simp only [execOp, hx, hy, eqGuard, binOp, Op.stringOp, if_neg this, go_sem]
    simp [go_sem]
theorem bytes_list_inj {a b : ByteArray} : (a.toList == b.toList) = decide (a = b) := by
  have h : a.toList = b.toList ↔ a = b := by
    constructor
    · intro h
      have h1 : a.data.toList = b.data.toList := by simpa [ByteArray.toList_eq] using h
      cases a; cases b
      simp at h1 ⊢
      exact h1
    · rintro rfl; rfl
  by_cases e : a = b
  · simp [e]
  · simp [e, mt h.1 e]
theorem q_streq {t u : TypeId} {x y : Operand} {a b : ByteArray} (hx : ev T x = .string a) (hy : ev T y = .string b) :
    OpQ P ⟨dst, .binOp .eql t x y u, ty, pos, af, g⟩ T H (.bool (decide (a = b))) [] := by
  refine q_scalar (by simp) (by simp) (fun z hz => ?_) rfl (fun w => ?_)
  · simp only [Op.operands, List.mem_toArray, List.mem_cons, List.not_mem_nil, or_false] at hz
    rcases hz with rfl | rfl
    · rw [hx]; rfl
    · rw [hy]; rfl
  · rw [← bytes_list_inj]; simp [execOp, hx, hy, eqGuard, binOp, Op.stringOp, go_sem]
theorem q_strne {t u : TypeId} {x y : Operand} {a b : ByteArray} (hx : ev T x = .string a) (hy : ev T y = .string b) :
    OpQ P ⟨dst, .binOp .neq t x y u, ty, pos, af, g⟩ T H (.bool (!decide (a = b))) [] := by
  refine q_scalar (by simp) (by simp) (fun z hz => ?_) rfl (fun w => ?_)
  · simp only [Op.operands, List.mem_toArray, List.mem_cons, List.not_mem_nil, or_false] at hz
    rcases hz with rfl | rfl
    · rw [hx]; rfl
    · rw [hy]; rfl
  · rw [← bytes_list_inj]; simp [execOp, hx, hy, eqGuard, binOp, Op.stringOp, go_sem]
theorem q_strix {t : TypeId} {x y : Operand} {s : ByteArray} {k : IntKind} {i : Nat} (hu : P.underlying t = some .string) (hx : ev T x = .string s) (hy : ev T y = .int k i) (hi : i < s.size) :
    OpQ P ⟨dst, .index t x y, ty, pos, af, g⟩ T H (.int .u8 (s[i].toNat)) [] := by
  refine q_scalar (by simp) (by simp) (fun z hz => ?_) rfl (fun w => ?_)
  · simp only [Op.operands, List.mem_toArray, List.mem_cons, List.not_mem_nil, or_false] at hz
    rcases hz with rfl | rfl
    · rw [hx]; rfl
    · rw [hy]; rfl
  · have : s[(i : Int).toNat]? = some s[i] := by simp [hi]
    refine run_v ?_
    show (Instr.index t (ev T x) (ev T y)).run P w = _
    rw [hx, hy]
    unfold Instr.index
    simp only [asIntOf, Sem.run_bind, Sem.run_pure, Result.andThen_ok, run_und hu]
    simp [this, hi]
theorem run_sliceBound {x : Value} {k : IntKind} {i : Nat} {y : Nat} {code : BoundsCode} (hx : x = .int k i) (h : i ≤ y) (w : World) : (Instr.sliceBound x y code).run P w = .ok i w := by
  subst hx
  simp [Instr.sliceBound, asIntOf, go_sem, h]
theorem q_substr {t : TypeId} {x : Operand} {lo hi : Option Operand} {s : ByteArray} {i j : Nat} (hu : P.underlying t = some .string) (hx : ev T x = .string s)
    (hlo : match lo with | some y => ∃ k, ev T y = .int k i | none => i = 0) (hhi : match hi with | some y => ∃ k, ev T y = .int k j | none => j = s.size) (hij : i ≤ j) (hj : j ≤ s.size) :
    OpQ P ⟨dst, .slice t x lo hi none, ty, pos, af, g⟩ T H (.string (s.extract i j)) [] := by
  refine q_scalar (by simp) (by simp) (fun z hz => ?_) rfl (fun w => ?_)
  · simp only [Op.operands, Array.mem_append, Option.mem_toArray] at hz
    rcases hz with (((hz | hz) | hz) | hz)
    · simp at hz; subst hz; rw [hx]; rfl
    · subst hz; obtain ⟨k, h⟩ := hlo; rw [h]; rfl
    · subst hz; obtain ⟨k, h⟩ := hhi; rw [h]; rfl
    · cases hz
  · cases lo <;> cases hi <;> dsimp only at hlo hhi
    · subst hlo; subst hhi
      refine run_v ?_
      show (Instr.sliceAt t (ev T x) _ _ _).run P w = _
      simp [hx, Instr.sliceAt, Instr.slice, Instr.sliceBounds, run_und hu]
    · obtain ⟨k, h⟩ := hhi
      subst hlo
      refine run_v ?_
      show (Instr.sliceAt t (ev T x) _ _ _).run P w = _
      simp [hx, Instr.sliceAt, Instr.slice, Instr.sliceBounds, run_und hu, run_sliceBound h hj]
    · obtain ⟨k, h⟩ := hlo
      subst hhi
      refine run_v ?_
      show (Instr.sliceAt t (ev T x) _ _ _).run P w = _
      simp [hx, Instr.sliceAt, Instr.slice, Instr.sliceBounds, run_und hu, run_sliceBound h hij]
    · obtain ⟨k, h⟩ := hlo
      obtain ⟨k', h'⟩ := hhi
      refine run_v ?_
      show (Instr.sliceAt t (ev T x) _ _ _).run P w = _
      simp [hx, Instr.sliceAt, Instr.slice, Instr.sliceBounds, run_und hu, run_sliceBound h hij, run_sliceBound h' hj]
end
end Go.Proofs.YtbjlabokijchpaaA
