/-
  More quiet operations: new slices, texts of bytes.
-/
import Derived.Test.YtbjlabokijchpaaA16
namespace Go.Proofs.YtbjlabokijchpaaA
set_option linter.unusedVariables false
open Go Go.RowKit Go.Shelf
section
variable {P : Program} {T : Nat → Value} {H : AHeap} {dst : Option Tmp} {ty : TypeId} {pos : String} {af : Array Edge} {g : Option (Nat × Bool)}
theorem q_makeSlice {t el : TypeId} {x y : Operand} {k k' : IntKind} {len m n N : Nat} {i : TypeInfo} {z : Value} {vs : List Value} (hN : H.length = N) (hu : P.underlying t = some (.slice el)) (hi : ∀ w, (typeInfo el).run P w = .ok i w) (hsz : i.size = n) (hz : ∀ w, (zeroValue el).run P w = .ok z w) (hf : z.cells.toList.all Scalar = true) (hzn : 0 < z.cells.size)
    (hx : ev T x = .int k (len : Int)) (hy : ev T y = .int k' (m : Int)) (hlm : len ≤ m) (hm : m ≤ 140737488355328) (hlim : i.bytes * m ≤ 281474976710656) (hvs : (List.range (m * n)).map (fun j => z.cells.toList.getD (j % z.cells.size) undef) = vs) :
    OpQ P ⟨dst, .makeSlice t x y, ty, pos, af, g⟩ T H (.slice (some ⟨N, 0, none⟩) len m) [.cells true vs n] := by
  subst hN hvs
  refine ⟨by simp, by simp [AObj.wr], fun ρ e w hh he => ?_⟩
  have h1 := he x (by simp [Op.operands])
  have h2 := he y (by simp [Op.operands])
  rw [hx] at h1
  rw [hy] at h2
  have e1 := h1.scalar_eq rfl
  have e2 := h2.scalar_eq rfl
  have hro : ∀ (k : Nat) (w : World), (askRoom k).run P w = .ok () w := fun k w => by
    unfold askRoom; split <;> rfl
  have hr : (execOp e ⟨dst, .makeSlice t x y, ty, pos, af, g⟩).run P w = .ok (.value (.slice (some ⟨w.heap.size, 0, none⟩) len m)) (w.alloc (.cells ((Array.range (m * n)).map (fun j => z.cells.toList.getD (j % z.cells.size) undef)) el)) := by
    refine run_v ?_
    show (Instr.makeSlice t (e x) (e y)).run P w = _
    rw [e1, e2]
    unfold Instr.makeSlice
    have w1 : IntKind.i64.wrap (len : Int) = len := i64_in ⟨by omega, by omega⟩
    have w2 : IntKind.i64.wrap (m : Int) = m := i64_in ⟨by omega, by omega⟩
    have c1 : ((m : Int) < 0) = False := eq_false (by omega)
    have c2' : ((i.bytes * m : Nat) : Int) ≤ ((281474976710656 : Nat) : Int) := Int.ofNat_le.2 hlim
    have c2 : ((i.bytes : Int) * (m : Int) > 2 ^ 48) = False := eq_false (Int.not_lt.2 (by rw [Int.natCast_mul] at c2'; exact c2'))
    have c3 : ((len : Int) < 0) = False := eq_false (by omega)
    have c4 : ((len : Int) > (m : Int)) = False := eq_false (by omega)
    simp only [Sem.run_bind, run_und hu, Result.andThen_ok, asInt, asIntOf, Sem.run_pure, hi w, w1, w2, c1, c2, c3, c4, decide_false, Bool.or_false, Bool.false_eq_true, if_false, hro, Int.toNat_natCast]
    have hs : (sizeOf el).run P w = .ok n w := by
      unfold sizeOf
      rw [Sem.run_bind, hi w, Result.andThen_ok, hsz]; rfl
    have hmap : ∀ n' : Nat, ((Array.range n').map fun j => z.cells[j % z.cells.size]!) = (Array.range n').map fun j => z.cells.toList.getD (j % z.cells.size) undef := fun n' => by
      apply Array.map_congr_left
      intro j _
      have hlt : j % z.cells.size < z.cells.size := Nat.mod_lt _ hzn
      rw [getElem!_pos z.cells _ hlt]
      simp [List.getD_eq_getElem?_getD, hlt]
    simp only [hs, Result.andThen_ok]
    by_cases h0 : m * n = 0
    · have hem : ((Array.range (m * n)).map fun j => z.cells.toList.getD (j % z.cells.size) undef) = #[] := by
        rw [h0]; simp
      rw [hem]
      have hem2 : ∀ z' : Array Value, ((Array.range 0).map fun j => z'[j % z'.size]!) = #[] := fun z' => by simp
      simp only [h0, if_true, Sem.run_bind, Sem.run_pure, Result.andThen_ok, hem2]
      rfl
    · simp only [h0, if_false, Sem.run_bind, hz w, Result.andThen_ok, Sem.run_pure, hmap]
      rfl
  rw [hr]
  have hfl : ∀ ρ, LRel ρ ((List.range (m * n)).map fun j => z.cells.toList.getD (j % z.cells.size) undef) ((List.range (m * n)).map fun j => z.cells.toList.getD (j % z.cells.size) undef) := fun ρ => flat_list (by
    rw [List.all_eq_true]
    intro v hv
    obtain ⟨j, _, rfl⟩ := List.mem_map.1 hv
    have hlt : j % z.cells.size < z.cells.toList.length := by simpa using Nat.mod_lt _ hzn
    rw [List.getD_eq_getElem?_getD, List.getElem?_eq_getElem hlt]
    exact List.all_eq_true.1 hf _ (List.getElem_mem hlt)) ρ
  obtain ⟨ρ', k1, k2, k3, k4⟩ := new_cells (w1 := w.alloc (.cells ((Array.range (m * n)).map (fun j => z.cells.toList.getD (j % z.cells.size) undef)) el)) hh n (vs := (List.range (m * n)).map fun j => z.cells.toList.getD (j % z.cells.size) undef) (crel_of_lrel (by simpa using hfl ρ)) (by simp) (frozen_none _) rfl rfl rfl rfl
  exact ⟨ρ', .slice k1 hlm (Nat.le_refl _) (.inl rfl) (by simp), k3, k4⟩
/-- A text of bytes. -/
def bytesOf (l : List UInt8) : ByteArray := ⟨l.toArray⟩
theorem run_bytes (w : World) (cs : List Value) (l : List UInt8) (h : cs = l.map fun b => .int .u8 b.toNat) (f : Value → ByteArray → Sem (ForInStep ByteArray)) (hf : ∀ (b : UInt8) r, (f (.int .u8 b.toNat) r).run P w = .ok (.yield (r.push b)) w) (s : ByteArray) :
    ((forIn cs.toArray s f : Sem ByteArray)).run P w = .ok ⟨s.data ++ l.toArray⟩ w := by
  subst h
  rw [List.forIn_toArray]
  induction l generalizing s with
  | nil => simp
  | cons b l ih =>
    simp only [List.map_cons, List.forIn_cons]
    simp only [Sem.run_bind, hf, Result.andThen_ok]
    rw [ih]
    congr 2
    simp [ByteArray.push]
theorem q_bytes {s d el : TypeId} {x : Operand} {b o n c : Nat} {l : List UInt8} {vs : List Value} {sz : Nat} (hs : P.underlying s = some (.slice el)) (hd : P.underlying d = some .string) (he8 : P.underlying el = some (.int .u8)) (hx : ev T x = .slice (some ⟨b, o, none⟩) n c) (hR : Rd H b vs sz) (ho : o + n ≤ vs.length)
    (hl : (vs.drop o).take n = l.map fun b => .int .u8 b.toNat) : OpQ P ⟨dst, .convert s d x, ty, pos, af, g⟩ T H (.string (bytesOf l)) [] :=
  q_val (by simp) fun ρ e w hh he => by
    have h1 := he x (by simp [Op.operands])
    rw [hx] at h1
    obtain ⟨us, h2, h3, h4⟩ := run_first (P := P) (m := 1) (k := n) hh hR h1 (by omega) (Nat.le_refl _)
    rw [Nat.mul_one, hl] at h3
    have hus : us.toList = l.map fun b => .int .u8 b.toNat := by
      apply List.ext_getElem?
      intro i
      by_cases hi : i < (l.map fun b : UInt8 => Value.int .u8 b.toNat).length
      · have h5 := h3.2 i hi
        have hi' : i < us.toList.length := by have := h3.1; omega
        rw [List.getD_eq_getElem?_getD, List.getD_eq_getElem?_getD, List.getElem?_eq_getElem hi, List.getElem?_eq_getElem hi'] at h5
        rw [List.getElem?_eq_getElem hi, List.getElem?_eq_getElem hi']
        simp only [Option.getD_some, List.getElem_map] at h5 ⊢
        rw [h5.scalar_eq rfl]
      · have h6 : (l.map fun b : UInt8 => Value.int .u8 b.toNat).length = us.toList.length := h3.1
        rw [List.getElem?_eq_none (by omega), List.getElem?_eq_none (by omega)]
    refine ⟨_, run_v ?_, .string _⟩
    show (convert s d (e x)).run P w = _
    rcases vrel_slice hh h1 hR.live with ⟨lc, o', c', hlc, e1, _⟩ | ⟨e1, _, _, a, e2⟩
    case inr =>
      have hl0 : l = [] := by
        have := congrArg List.length hl
        rw [e1] at this
        simp at this
        exact List.length_eq_zero_iff.1 (by have h9 : l = [] := by first | exact this | exact this.symm | exact List.length_eq_zero_iff.1 this.symm | exact List.length_eq_zero_iff.1 this
                                            rw [h9]; rfl)
      rw [hl0, e2]
      unfold convert
      rw [Sem.run_bind, run_und hs, Result.andThen_ok, Sem.run_bind, run_und hd, Result.andThen_ok]
      show (Sem.run P (do match ← underlying el with | .int .u8 => Conv.bytesToString _ | .int .i32 => Conv.runesToString _ | _ => stuck _) w) = _
      rw [Sem.run_bind, run_und he8, Result.andThen_ok]
      show (Conv.bytesToString (.slice a 0 0)).run P w = _
      cases a with
      | none => rfl
      | some a =>
        unfold Conv.bytesToString
        have h0 := run_loadCells (P := P) w a 0 (fun _ => undef) (fun j hj => by omega)
        simp only [Sem.run_bind, h0, Result.andThen_ok]
        rfl
    rw [e1] at h2 ⊢
    have h2' : (loadCells ⟨lc.blk, o', none⟩ n).run P w = .ok us w := by
      have : (loadCells ⟨lc.blk, o', none⟩ (n * 1)).run P w = .ok us w := h2
      rwa [Nat.mul_one] at this
    unfold convert
    rw [Sem.run_bind, run_und hs, Result.andThen_ok, Sem.run_bind, run_und hd, Result.andThen_ok]
    show (Sem.run P (do match ← underlying el with | .int .u8 => Conv.bytesToString _ | .int .i32 => Conv.runesToString _ | _ => stuck _) w) = _
    rw [Sem.run_bind, run_und he8, Result.andThen_ok]
    show (Conv.bytesToString (.slice (some ⟨lc.blk, o', none⟩) n c')).run P w = _
    unfold Conv.bytesToString
    simp only [Sem.run_bind, h2', Result.andThen_ok]
    have e0 : us = us.toList.toArray := by simp
    rw [e0, run_bytes (P := P) w us.toList l hus]
    · simp only [Result.andThen_ok, Sem.run_pure]
      have e9 : (⟨ByteArray.empty.data ++ l.toArray⟩ : ByteArray) = bytesOf l := congrArg ByteArray.mk (Array.empty_append (xs := l.toArray))
      rw [e9]
    · intro b r
      simp
end
end Go.Proofs.YtbjlabokijchpaaA
