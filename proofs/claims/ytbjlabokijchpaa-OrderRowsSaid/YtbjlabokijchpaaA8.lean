/-
  The quiet operations that make blocks; slices of slices.
-/
import Derived.Test.YtbjlabokijchpaaA7
namespace Go.Proofs.YtbjlabokijchpaaA
set_option linter.unusedVariables false
open Go Go.RowKit
/-- A new block. -/
theorem new_obj {ρ : Ren} {H : AHeap} {w w1 : World} (hh : HRel ρ H w) {o : AObj} {ob : Obj} (hw : o.wr = true) (l : Loc) (hl : l.blk = w.heap.size) (hheap : w1.heap = w.heap.push ob) (hos : w1.os = w.os) (htape : w1.tape = w.tape) (hout : w1.output = w.output)
    (hO : ∀ ρ', (∀ b, ρ b ≠ .none → ρ' b = ρ b ∨ ρ' b = .dead) → ORel ρ' l w1 o) :
    ∃ ρ', ρ' H.length = .at l ∧ (∀ b, ρ b ≠ .none → ρ' b = ρ b ∨ ρ' b = .dead) ∧ HRel ρ' (H ++ [o]) w1 ∧ Ext ρ H w ρ' w1 := by
  obtain ⟨ρ', hρ⟩ : ∃ ρ' : Ren, ρ' = fun b => if b = H.length then .at l else ρ b := ⟨_, rfl⟩
  have e1 : ρ' H.length = .at l := by rw [hρ]; exact if_pos rfl
  have e2 : ∀ b, b ≠ H.length → ρ' b = ρ b := fun b hb => by rw [hρ]; exact if_neg hb
  have hm : ∀ b, ρ b ≠ .none → ρ' b = ρ b ∨ ρ' b = .dead := fun b hb => .inl (e2 b (fun h => hb (by rw [h]; exact hh.bound _ (Nat.le_refl _))))
  have hk : ∀ k, k < w.heap.size → w1.heap[k]? = w.heap[k]? := fun k hk => by rw [hheap, Array.getElem?_push, if_neg (by omega)]
  have hsz : w1.heap.size = w.heap.size + 1 := by rw [hheap]; simp
  refine ⟨ρ', e1, hm, ⟨fun b hb => ?_, fun b m hb => ?_, fun b c m m' hne hb hc hwr => ?_, fun g vs sz hg => ?_, fun b hb => ?_⟩, ⟨hos, htape, hout, by omega, fun k hk' _ => hk k hk', fun b hb => e2 b (by omega), fun b l' hb hl' => ?_⟩⟩
  · simp only [List.length_append, List.length_cons, List.length_nil] at hb
    rw [e2 b (by omega)]; exact hh.bound b (by omega)
  · by_cases h : b = H.length
    · subst h
      rw [e1] at hb; cases hb
      exact ⟨o, by simp, by omega, hO ρ' hm⟩
    · rw [e2 b h] at hb
      obtain ⟨o', h1, h2, h3⟩ := hh.rel b m hb
      have hlt : b < H.length := (List.getElem?_eq_some_iff.1 h1).1
      exact ⟨o', by rw [List.getElem?_append_left hlt]; exact h1, by omega, h3.mono hm (hk _ h2)⟩
  · have old : ∀ b m, b ≠ H.length → ρ' b = .at m → m.blk < w.heap.size := fun b m hne hb => by
      rw [e2 b hne] at hb
      obtain ⟨o', h1, h2, h3⟩ := hh.rel b m hb
      exact h2
    by_cases h : b = H.length <;> by_cases h' : c = H.length
    · omega
    · subst h
      rw [e1] at hb; cases hb
      have := old c m' h' hc; omega
    · subst h'
      rw [e1] at hc; cases hc
      have := old b m h hb; omega
    · rw [e2 b h] at hb
      rw [e2 c h'] at hc
      refine hh.inj b c m m' hne hb hc ?_
      obtain ⟨o', h1, h2⟩ := hwr
      have hlt : b < H.length := by
        obtain ⟨o2, h3, _⟩ := hh.rel b m hb
        exact (List.getElem?_eq_some_iff.1 h3).1
      rw [List.getElem?_append_left hlt] at h1
      exact ⟨o', h1, h2⟩
  · by_cases h : g < H.length
    · rw [List.getElem?_append_left h] at hg
      obtain ⟨m, h1, h2, h3⟩ := hh.glob g vs sz hg
      exact ⟨m, by rw [e2 g (by omega)]; exact h1, h2, h3⟩
    · rw [List.getElem?_append_right (by omega)] at hg
      have := List.mem_of_getElem? hg
      simp at this
      subst this
      simp [AObj.wr] at hw
  · by_cases h : b = H.length
    · subst h; rw [e1] at hb; cases hb
    · rw [e2 b h] at hb
      have := hh.isdead b hb
      rw [List.getElem?_append_left (List.getElem?_eq_some_iff.1 this).1]; exact this
  · by_cases h : b = H.length
    · subst h; rw [e1] at hl'; cases hl'; omega
    · rw [e2 b h, hh.bound b hb] at hl'; cases hl'
theorem new_cells {ρ : Ren} {H : AHeap} {w w1 : World} (hh : HRel ρ H w) {vs : List Value} {cs : Array Value} {E : TypeId} {fr : Nat × Nat} (sz : Nat) (hc : CRel ρ vs cs 0) (hl : vs.length ≤ cs.size) (hfr : frozenFree fr ⟨w.heap.size, 0, cs.size, sz⟩)
    (hheap : w1.heap = w.heap.push (.cells cs E fr)) (hos : w1.os = w.os) (htape : w1.tape = w.tape) (hout : w1.output = w.output) :
    ∃ ρ', ρ' H.length = .at ⟨w.heap.size, 0, cs.size, sz⟩ ∧ (∀ b, ρ b ≠ .none → ρ' b = ρ b ∨ ρ' b = .dead) ∧ HRel ρ' (H ++ [.cells true vs sz]) w1 ∧ Ext ρ H w ρ' w1 :=
  new_obj hh rfl _ rfl hheap hos htape hout fun ρ' hm => ⟨rfl, cs, E, fr, by rw [hheap]; simp, by simpa using hl, Nat.le_refl _, fun i hi => (hc i hi).mono hm, fun _ => hfr⟩
theorem frozen_none (l : Loc) : frozenFree (0, 0) l := fun o _ _ h => by omega
/-- A value that may be put into cells: nothing dead in sight. -/
def Lv (H : AHeap) : Value → Prop
  | .pointer (some a) => H[a.block]? ≠ some .dead
  | .slice (some a) _ _ => H[a.block]? ≠ some .dead
  | .map (some r) => H[r]? ≠ some .dead
  | .func (.yield l) _ _ => H[l]? ≠ some .dead
  | .chan _ => False
  | _ => True
theorem vrel_cells {ρ : Ren} {H : AHeap} {w : World} (hh : HRel ρ H w) {v v' : Value} (h : VRel ρ v v') (hl : Lv H v) : LRel ρ v.cells.toList v'.cells.toList := by
  have one : ∀ {v v' : Value}, VRel ρ v v' → v.cells = #[v] → v'.cells = #[v'] → LRel ρ v.cells.toList v'.cells.toList := fun {v v'} h h1 h2 => by
    rw [h1, h2]; exact .cons h (.nil ρ)
  cases h with
  | agg h1 h2 => exact ⟨by simpa [Value.cells] using h1, fun i hi => by have := h2 i (by simpa [Value.cells] using hi); simpa [Value.cells, List.getD_eq_getElem?_getD] using this⟩
  | dead hd =>
    exfalso
    cases v with
    | pointer a => cases a with | none => exact hd | some a => exact hl (hh.isdead _ hd)
    | slice a n c => cases a with | none => exact hd | some a => exact hl (hh.isdead _ hd)
    | map a => cases a with | none => exact hd | some a => exact hl (hh.isdead _ hd)
    | func fn fs cs => cases fn <;> first | exact hd | exact hl (hh.isdead _ hd)
    | _ => exact hd
  | junk r v' => exact hl.elim
  | bool b => exact one (.bool b) rfl rfl
  | int k n => exact one (.int k n) rfl rfl
  | float k n => exact one (.float k n) rfl rfl
  | complex k n m => exact one (.complex k n m) rfl rfl
  | string s => exact one (.string s) rfl rfl
  | nilPtr => exact one .nilPtr rfl rfl
  | ptr h => exact one (.ptr h) rfl rfl
  | nilSlice => exact one .nilSlice rfl rfl
  | slice h a b c d => exact one (.slice h a b c d) rfl rfl
  | empty h => exact one (.empty h) rfl rfl
  | nilMap => exact one .nilMap rfl rfl
  | map h => exact one (.map h) rfl rfl
  | func a b c d e => exact one (.func a b c d e) rfl rfl
  | yield h => exact one (.yield h) rfl rfl
  | nilFunc => exact one .nilFunc rfl rfl
  | nilIface => exact one .nilIface rfl rfl
  | iface h => exact one (.iface h) rfl rfl
  | tuple a b => exact one (.tuple a b) rfl rfl
theorem crel_of_lrel {ρ : Ren} {vs : List Value} {cs : Array Value} (h : LRel ρ vs cs.toList) : CRel ρ vs cs 0 := fun i hi => by
  have := h.2 i hi
  simpa [List.getD_eq_getElem?_getD] using this
theorem lrel_of_crel {ρ : Ren} {vs : List Value} {cs : Array Value} (h : CRel ρ vs cs 0) (hl : vs.length = cs.size) : LRel ρ vs cs.toList := ⟨by simpa using hl, fun i hi => by
  have := h i hi
  simpa [List.getD_eq_getElem?_getD] using this⟩
/-- Values without addresses, in a row. -/
def Flat (v : Value) : Prop := ∀ ρ, LRel ρ v.cells.toList v.cells.toList
theorem flat_scalar {v : Value} (h : Scalar v = true) : Flat v := fun ρ => by
  have : v.cells = #[v] := by cases v <;> first | rfl | simp [Scalar] at h
  rw [this]; exact .cons (.scalar h ρ) (.nil ρ)
theorem flat_list {l : List Value} (h : l.all Scalar = true) (ρ : Ren) : LRel ρ l l := ⟨rfl, fun i hi => by
  rw [List.getD_eq_getElem?_getD, List.getElem?_eq_getElem hi]
  exact .scalar (List.all_eq_true.1 h _ (List.getElem_mem hi)) ρ⟩
theorem flat_agg {vs : Array Value} (h : vs.toList.all Scalar = true) : Flat (.agg vs) := fun ρ => flat_list h ρ
section
variable {P : Program} {T : Nat → Value} {H : AHeap} {dst : Option Tmp} {ty : TypeId} {pos : String} {af : Array Edge} {g : Option (Nat × Bool)}
theorem q_alloc {t : TypeId} {z : Value} (sz : Nat) {vs : List Value} (hz : ∀ w, (zeroValue t).run P w = .ok z w) (hf : Flat z) (hvs : z.cells.toList = vs) :
    OpQ P ⟨dst, .alloc t, ty, pos, af, g⟩ T H (.pointer (some ⟨H.length, 0, none⟩)) [.cells true vs sz] := by
  subst hvs
  refine ⟨by simp, by simp [AObj.wr], fun ρ e w hh he => ?_⟩
  have hr : (execOp e ⟨dst, .alloc t, ty, pos, af, g⟩).run P w = .ok (.value (.pointer (some ⟨w.heap.size, 0, none⟩))) (w.alloc (.cells z.cells t)) := by
    refine run_v ?_
    show (Instr.alloc t true (.tuple #[])).run P w = _
    unfold Instr.alloc
    rw [Sem.run_bind, hz w, Result.andThen_ok]
    rfl
  rw [hr]
  obtain ⟨ρ', h1, h2, h3, h4⟩ := new_cells (w1 := w.alloc (.cells z.cells t)) hh sz (crel_of_lrel (hf ρ)) (by simp) (frozen_none _) rfl rfl rfl rfl
  exact ⟨ρ', by have := VRel.ptr (o := 0) h1; simpa using this, h3, h4⟩
theorem q_box {t : TypeId} {x : Operand} {v : Value} (sz : Nat) {vs : List Value} (hx : ev T x = v) (hl : Lv H v) (hvs : v.cells.toList = vs) :
    OpQ P ⟨dst, .box t x, ty, pos, af, g⟩ T H (.pointer (some ⟨H.length, 0, none⟩)) [.cells true vs sz] := by
  subst hvs
  refine ⟨by simp, by simp [AObj.wr], fun ρ e w hh he => ?_⟩
  have h1 := he x (by simp [Op.operands])
  rw [hx] at h1
  have hr : (execOp e ⟨dst, .box t x, ty, pos, af, g⟩).run P w = .ok (.value (.pointer (some ⟨w.heap.size, 0, none⟩))) (w.alloc (.cells (e x).cells t)) := run_v rfl
  rw [hr]
  have hc := vrel_cells hh h1 hl
  obtain ⟨ρ', h1, h2, h3, h4⟩ := new_cells (w1 := w.alloc (.cells (e x).cells t)) hh sz (crel_of_lrel hc) (by have := hc.1; simp at this ⊢; omega) (frozen_none _) rfl rfl rfl rfl
  exact ⟨ρ', by have := VRel.ptr (o := 0) h1; simpa using this, h3, h4⟩
/-! Structs, arrays and slices, part by part. -/
theorem foldl_rel {ρ : Ren} : ∀ (l l' : List Value) (k off : Nat) (cs cs' : Array Value), LRel ρ l l' → LRel ρ cs.toList cs'.toList →
    LRel ρ ((l.zipIdx k).foldl (fun cs (c, j) => cs.setIfInBounds (off + j) c) cs).toList ((l'.zipIdx k).foldl (fun cs (c, j) => cs.setIfInBounds (off + j) c) cs').toList
  | [], [], k, off, cs, cs', _, h => h
  | [], _ :: _, k, off, cs, cs', h, _ => by simp [LRel] at h
  | _ :: _, [], k, off, cs, cs', h, _ => by simp [LRel] at h
  | v :: l, v' :: l', k, off, cs, cs', h, hc => by
    have h0 : VRel ρ v v' := by simpa using h.2 0 (by simp)
    have ht : LRel ρ l l' := ⟨by simpa using h.1, fun i hi => by simpa using h.2 (i + 1) (by simpa using hi)⟩
    refine foldl_rel l l' (k + 1) off _ _ ht ?_
    rw [Array.toList_setIfInBounds, Array.toList_setIfInBounds]
    exact hc.set _ h0
theorem fill_rel {ρ : Ren} (place : Nat → Option (Nat × Nat)) : ∀ (ps ps' : List (Nat × Value)) (cs cs' ds : Array Value), ps.length = ps'.length → (∀ i, i < ps.length → (ps.getD i default).1 = (ps'.getD i default).1 ∧ LRel ρ (ps.getD i default).2.cells.toList (ps'.getD i default).2.cells.toList) →
    LRel ρ cs.toList cs'.toList → Instr.fill place cs ps = some ds → ∃ ds', Instr.fill place cs' ps' = some ds' ∧ LRel ρ ds.toList ds'.toList
  | [], [], cs, cs', ds, _, _, hc, h => by simp only [Instr.fill, Option.some.injEq] at h; subst h; exact ⟨cs', rfl, hc⟩
  | [], _ :: _, _, _, _, h, _, _, _ => by simp at h
  | _ :: _, [], _, _, _, h, _, _, _ => by simp at h
  | (i, v) :: ps, (i', v') :: ps', cs, cs', ds, hl, hp, hc, h => by
    have h0 := hp 0 (by simp)
    simp only [List.getD_cons_zero] at h0
    obtain ⟨rfl, hv⟩ := h0
    have hs : v.cells.size = v'.cells.size := by simpa using hv.1
    have hcs : cs.size = cs'.size := by simpa using hc.1
    unfold Instr.fill at h ⊢
    cases hpl : place i with
    | none => rw [hpl] at h; simp at h
    | some p =>
      obtain ⟨off, size⟩ := p
      rw [hpl] at h
      simp only at h ⊢
      split at h
      · cases h
      · rename_i hn
        rw [if_neg (by rw [← hs, ← hcs]; exact hn)]
        refine fill_rel place ps ps' _ _ ds (by simpa using hl) (fun j hj => by simpa using hp (j + 1) (by simpa using hj)) ?_ h
        have := foldl_rel v.cells.toList v'.cells.toList 0 off cs cs' hv hc
        rw [← Array.foldl_toList, ← Array.foldl_toList, Array.toList_zipIdx, Array.toList_zipIdx]
        exact this
abbrev pmap (e : Operand → Value) (parts : Array (Nat × Operand)) : Array (Nat × Value) := parts.map fun (p : Nat × Operand) => match p with | (i, x) => (i, e x)
theorem parts_get {e : Operand → Value} (parts : Array (Nat × Operand)) (i : Nat) (hi : i < parts.size) : ((pmap e parts).toList.getD i default) = (parts[i].1, e parts[i].2) := by
  simp [List.getD_eq_getElem?_getD, hi]
theorem build_parts {ρ : Ren} {w : World} {e : Operand → Value} (hh : HRel ρ H w) (parts : Array (Nat × Operand)) (he : ∀ x ∈ (parts.toList.map (·.2)), VRel ρ (ev T x) (e x)) (hl : ∀ x ∈ (parts.toList.map (·.2)), Lv H (ev T x)) :
    ((pmap (ev T) parts).toList).length = ((pmap e parts).toList).length ∧ ∀ i, i < ((pmap (ev T) parts).toList).length →
      ((pmap (ev T) parts).toList.getD i default).1 = ((pmap e parts).toList.getD i default).1 ∧
      LRel ρ ((pmap (ev T) parts).toList.getD i default).2.cells.toList ((pmap e parts).toList.getD i default).2.cells.toList := by
  refine ⟨by simp, fun i hi => ?_⟩
  have hi' : i < parts.size := by simpa using hi
  rw [parts_get parts i hi', parts_get parts i hi']
  have hm : parts[i].2 ∈ parts.toList.map (·.2) := List.mem_map.2 ⟨parts[i], by simp, rfl⟩
  exact ⟨rfl, vrel_cells hh (he _ hm) (hl _ hm)⟩
theorem run_places {fs : Array Field} {pl : Array (Nat × Nat)} (w : World) (h : fs.toList.map (fun f => (f.offset, (P.info? f.type).map (·.size))) = pl.toList.map (fun p => (p.1, some p.2))) :
    (fs.mapM fun f => (do pure (f.offset, ← sizeOf f.type) : Sem (Nat × Nat))).run P w = .ok pl w := by
  have key : ∀ (l : List Field) (m : List (Nat × Nat)), l.map (fun f => (f.offset, (P.info? f.type).map (·.size))) = m.map (fun p => (p.1, some p.2)) → (l.mapM fun f => (do pure (f.offset, ← sizeOf f.type) : Sem (Nat × Nat))).run P w = .ok m w := by
    intro l
    induction l with
    | nil => intro m hm; cases m with | nil => simp | cons _ _ => simp at hm
    | cons f l ih =>
      intro m hm
      cases m with
      | nil => simp at hm
      | cons p m =>
        simp only [List.map_cons, List.cons.injEq, Prod.mk.injEq] at hm
        obtain ⟨⟨h1, h2⟩, h3⟩ := hm
        have h4 : (sizeOf f.type).run P w = .ok p.2 w := by
          unfold sizeOf typeInfo
          cases hi : P.info? f.type with
          | none => rw [hi] at h2; simp at h2
          | some i =>
            rw [hi] at h2
            simp only [Option.map_some, Option.some.injEq] at h2
            simp [program, Sem.run_bind, Sem.run, hi, h2]
        rw [List.mapM_cons]
        simp only [Sem.run_bind, h4, Result.andThen_ok, Sem.run_pure, ih m h3]
        rw [h1]
  have := key fs.toList pl.toList h
  rw [← Array.toArray_toList (xs := fs), List.mapM_toArray, Sem.run_map, this]
  simp
theorem q_build {t : TypeId} {parts : Array (Nat × Operand)} {fs : Array Field} {pl : Array (Nat × Nat)} {z : Value} {ds : Array Value} (hu : P.underlying t = some (.struct fs)) (hz : ∀ w, (zeroValue t).run P w = .ok z w) (hf : Flat z)
    (hpl : fs.toList.map (fun f => (f.offset, (P.info? f.type).map (·.size))) = pl.toList.map (fun p => (p.1, some p.2))) (hl : ∀ x ∈ (parts.toList.map (·.2)), Lv H (ev T x))
    (hds : Instr.fill (pl[·]?) z.cells (pmap (ev T) parts).toList = some ds) : OpQ P ⟨dst, .build t parts, ty, pos, af, g⟩ T H (.agg ds) [] :=
  q_val (by simp) fun ρ e w hh he => by
    obtain ⟨h1, h2⟩ := build_parts (T := T) hh parts (fun x hx => he x (by simpa [Op.operands] using hx)) hl
    obtain ⟨ds', h3, h4⟩ := fill_rel (ρ := ρ) (pl[·]?) _ _ z.cells z.cells ds h1 h2 (hf ρ) hds
    refine ⟨.agg ds', run_v ?_, .agg (by simpa using h4.1) fun i hi => by have := h4.2 i (by simpa using hi); simpa [List.getD_eq_getElem?_getD] using this⟩
    show (Instr.build t (pmap e parts)).run P w = _
    unfold Instr.build
    simp only [Sem.run_bind, Sem.run_map, hz w, Result.andThen_ok, run_und hu]
    rw [run_places w hpl]
    simp only [Result.andThen_ok, h3, Sem.run_pure]
theorem q_buildArr {t el : TypeId} {parts : Array (Nat × Operand)} {n m : Nat} {z : Value} {ds : Array Value} (hu : P.underlying t = some (.array m el)) (hs : ∀ w, (sizeOf el).run P w = .ok n w) (hz : ∀ w, (zeroValue t).run P w = .ok z w) (hf : Flat z)
    (hl : ∀ x ∈ (parts.toList.map (·.2)), Lv H (ev T x))
    (hds : Instr.fill (fun i => some (i * n, n)) z.cells (pmap (ev T) parts).toList = some ds) : OpQ P ⟨dst, .build t parts, ty, pos, af, g⟩ T H (.agg ds) [] :=
  q_val (by simp) fun ρ e w hh he => by
    obtain ⟨h1, h2⟩ := build_parts (T := T) hh parts (fun x hx => he x (by simpa [Op.operands] using hx)) hl
    obtain ⟨ds', h3, h4⟩ := fill_rel (ρ := ρ) (fun i => some (i * n, n)) _ _ z.cells z.cells ds h1 h2 (hf ρ) hds
    refine ⟨.agg ds', run_v ?_, .agg (by simpa using h4.1) fun i hi => by have := h4.2 i (by simpa using hi); simpa [List.getD_eq_getElem?_getD] using this⟩
    show (Instr.build t (pmap e parts)).run P w = _
    unfold Instr.build
    simp only [Sem.run_bind, Sem.run_map, hz w, Result.andThen_ok, run_und hu, hs w, h3, Sem.run_pure]
theorem q_buildSlice {t el : TypeId} {len : Nat} {parts : Array (Nat × Operand)} {n : Nat} {z : Value} {ds : Array Value} {vs : List Value} (hu : P.underlying t = some (.slice el)) (hs : ∀ w, (sizeOf el).run P w = .ok n w) (hz : ∀ w, (zeroValue el).run P w = .ok z w) (hf : z.cells.toList.all Scalar = true) (hzn : 0 < z.cells.size)
    (hlim : len * n ≤ 16777216) (hl : ∀ x ∈ (parts.toList.map (·.2)), Lv H (ev T x))
    (hds : Instr.fill (fun i => some (i * n, n)) ((Array.range (len * n)).map (z.cells[· % z.cells.size]!)) (pmap (ev T) parts).toList = some ds) (hvs : ds.toList = vs) (hnl : ds.size = len * n) :
    OpQ P ⟨dst, .buildSlice t len parts, ty, pos, af, g⟩ T H (.slice (some ⟨H.length, 0, none⟩) len len) [.cells true vs n] := by
  subst hvs
  refine ⟨by simp, by simp [AObj.wr], fun ρ e w hh he => ?_⟩
  obtain ⟨h1, h2⟩ := build_parts (T := T) hh parts (fun x hx => he x (by simpa [Op.operands] using hx)) hl
  have hzr : LRel ρ ((Array.range (len * n)).map (z.cells[· % z.cells.size]!)).toList ((Array.range (len * n)).map (z.cells[· % z.cells.size]!)).toList := by
    refine flat_list ?_ ρ
    rw [List.all_eq_true]
    intro x hx
    simp only [Array.toList_map, List.mem_map] at hx
    obtain ⟨i, _, rfl⟩ := hx
    have hlt : i % z.cells.size < z.cells.size := Nat.mod_lt _ hzn
    rw [getElem!_pos z.cells _ hlt]
    exact List.all_eq_true.1 hf _ (by simp)
  obtain ⟨ds', h3, h4⟩ := fill_rel (ρ := ρ) (fun i => some (i * n, n)) _ _ _ _ ds h1 h2 hzr hds
  have hr : (execOp e ⟨dst, .buildSlice t len parts, ty, pos, af, g⟩).run P w = .ok (.value (.slice (some ⟨w.heap.size, 0, none⟩) len len)) (w.alloc (.cells ds' el)) := by
    refine run_v ?_
    show (Instr.buildSlice t len (pmap e parts)).run P w = _
    unfold Instr.buildSlice
    simp only [Sem.run_bind, run_und hu, Result.andThen_ok, hs w, if_neg (show ¬ len * n > 2 ^ 24 by omega)]
    by_cases h0 : len * n = 0
    · rw [h0] at h3 ⊢
      rw [if_pos rfl]
      have h5 : Instr.fill (fun i => some (i * n, n)) (Array.map (fun x => (#[] : Array Value)[x % (#[] : Array Value).size]!) (Array.range 0)) (pmap e parts).toList = some ds' := by
        have : (Array.map (fun x => (#[] : Array Value)[x % (#[] : Array Value).size]!) (Array.range 0)) = ((Array.range 0).map (z.cells[· % z.cells.size]!)) := by simp
        rw [this]; exact h3
      show (match Instr.fill (fun i => some (i * n, n)) (Array.map (fun x => (#[] : Array Value)[x % (#[] : Array Value).size]!) (Array.range 0)) (pmap e parts).toList with | some cells => (do pure (.slice (some (← newRow el cells)) len len) : Sem Value) | _ => stuck "buildSlice: a part of the wrong size").run P w = _
      rw [h5]
      rfl
    · rw [if_neg h0]
      simp only [Sem.run_bind, hz w, Result.andThen_ok, Sem.run_pure]
      show (match Instr.fill (fun i => some (i * n, n)) ((Array.range (len * n)).map (z.cells[· % z.cells.size]!)) (pmap e parts).toList with | some cells => (do pure (.slice (some (← newRow el cells)) len len) : Sem Value) | _ => stuck "buildSlice: a part of the wrong size").run P w = _
      rw [h3]
      rfl
  rw [hr]
  have hsz : ds.size = ds'.size := by simpa using h4.1
  obtain ⟨ρ', k1, k2, k3, k4⟩ := new_cells (w1 := w.alloc (.cells ds' el)) hh n (crel_of_lrel h4) (by simp; omega) (frozen_none _) rfl rfl rfl rfl
  exact ⟨ρ', .slice k1 (Nat.le_refl _) (Nat.le_refl _) (.inl (by simp)) (by simp; omega), k3, k4⟩
theorem run_fname {fn : Fn} {fi ca : Array Operand} {e : Operand → Value} (w : World) : (execOp e ⟨dst, .makeFunc fn fi ca, ty, pos, af, g⟩).run P w = .ok (.value (.func fn (fi.map e) (ca.map e))) w := rfl
theorem q_makeFunc {f : FuncId} {ca : Array Operand} {vs : Array Value} (hvs : ca.map (ev T) = vs) : OpQ P ⟨dst, .makeFunc (.func f) #[] ca, ty, pos, af, g⟩ T H (.func (.func f) #[] vs) [] :=
  q_val (by simp) fun ρ e w hh he => by
    subst hvs
    refine ⟨_, run_fname w, .func trivial (by simp) (fun i hi => by simp at hi) (by simp) fun i hi => ?_⟩
    have hi' : i < ca.size := by simpa using hi
    have := he ca[i] (by simp [Op.operands])
    simpa [hi'] using this
theorem q_nilCheck {x : Operand} {b o : Nat} (hx : ev T x = .pointer (some ⟨b, o, none⟩)) (hl : H[b]? ≠ some .dead) : OpQ P ⟨dst, .nilCheck x, ty, pos, af, g⟩ T H (.pointer (some ⟨b, o, none⟩)) [] :=
  q_val (by simp) fun ρ e w hh he => by
    have h1 := he x (by simp [Op.operands])
    rw [hx] at h1
    obtain ⟨l, hl', h2⟩ := vrel_ptr hh h1 hl
    refine ⟨_, ?_, .ptr hl'⟩
    show (match e x with | .pointer none | .nilIface | .nilFunc => _ | .func (.method name) first captured => _ | x => (pure (.value x) : Sem Next)).run P w = _
    rw [h2]
    rfl
theorem vrel_func {ρ : Ren} {f : FuncId} {fs cs : Array Value} {v' : Value} (h : VRel ρ (.func (.func f) fs cs) v') : ∃ fs' cs', v' = .func (.func f) fs' cs' ∧ fs.size = fs'.size ∧ (∀ i, i < fs.size → VRel ρ (fs.getD i undef) (fs'.getD i undef)) ∧ cs.size = cs'.size ∧ (∀ i, i < cs.size → VRel ρ (cs.getD i undef) (cs'.getD i undef)) := by
  cases h with
  | func _ h1 h2 h3 h4 => exact ⟨_, _, rfl, h1, h2, h3, h4⟩
  | dead h => exact h.elim
theorem vrel_yield {ρ : Ren} {w : World} (hh : HRel ρ H w) {l : Nat} {v' : Value} (h : VRel ρ (.func (.yield l) #[] #[]) v') (hl : H[l]? ≠ some .dead) : ∃ m, ρ l = .at m ∧ v' = .func (.yield m.blk) #[] #[] := by
  cases h with
  | func h => exact h.elim
  | yield h => exact ⟨_, h, rfl⟩
  | dead h => exact absurd (hh.isdead _ h) hl
theorem q_nilCheckF {x : Operand} {f : FuncId} {fs cs : Array Value} (hx : ev T x = .func (.func f) fs cs) : OpQ P ⟨dst, .nilCheck x, ty, pos, af, g⟩ T H (.func (.func f) fs cs) [] :=
  q_val (by simp) fun ρ e w hh he => by
    have h1 := he x (by simp [Op.operands])
    rw [hx] at h1
    obtain ⟨fs', cs', h2, _⟩ := vrel_func h1
    refine ⟨_, ?_, h1⟩
    show (match e x with | .pointer none | .nilIface | .nilFunc => _ | .func (.method name) first captured => _ | x => (pure (.value x) : Sem Next)).run P w = _
    rw [h2]
    rfl
theorem q_nilCheckY {x : Operand} {l : Nat} (hx : ev T x = .func (.yield l) #[] #[]) (hl : H[l]? ≠ some .dead) : OpQ P ⟨dst, .nilCheck x, ty, pos, af, g⟩ T H (.func (.yield l) #[] #[]) [] :=
  q_val (by simp) fun ρ e w hh he => by
    have h1 := he x (by simp [Op.operands])
    rw [hx] at h1
    obtain ⟨m, _, h2⟩ := vrel_yield hh h1 hl
    refine ⟨_, ?_, h1⟩
    show (match e x with | .pointer none | .nilIface | .nilFunc => _ | .func (.method name) first captured => _ | x => (pure (.value x) : Sem Next)).run P w = _
    rw [h2]
    rfl
/-! Slices of slices. -/
theorem q_slice {t el : TypeId} {x : Operand} {lo hi mx : Option Operand} {b o n c i j m n0 : Nat} {vs : List Value} (hu : P.underlying t = some (.slice el)) (hs : ∀ w, (sizeOf el).run P w = .ok n0 w) (hx : ev T x = .slice (some ⟨b, o, none⟩) n c) (hR : Rd H b vs n0)
    (hlo : match lo with | some y => ∃ k, ev T y = .int k i | none => i = 0) (hhi : match hi with | some y => ∃ k, ev T y = .int k j | none => j = n ∧ mx = none)
    (hmx : match mx with | some y => ∃ k, ev T y = .int k m | none => m = c) (hij : i ≤ j) (hjm : j ≤ m) (hmc : m ≤ c) :
    OpQ P ⟨dst, .slice t x lo hi mx, ty, pos, af, g⟩ T H (.slice (some ⟨b, o + i * n0, none⟩) (j - i) (m - i)) [] :=
  q_val (by simp) fun ρ e w hh he => by
    have h1 := he x (by simp [Op.operands])
    rw [hx] at h1
    have hcases : ∃ a c', e x = .slice a n c' ∧ n ≤ c ∧ c ≤ c' ∧ ∀ M, m ≤ M → M ≤ c' → i ≤ j → j ≤ m → VRel ρ (.slice (some ⟨b, o + i * n0, none⟩) (j - i) (m - i)) (.slice (if M = i then a else a.map (·.add (i * n0))) (j - i) (M - i)) := by
      rcases vrel_slice hh h1 hR.live with ⟨l, o', c', hl, h2, h3, h4, h5, h6⟩ | ⟨h2, h3, h4, a, h5⟩
      · obtain ⟨hsz, _⟩ := hR.get hh hl
        refine ⟨some ⟨l.blk, o', none⟩, c', h2, h3, h4, fun M hm1 hm2 hij hjm => ?_⟩
        have hmul : i * n0 + (M - i) * n0 = M * n0 := by rw [← Nat.add_mul]; congr 1; omega
        have hMc : M * n0 ≤ c' * n0 := Nat.mul_le_mul_right _ hm2
        rw [hsz] at h6
        by_cases hMi : M = i
        · simp only [if_pos hMi]
          refine .slice hl (by omega) (by omega) (.inr (by omega)) ?_
          rw [hsz, show M - i = 0 by omega]
          have : i * n0 ≤ c' * n0 := by rw [← hMi]; exact hMc
          omega
        · simp only [if_neg hMi, Option.map_some, add_plain]
          refine .slice hl (by omega) (by omega) ?_ (by rw [hsz]; omega)
          rcases h5 with h | h
          · exact .inl (by omega)
          · omega
      · refine ⟨a, 0, by rw [h5, h2], by omega, by omega, fun M hm1 hm2 hij hjm => ?_⟩
        have e1 : j - i = 0 := by omega
        have e2 : M - i = 0 := by omega
        have e3 : m - i = 0 := by omega
        rw [e1, e2, e3]
        exact .empty h4
    obtain ⟨a, c', h2, h3, h4, hfin⟩ := hcases
    have hlo' : ∀ y, lo = some y → ∃ k, e y = .int k i := fun y hy => by
      subst hy
      obtain ⟨k, hk⟩ := hlo
      have := he y (by simp [Op.operands])
      rw [hk] at this
      exact ⟨k, this.scalar_eq rfl⟩
    have hhi' : ∀ y, hi = some y → ∃ k, e y = .int k j := fun y hy => by
      subst hy
      obtain ⟨k, hk⟩ := hhi
      have := he y (by simp [Op.operands])
      rw [hk] at this
      exact ⟨k, this.scalar_eq rfl⟩
    have hmx' : ∀ y, mx = some y → ∃ k, e y = .int k m := fun y hy => by
      subst hy
      obtain ⟨k, hk⟩ := hmx
      have := he y (by simp [Op.operands])
      rw [hk] at this
      exact ⟨k, this.scalar_eq rfl⟩
    -- the bound that the world's slice takes
    obtain ⟨M, hM⟩ : ∃ M, M = (match mx with | some _ => m | none => c') := ⟨_, rfl⟩
    have hmM : m ≤ M ∧ M ≤ c' := by
      cases mx with
      | none => simp only at hmx hM; omega
      | some y => simp only at hM; omega
    have hb : (Instr.sliceBounds true n c' (lo.map e) (hi.map e) (mx.map e)).run P w = .ok (i, j, M) w := by
      unfold Instr.sliceBounds
      cases mx with
      | none =>
        simp only at hM
        subst hM
        cases hi with
        | none =>
          obtain ⟨rfl, _⟩ := hhi
          cases lo with
          | none => simp only at hlo; subst hlo; simp
          | some y =>
            obtain ⟨k, hk⟩ := hlo' y rfl
            simp [hk, run_sliceBound rfl hij]
        | some z =>
          obtain ⟨k2, hk2⟩ := hhi' z rfl
          cases lo with
          | none => simp only at hlo; subst hlo; simp [hk2, run_sliceBound rfl (show j ≤ M by omega)]
          | some y =>
            obtain ⟨k, hk⟩ := hlo' y rfl
            simp [hk, hk2, run_sliceBound rfl hij, run_sliceBound rfl (show j ≤ M by omega)]
      | some y3 =>
        simp only at hM
        subst hM
        obtain ⟨k3, hk3⟩ := hmx' y3 rfl
        cases hi with
        | none => obtain ⟨_, h⟩ := hhi; cases h
        | some z =>
          obtain ⟨k2, hk2⟩ := hhi' z rfl
          cases lo with
          | none => simp only at hlo; subst hlo; simp [hk2, hk3, run_sliceBound rfl (show M ≤ c' by omega), run_sliceBound rfl (show j ≤ M by omega)]
          | some y =>
            obtain ⟨k, hk⟩ := hlo' y rfl
            simp [hk, hk2, hk3, run_sliceBound rfl hij, run_sliceBound rfl (show M ≤ c' by omega), run_sliceBound rfl (show j ≤ M by omega)]
    refine ⟨.slice (if M = i then a else a.map (·.add (i * n0))) (j - i) (M - i), run_v ?_, hfin M hmM.1 hmM.2 hij hjm⟩
    show (Instr.sliceAt t (e x) (lo.map e) (hi.map e) (mx.map e)).run P w = _
    rw [h2]
    unfold Instr.sliceAt
    rw [Sem.run_bind, run_und hu, Result.andThen_ok]
    show (Instr.slice t (.slice a n c') (lo.map e) (hi.map e) (mx.map e)).run P w = _
    unfold Instr.slice
    rw [Sem.run_bind, run_und hu, Result.andThen_ok]
    simp only [Sem.run_bind, hb, Result.andThen_ok, hs w, Sem.run_pure]
theorem q_sliceNil {t el : TypeId} {x : Operand} {n0 : Nat} (hu : P.underlying t = some (.slice el)) (hs : ∀ w, (sizeOf el).run P w = .ok n0 w) (hx : ev T x = .slice none 0 0) {hi : Operand} {k : IntKind} (hhi : ev T hi = .int k 0) :
    OpQ P ⟨dst, .slice t x none (some hi) none, ty, pos, af, g⟩ T H (.slice none 0 0) [] :=
  q_val (by simp) fun ρ e w hh he => by
    have h1 := he x (by simp [Op.operands])
    have h2 := he hi (by simp [Op.operands])
    rw [hx] at h1
    rw [hhi] at h2
    refine ⟨.slice none 0 0, run_v ?_, .nilSlice⟩
    show (Instr.sliceAt t (e x) none (some (e hi)) none).run P w = _
    rw [h1.scalar_eq rfl, h2.scalar_eq rfl]
    unfold Instr.sliceAt
    rw [Sem.run_bind, run_und hu, Result.andThen_ok]
    show (Instr.slice t (.slice none 0 0) none (some (.int k 0)) none).run P w = _
    unfold Instr.slice
    rw [Sem.run_bind, run_und hu, Result.andThen_ok]
    have hb : (Instr.sliceBounds true 0 0 none (some (.int k 0)) none).run P w = .ok (0, 0, 0) w := by
      unfold Instr.sliceBounds
      have := run_sliceBound (P := P) (x := .int k 0) (k := k) (i := 0) (y := 0) (code := .sliceAcap) rfl (Nat.le_refl _) w
      simp [this]
    simp only [Sem.run_bind, hb, Result.andThen_ok, hs w, Sem.run_pure]
    rfl
end
end Go.Proofs.YtbjlabokijchpaaA
