/-
  Stores.
-/
import Derived.Test.YtbjlabokijchpaaA8
import Derived.Laws.IdiomCopy
namespace Go.Proofs.YtbjlabokijchpaaA
set_option linter.unusedVariables false
open Go Go.RowKit
def splice (vs : List Value) (o : Nat) (us : List Value) : List Value := vs.take o ++ us ++ vs.drop (o + us.length)
theorem splice_length {vs us : List Value} {o : Nat} (h : o + us.length ≤ vs.length) : (splice vs o us).length = vs.length := by
  simp [splice]; omega
theorem splice_get {vs us : List Value} {o i : Nat} (h : o + us.length ≤ vs.length) : (splice vs o us).getD i undef = if o ≤ i ∧ i < o + us.length then us.getD (i - o) undef else vs.getD i undef := by
  unfold splice
  simp only [List.getD_eq_getElem?_getD]
  by_cases h1 : i < o
  · rw [if_neg (by omega), List.append_assoc, List.getElem?_append_left (by simp; omega), List.getElem?_take, if_pos h1]
  · by_cases h2 : i < o + us.length
    · rw [if_pos ⟨by omega, h2⟩, List.getElem?_append_left (by simp; omega), List.getElem?_append_right (by simp; omega)]
      simp [show min o vs.length = o by omega]
    · rw [if_neg (by omega), List.getElem?_append_right (by simp; omega)]
      simp only [List.length_append, List.length_take, List.getElem?_drop]
      congr 2
      omega
theorem splice_one {vs : List Value} {o : Nat} {v : Value} (h : o < vs.length) : splice vs o [v] = vs.set o v := by
  unfold splice
  rw [List.set_eq_take_append_cons_drop, if_pos h]
  simp
/-- A value for one cell. -/
def Lc (H : AHeap) (v : Value) : Prop := Lv H v ∧ v.oneCell' = true
theorem vrel_one {ρ : Ren} {H : AHeap} {w : World} (hh : HRel ρ H w) {v v' : Value} (h : VRel ρ v v') (hl : Lc H v) : v'.oneCell' = true := by
  have h1 := vrel_cells hh h hl.1
  cases h with
  | agg => exact absurd hl.2 (by simp [Value.oneCell'])
  | tuple => exact absurd hl.2 (by simp [Value.oneCell'])
  | junk => exact hl.1.elim
  | dead hd =>
    obtain ⟨hl, _⟩ := hl
    exfalso
    cases v with
    | pointer a => cases a with | none => exact hd | some a => exact hl (hh.isdead _ hd)
    | slice a n c => cases a with | none => exact hd | some a => exact hl (hh.isdead _ hd)
    | map a => cases a with | none => exact hd | some a => exact hl (hh.isdead _ hd)
    | func fn fs cs => cases fn <;> first | exact hd | exact hl (hh.isdead _ hd)
    | _ => exact hd
  | _ => rfl
theorem heap_setCells (b : Nat) : ∀ (us : List Value) (o : Nat) (w : World) (cs : Array Value) (E : TypeId) (fr : Nat × Nat), w.heap[b]? = some (.cells cs E fr) → o + us.length ≤ cs.size →
    ∃ cs', (w.setCells b o us).heap[b]? = some (.cells cs' E fr) ∧ cs'.size = cs.size ∧ ∀ i, cs'.getD i undef = if o ≤ i ∧ i < o + us.length then us.getD (i - o) undef else cs.getD i undef
  | [], o, w, cs, E, fr, h, _ => ⟨cs, h, rfl, fun i => by rw [if_neg (by simp)]⟩
  | v :: us, o, w, cs, E, fr, h, hl => by
    have h1 : (w.setCell ⟨b, o, none⟩ v).heap[b]? = some (.cells (cs.setIfInBounds o v) E fr) := by
      show (w.heap.modify b _)[b]? = _
      rw [Array.getElem?_modify, if_pos rfl, h]; rfl
    obtain ⟨cs', h2, h3, h4⟩ := heap_setCells b us (o + 1) _ _ E fr h1 (by simp at hl ⊢; omega)
    refine ⟨cs', h2, by simpa using h3, fun i => ?_⟩
    rw [h4 i]
    simp only [List.length_cons] at hl ⊢
    by_cases e1 : o + 1 ≤ i ∧ i < o + 1 + us.length
    · rw [if_pos e1, if_pos (by omega), show i - o = (i - (o + 1)) + 1 by omega]
      simp
    · rw [if_neg e1]
      by_cases e2 : i = o
      · subst e2
        rw [if_pos (by omega)]
        have : i < cs.size := by omega
        simp [this]
      · rw [if_neg (by omega)]
        simp [Array.getElem?_setIfInBounds, Ne.symm e2]
theorem other_setCells (b k : Nat) (hk : k ≠ b) : ∀ (us : List Value) (o : Nat) (w : World), (w.setCells b o us).heap[k]? = w.heap[k]?
  | [], _, _ => rfl
  | v :: us, o, w => by
    rw [World.setCells, other_setCells b k hk us, Below.heap_setCell _ _ _ _ hk]
theorem size_setCells (b : Nat) : ∀ (us : List Value) (o : Nat) (w : World), (w.setCells b o us).heap.size = w.heap.size ∧ (w.setCells b o us).os = w.os ∧ (w.setCells b o us).tape = w.tape ∧ (w.setCells b o us).output = w.output
  | [], _, _ => ⟨rfl, rfl, rfl, rfl⟩
  | v :: us, o, w => by
    rw [World.setCells]
    obtain ⟨h1, h2, h3, h4⟩ := size_setCells b us (o + 1) (w.setCell ⟨b, o, none⟩ v)
    exact ⟨by rw [h1]; simp [World.setCell], h2, h3, h4⟩
/-- A writable block, written. -/
theorem store_rel {ρ : Ren} {H : AHeap} {w : World} (hh : HRel ρ H w) {b o : Nat} {l : Loc} {vs us us' : List Value} {sz : Nat} (hl : ρ b = .at l) (hH : H[b]? = some (.cells true vs sz)) (hu : LRel ρ us us') (ho : o + us.length ≤ vs.length) (n : Nat) :
    HRel ρ (H.set b (.cells true (splice vs o us) sz)) (w.setCells l.blk (l.base + o) us') ∧ Fr n ρ H w ρ (H.set b (.cells true (splice vs o us) sz)) (w.setCells l.blk (l.base + o) us') := by
  have hb : b < H.length := (List.getElem?_eq_some_iff.1 hH).1
  obtain ⟨o1, q1, q2, q3⟩ := hh.rel b l hl
  rw [hH] at q1; cases q1
  obtain ⟨q4, cs, E, fr, q5, q6, q7, q8, q9⟩ := q3
  have hul : us'.length = us.length := hu.1.symm
  obtain ⟨cs', p1, p2, p3⟩ := heap_setCells l.blk us' (l.base + o) w cs E fr q5 (by omega)
  obtain ⟨s1, s2, s3, s4⟩ := size_setCells l.blk us' (l.base + o) w
  have hwr : wr H b := ⟨_, hH, rfl⟩
  have hother : ∀ c m, c ≠ b → ρ c = .at m → (w.setCells l.blk (l.base + o) us').heap[m.blk]? = w.heap[m.blk]? := fun c m hc hm => other_setCells _ _ (fun e => hh.inj b c l m (Ne.symm hc) hl hm hwr e.symm) _ _ _
  have hwr' : ∀ c, wr (H.set b (.cells true (splice vs o us) sz)) c → wr H c := fun c ⟨o2, h1, h2⟩ => by
    by_cases e1 : c = b
    · subst e1; exact hwr
    · rw [List.getElem?_set, if_neg (Ne.symm e1)] at h1; exact ⟨o2, h1, h2⟩
  refine ⟨⟨fun c hc => hh.bound c (by simpa using hc), fun c m hm => ?_, fun c d m m' hne hc hd hw => hh.inj c d m m' hne hc hd (hwr' c hw), fun g vs' sz' hg => ?_, fun c hc => ?_⟩,
    ⟨s2, s3, s4, by omega, fun k hk ho' => other_setCells _ _ (fun e => ho' ⟨b, l, hl, e.symm, hwr⟩) _ _ _, fun c _ => .inl rfl, fun c m hm hw => .inl ⟨c, m, hm, rfl, hwr' c hw⟩⟩⟩
  · by_cases e1 : c = b
    · subst e1
      rw [hl] at hm; cases hm
      refine ⟨.cells true (splice vs o us) sz, by rw [List.getElem?_set, if_pos rfl, if_pos hb], by omega, q4, cs', E, fr, p1, by rw [splice_length ho]; exact q6, by omega, fun i hi => ?_, q9⟩
      rw [splice_length ho] at hi
      rw [splice_get ho, p3]
      by_cases e2 : o ≤ i ∧ i < o + us.length
      · rw [if_pos e2, if_pos (by omega)]
        have := hu.2 (i - o) (by omega)
        rwa [show l.base + i - (l.base + o) = i - o by omega]
      · rw [if_neg e2, if_neg (by omega)]
        exact q8 i hi
    · obtain ⟨o2, r1, r2, r3⟩ := hh.rel c m hm
      exact ⟨o2, by rw [List.getElem?_set, if_neg (Ne.symm e1)]; exact r1, by omega, r3.mono (fun _ _ => .inl rfl) (hother c m e1 hm)⟩
  · by_cases e1 : g = b
    · subst e1
      rw [List.getElem?_set, if_pos rfl, if_pos hb] at hg; cases hg
    · rw [List.getElem?_set, if_neg (Ne.symm e1)] at hg; exact hh.glob g vs' sz' hg
  · have := hh.isdead c hc
    rw [List.getElem?_set]
    by_cases e1 : b = c
    · subst e1; rw [hH] at this; cases this
    · rw [if_neg e1]; exact this
section
variable {F : Fence} {n : Nat} {P : Program} {N0 : AHeap} {s : ASt} {dst : Option Tmp} {ty : TypeId} {pos : String} {af : Array Edge} {g : Option (Nat × Bool)}
theorem DRel.keep {ρ : Ren} {H H' : AHeap} {b : Nat} (hk : ∀ c, c ≠ b → H'[c]? = H[c]?) (hm : H[b]? ≠ some .mark) : ∀ (D : List Nat) (ds : List Deferred), DRel ρ H D ds → DRel ρ H' D ds
  | [], [], _ => trivial
  | [], _ :: _, h => h.elim
  | _ :: _, [], h => h.elim
  | d :: D, x :: ds, ⟨⟨l, h1, h2, h3⟩, h4⟩ => ⟨⟨l, h1, by rw [hk d (fun e => hm (e ▸ h2))]; exact h2, h3⟩, DRel.keep hk hm D ds h4⟩
theorem splice_nil (H : AHeap) : H = H := rfl
theorem run_storeAt {t : TypeId} {m : Nat} (hs : ∀ w, (sizeOf t).run P w = .ok m w) {w : World} {a : Addr} {v : Value} (hv : v.cells.size = m) {w' : World} (h : (storeCells a v.cells.toList).run P w = .ok () w') : (Instr.storeAt t (.pointer (some a)) v).run P w = .ok () w' := by
  unfold Instr.storeAt
  show (Sem.run P (do storeVar t a v) w) = _
  unfold storeVar
  rw [Sem.run_bind, hs w, Result.andThen_ok, if_neg (by simp [hv])]
  exact h
theorem o_store {K : ASt → Prop} (hF : Wd F) {t : TypeId} {x y : Operand} {b o m : Nat} {vs us : List Value} {sz : Nat} {v : Value} (hs : ∀ w, (sizeOf t).run P w = .ok m w) (hx : ev s.T x = .pointer (some ⟨b, o, none⟩)) (hy : ev s.T y = v) (hH : s.H[b]? = some (.cells true vs sz))
    (hus : v.cells.toList = us) (hm : us.length = m) (hl : Lv s.H v) (hc : ∀ u ∈ us, Lc s.H u) (ho : o + us.length ≤ vs.length) (hcx : cOk s.H x) (hcy : cOk s.H y) (hd : dOk s.nt dst)
    (hk : K (ASt.put { s with H := s.H.set b (.cells true (splice vs o us) sz) } dst undef)) : OpOk F n P N0 ⟨dst, .store t x y, ty, pos, af, g⟩ K s := by
  subst hus
  intro ρ a w hs'
  have hh := hs'.heap
  have h1 := ev_rel hh hs'.tmps hcx
  have h2 := ev_rel hh hs'.tmps hcy
  rw [hx] at h1
  rw [hy] at h2
  obtain ⟨l, hl', h3⟩ := vrel_ptr hh h1 (by rw [hH]; simp)
  have hcs := vrel_cells hh h2 hl
  obtain ⟨o1, q1, q2, q3⟩ := hh.rel b l hl'
  rw [hH] at q1; cases q1
  obtain ⟨q4, cs, E, fr, q5, q6, q7, q8, q9⟩ := q3
  have hlen : (a.eval y).cells.toList.length = v.cells.toList.length := hcs.1.symm
  have hrun : (storeCells ⟨l.blk, l.base + o, none⟩ (a.eval y).cells.toList).run P w = .ok () (w.setCells l.blk (l.base + o) (a.eval y).cells.toList) := by
    have := run_storeCells_cells (P := P) l.blk (l.base + o) (a.eval y).cells.toList 0 w (fun j hj => by
      rw [cell_at q5 (by omega)]; rfl) (fun j hj => by
      have h4 := q9 rfl (l.base + o + j) (by omega) (by omega)
      cases h5 : w.frozen? ⟨l.blk, l.base + o + 0 + j, none⟩ with
      | false => rfl
      | true =>
        unfold World.frozen? at h5
        rw [q5] at h5
        obtain ⟨lo, hi⟩ := fr
        simp only [Bool.and_eq_true, decide_eq_true_eq] at h5
        exact absurd ⟨by omega, by omega⟩ h4) (fun u hu => by
      obtain ⟨i, hi, rfl⟩ := List.mem_iff_getElem.1 hu
      have hi' : i < v.cells.toList.length := by omega
      have h4 := hcs.2 i hi'
      rw [List.getD_eq_getElem?_getD, List.getD_eq_getElem?_getD, List.getElem?_eq_getElem hi', List.getElem?_eq_getElem hi] at h4
      exact vrel_one hh h4 (hc _ (List.getElem_mem hi')))
    simpa using this
  obtain ⟨p1, p2⟩ := store_rel hh hl' hH hcs ho N0.length
  refine ⟨fun f _ => hF.fn f, ?_⟩
  rw [Oper.semAt_eq _ _ _ (by simp)]
  have hr : (execOp a.eval ⟨dst, .store t x y, ty, pos, af, g⟩).run P w = .ok .skip (w.setCells l.blk (l.base + o) (a.eval y).cells.toList) := by
    show (Sem.run P (do Instr.storeAt t (a.eval x) (a.eval y); pure Next.skip) w) = _
    rw [Sem.run_bind, h3, run_storeAt hs (by simp at hlen hm; omega) hrun]
    rfl
  rw [hr]
  refine ⟨_, ρ, hk, ?_, ?_⟩
  · refine SRel.put (s := { s with H := s.H.set b (.cells true (splice vs o v.cells.toList) sz) }) ⟨p1, hs'.tmps, ?_, by simpa using hs'.len, hs'.entry⟩ hd (.undef ρ)
    exact DRel.keep (b := b) (fun c hc => by rw [List.getElem?_set, if_neg (Ne.symm hc)]) (by rw [hH]; simp) _ _ hs'.defers
  · rw [ASt.put_H]; exact p2
/-- A store of one cell. -/
theorem o_store1 {K : ASt → Prop} (hF : Wd F) {t : TypeId} {x y : Operand} {b o : Nat} {vs : List Value} {sz : Nat} {v : Value} (hs : ∀ w, (sizeOf t).run P w = .ok 1 w) (hx : ev s.T x = .pointer (some ⟨b, o, none⟩)) (hy : ev s.T y = v) (hH : s.H[b]? = some (.cells true vs sz))
    (hc : Lc s.H v) (ho : o < vs.length) (hcx : cOk s.H x) (hcy : cOk s.H y) (hk : K { s with H := s.H.set b (.cells true (vs.set o v) sz) }) : OpOk F n P N0 ⟨none, .store t x y, ty, pos, af, g⟩ K s := by
  have hv : v.cells.toList = [v] := by
    obtain ⟨_, h⟩ := hc
    cases v <;> first | rfl | simp [Value.oneCell'] at h
  refine o_store hF hs hx hy hH hv rfl hc.1 (fun u hu => by rw [List.mem_singleton.1 hu]; exact hc) (by simp; omega) hcx hcy trivial ?_
  rw [splice_one ho]; exact hk
end
end Go.Proofs.YtbjlabokijchpaaA
