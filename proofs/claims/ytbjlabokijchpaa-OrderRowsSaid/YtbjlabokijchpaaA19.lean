/-
  Slices as lists, nil or not.
-/
import Derived.Test.YtbjlabokijchpaaA18
import Derived.Test.YtbjlabokijchpaaHsh
namespace Go.Proofs.YtbjlabokijchpaaA
set_option linter.unusedVariables false
open Go Go.RowKit Go.Shelf
/-- The value is a slice of one-celled things that holds the list. -/
def Sl {α : Type} (f : α → Value) (H : AHeap) (v : Value) (l : List α) : Prop :=
  (v = .slice none 0 0 ∧ l = []) ∨ ∃ b o c vs, v = .slice (some ⟨b, o, none⟩) l.length c ∧ Rd H b vs 1 ∧ o + l.length ≤ vs.length ∧ l.length ≤ c ∧ ∀ i (h : i < l.length), vs[o + i]? = some (f l[i])
def u32v (n : Nat) : Value := .int .u32 (n : Int)
def i64v (n : Nat) : Value := .int .i64 (n : Int)
def strv (s : ByteArray) : Value := .string s
section
variable {α : Type} {f : α → Value} {H : AHeap} {v : Value} {l : List α}
theorem Sl.nil : Sl f H (.slice none 0 0) [] := .inl ⟨rfl, rfl⟩
theorem Sl.mono (h : Sl f H v l) {H' : AHeap} (hm : ∀ b vs, v.cells = #[v] → Rd H b vs 1 → (∃ o n c, v = .slice (some ⟨b, o, none⟩) n c) → Rd H' b vs 1) : Sl f H' v l := by
  rcases h with h | ⟨b, o, c, vs, rfl, h2, h3⟩
  · exact .inl h
  · exact .inr ⟨b, o, c, vs, rfl, hm b vs rfl h2 ⟨_, _, _, rfl⟩, h3⟩
theorem Sl.app (h : Sl f H v l) (L : AHeap) : Sl f (H ++ L) v l := h.mono fun b vs _ hR _ => frm_rd' hR
theorem Sl.lc (h : Sl f H v l) : Lc H v := by
  rcases h with ⟨rfl, _⟩ | ⟨b, o, c, vs, rfl, h2, _⟩
  · exact lc_scalar rfl
  · exact lc_slice h2.live
theorem Sl.cells (h : Sl f H v l) : v.cells.toList = [v] := by
  rcases h with ⟨rfl, _⟩ | ⟨b, o, c, vs, rfl, _⟩ <;> rfl
/-- Another block turned. -/
theorem rd_set {b b' : Nat} {vs : List Value} {sz : Nat} {o : AObj} (h : Rd H b vs sz) (hne : b' ≠ b) : Rd (H.set b' o) b vs sz := by
  rcases h with ⟨w, h⟩ | h | ⟨h, h'⟩
  · exact .inl ⟨w, by rw [List.getElem?_set, if_neg hne]; exact h⟩
  · exact .inr (.inl (by rw [List.getElem?_set, if_neg hne]; exact h))
  · exact .inr (.inr ⟨by rw [List.getElem?_set, if_neg hne]; exact h, h'⟩)
theorem Sl.get (h : Sl f H v l) {i : Nat} (hi : i < l.length) : ∃ b o c vs, v = .slice (some ⟨b, o, none⟩) l.length c ∧ Rd H b vs 1 ∧ o + l.length ≤ vs.length ∧ l.length ≤ c ∧ ∀ i (h : i < l.length), vs[o + i]? = some (f l[i]) := by
  rcases h with ⟨_, rfl⟩ | h
  · simp at hi
  · exact h
variable {P : Program} {T : Nat → Value} {dst : Option Tmp} {ty : TypeId} {pos : String} {af : Array Edge} {g : Option (Nat × Bool)}
theorem q_len_sl {t el : TypeId} {x : Operand} (hu : P.underlying t = some (.slice el)) (h : Sl f H v l) (hx : ev T x = v) : OpQ P ⟨dst, .call { callee := .builtin .len, args := #[x], argTypes := #[t] }, ty, pos, af, g⟩ T H (.int .i64 (l.length : Nat)) [] := by
  rcases h with ⟨rfl, rfl⟩ | ⟨b, o, c, vs, rfl, h2, h3⟩
  · exact q_len_nil hu hx
  · exact q_len_slice hu hx h2
theorem sl_full {b n c : Nat} (hR : Rd H b (l.map f) 1) (hn : l.length = n) (hc : n ≤ c) : Sl f H (.slice (some ⟨b, 0, none⟩) n c) l := by
  subst hn
  exact .inr ⟨b, 0, c, l.map f, rfl, hR, by simp, hc, fun i h => by simp [h]⟩
theorem get_map {k : Nat} (h : k < l.length) : (l.map f)[0 + k]? = some (f l[k]) := by simp [h]
theorem set_map (k : Nat) (x : α) : (l.map f).set (0 + k) (f x) = (l.set k x).map f := by simp [List.map_set]
theorem q_makeSlice1 {t el : TypeId} {x y : Operand} {k k' : IntKind} {len m N : Nat} {i : TypeInfo} {z : Value} {vs : List Value} (hN : H.length = N) (hu : P.underlying t = some (.slice el)) (hi : ∀ w, (typeInfo el).run P w = .ok i w) (hsz : i.size = 1) (hz : ∀ w, (zeroValue el).run P w = .ok z w) (hc : z.cells = #[z]) (hf : Scalar z = true)
    (hx : ev T x = .int k (len : Int)) (hy : ev T y = .int k' (m : Int)) (hlm : len ≤ m) (hm : m ≤ 140737488355328) (hlim : i.bytes * m ≤ 281474976710656) (hvs : List.replicate m z = vs) :
    OpQ P ⟨dst, .makeSlice t x y, ty, pos, af, g⟩ T H (.slice (some ⟨N, 0, none⟩) len m) [.cells true vs 1] := by
  refine q_makeSlice (n := 1) hN hu hi hsz hz (by rw [hc]; simp [hf]) (by rw [hc]; simp) hx hy hlm hm hlim ?_
  rw [← hvs, Nat.mul_one, hc]
  apply List.ext_getElem
  · simp
  · intro j h1 h2
    simp [Nat.mod_one]
end
theorem lcs2 {H : AHeap} {a b : Value} (h1 : Lc H a) (h2 : Lc H b) : ∀ u ∈ [a, b], Lc H u := fun u hu => by
  simp only [List.mem_cons, List.not_mem_nil, or_false] at hu
  rcases hu with rfl | rfl
  · exact h1
  · exact h2
theorem lcs1 {H : AHeap} {a : Value} (h1 : Lc H a) : ∀ u ∈ [a], Lc H u := fun u hu => by
  simp only [List.mem_cons, List.not_mem_nil, or_false] at hu
  subst hu; exact h1
/-! ### Literals -/
def setL (cs : List Value) (off : Nat) : List Value → List Value
  | [] => cs
  | c :: l => setL (cs.set off c) (off + 1) l
theorem fold_set (off : Nat) : ∀ (l : List Value) (k : Nat) (cells : Array Value), ((l.zipIdx k).foldl (fun cs (p : Value × Nat) => cs.setIfInBounds (off + p.2) p.1) cells).toList = setL cells.toList (off + k) l
  | [], k, cells => rfl
  | c :: l, k, cells => by
    rw [List.zipIdx_cons, List.foldl_cons, fold_set off l (k + 1)]
    simp [setL, Nat.add_assoc]
def fillL (place : Nat → Option (Nat × Nat)) (cells : List Value) : List (Nat × Value) → Option (List Value)
  | [] => some cells
  | (i, v) :: rest => match place i with
    | none => none
    | some (off, size) => cond (Nat.beq v.cells.toList.length size && Nat.ble (off + v.cells.toList.length) cells.length) (fillL place (setL cells off v.cells.toList) rest) none
theorem fillL_fill {place : Nat → Option (Nat × Nat)} : ∀ {ps : List (Nat × Value)} {cells : Array Value} {ds : List Value}, fillL place cells.toList ps = some ds → Instr.fill place cells ps = some ds.toArray
  | [], cells, ds, h => by
    cases h
    simp [Instr.fill]
  | (i, v) :: rest, cells, ds, h => by
    unfold fillL at h
    unfold Instr.fill
    cases hp : place i with
    | none => rw [hp] at h; cases h
    | some q =>
      obtain ⟨off, size⟩ := q
      rw [hp] at h
      dsimp only at h ⊢
      cases hb : (Nat.beq v.cells.toList.length size && Nat.ble (off + v.cells.toList.length) cells.toList.length) with
      | false => rw [hb] at h; cases h
      | true =>
        rw [hb] at h
        simp only [Bool.and_eq_true] at hb
        have h1 := Nat.eq_of_beq_eq_true hb.1
        have h2 := Nat.le_of_ble_eq_true hb.2
        rw [Array.length_toList] at h1
        rw [Array.length_toList, Array.length_toList] at h2
        rw [if_neg (by simp [h1]; omega)]
        refine fillL_fill (ds := ds) ?_
        have e := fold_set off v.cells.toList 0 cells
        rw [Nat.add_zero] at e
        rw [← Array.foldl_toList, Array.toList_zipIdx]
        rw [e]
        exact h
section
variable {P : Program} {T : Nat → Value} {H : AHeap} {dst : Option Tmp} {ty : TypeId} {pos : String} {af : Array Edge} {g : Option (Nat × Bool)}
theorem pmap_evl {l : List (Nat × Operand)} {vs : List Value} (h : EvL T (l.map (·.2)) vs) : (pmap (ev T) l.toArray).toList = (l.map (·.1)).zip vs := by
  rw [← h.map]
  have e : (pmap (ev T) l.toArray).toList = l.map fun p => (p.1, ev T p.2) := by simp [pmap]
  rw [e]
  clear e h
  induction l with
  | nil => rfl
  | cons p l ih => rw [List.map_cons, ih]; rfl
theorem q_buildL {t : TypeId} {l : List (Nat × Operand)} {fs : Array Field} (pl : List (Nat × Nat)) {z : Value} (vs : List Value) {ds : List Value} (hu : P.underlying t = some (.struct fs)) (hz : ∀ w, (zeroValue t).run P w = .ok z w) (hf : Flat z)
    (hpl : fs.toList.map (fun f => (f.offset, (P.info? f.type).map (·.size))) = pl.map (fun p => (p.1, some p.2))) (hev : EvL T (l.map (·.2)) vs) (hl : ∀ v ∈ vs, Lv H v)
    (hds : fillL (fun i : Nat => pl[i]?) z.cells.toList ((l.map (·.1)).zip vs) = some ds) : OpQ P ⟨dst, .build t l.toArray, ty, pos, af, g⟩ T H (.agg ds.toArray) [] := by
  refine q_build (pl := pl.toArray) hu hz hf (by simpa using hpl) (fun x hx => ?_) ?_
  · refine hl _ ?_
    rw [← hev.map]
    exact List.mem_map_of_mem (by simpa using hx)
  · rw [pmap_evl hev]
    have e : (fun i : Nat => pl.toArray[i]?) = fun i : Nat => pl[i]? := by funext i; simp
    rw [e]
    exact fillL_fill hds
theorem q_buildArrL {t el : TypeId} {l : List (Nat × Operand)} {n m : Nat} {z : Value} (vs : List Value) {ds : List Value} (hu : P.underlying t = some (.array m el)) (hs : ∀ w, (sizeOf el).run P w = .ok n w) (hz : ∀ w, (zeroValue t).run P w = .ok z w) (hf : Flat z)
    (hev : EvL T (l.map (·.2)) vs) (hl : ∀ v ∈ vs, Lv H v) (hds : fillL (fun i => some (i * n, n)) z.cells.toList ((l.map (·.1)).zip vs) = some ds) : OpQ P ⟨dst, .build t l.toArray, ty, pos, af, g⟩ T H (.agg ds.toArray) [] := by
  refine q_buildArr hu hs hz hf (fun x hx => ?_) ?_
  · refine hl _ ?_
    rw [← hev.map]
    exact List.mem_map_of_mem (by simpa using hx)
  · rw [pmap_evl hev]; exact fillL_fill hds
theorem q_buildSliceL {t el : TypeId} {len : Nat} {l : List (Nat × Operand)} {n N : Nat} {z : Value} (vs : List Value) {ds : List Value} (hN : H.length = N) (hu : P.underlying t = some (.slice el)) (hs : ∀ w, (sizeOf el).run P w = .ok n w) (hz : ∀ w, (zeroValue el).run P w = .ok z w) (hf : z.cells.toList.all Scalar = true) (hzn : 0 < z.cells.size)
    (hlim : len * n ≤ 16777216) (hev : EvL T (l.map (·.2)) vs) (hl : ∀ v ∈ vs, Lv H v)
    (hds : fillL (fun i => some (i * n, n)) ((List.range (len * n)).map fun j => z.cells.toList.getD (j % z.cells.toList.length) undef) ((l.map (·.1)).zip vs) = some ds) (hnl : ds.length = len * n) :
    OpQ P ⟨dst, .buildSlice t len l.toArray, ty, pos, af, g⟩ T H (.slice (some ⟨N, 0, none⟩) len len) [.cells true ds n] := by
  subst hN
  refine q_buildSlice (ds := ds.toArray) hu hs hz hf hzn hlim (fun x hx => ?_) ?_ rfl (by simpa using hnl)
  · refine hl _ ?_
    rw [← hev.map]
    exact List.mem_map_of_mem (by simpa using hx)
  · rw [pmap_evl hev]
    refine fillL_fill ?_
    rw [← hds]
    congr 1
    rw [Array.toList_map, Array.toList_range]
    apply List.map_congr_left
    intro j _
    have hlt : j % z.cells.size < z.cells.size := Nat.mod_lt _ hzn
    rw [getElem!_pos z.cells _ hlt]
    simp [List.getD_eq_getElem?_getD, hlt]
theorem lvs0 {H : AHeap} : ∀ v ∈ ([] : List Value), Lv H v := fun v hv => by simp at hv
theorem lvsC {H : AHeap} {a : Value} {l : List Value} (h : Lv H a) (k : ∀ v ∈ l, Lv H v) : ∀ v ∈ a :: l, Lv H v := fun v hv => by
  rcases List.mem_cons.1 hv with rfl | hv
  · exact h
  · exact k v hv
end
theorem all_u32v (l : List Nat) : (l.map u32v).all Scalar = true := by simp [u32v, Scalar]
theorem all_i64v (l : List Nat) : (l.map i64v).all Scalar = true := by simp [i64v, Scalar]
theorem all_strv (l : List ByteArray) : (l.map strv).all Scalar = true := by simp [strv, Scalar]
end Go.Proofs.YtbjlabokijchpaaA
