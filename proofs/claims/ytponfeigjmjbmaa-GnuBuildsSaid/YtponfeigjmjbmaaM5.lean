/-
  Walks over abstract states: texts of one claim, merged.
-/
import Derived.Test.YtponfeigjmjbmaaM4
import Derived.Lib.UnsafeStr
import Derived.Lib.Builder
import Derived.Laws.Externs
import Derived.Test.YtponfeigjmjbmaaProg
import Derived.KernelRfl
/-
  Blocks of a known type: strings.Builder, and its row of bytes.
-/
namespace Go.Proofs.YtponfeigjmjbmaaA
set_option linter.unusedVariables false
open Go Go.RowKit Go.Shelf
/-- A writable block, written. -/
theorem store_relT {ρ : Ren} {H : AHeap} {w : World} (hh : HRel ρ H w) {b o : Nat} {l : Loc} {vs us us' : List Value} {sz : Nat} {tt : TypeId} (hl : ρ b = .at l) (hH : H[b]? = some (.typed tt vs sz)) (hu : LRel ρ us us') (ho : o + us.length ≤ vs.length) (n : Nat) :
    HRel ρ (H.set b (.typed tt (splice vs o us) sz)) (w.setCells l.blk (l.base + o) us') ∧ Fr n ρ H w ρ (H.set b (.typed tt (splice vs o us) sz)) (w.setCells l.blk (l.base + o) us') := by
  have hb : b < H.length := (List.getElem?_eq_some_iff.1 hH).1
  obtain ⟨o1, q1, q2, q3⟩ := hh.rel b l hl
  rw [hH] at q1; cases q1
  obtain ⟨q4, cs, E, fr, q5, q6, q7, q8, q9⟩ := q3
  have hul : us'.length = us.length := hu.1.symm
  obtain ⟨cs', p1, p2, p3⟩ := heap_setCells l.blk us' (l.base + o) w cs E fr q5 (by omega)
  obtain ⟨s1, s2, s3, s4⟩ := size_setCells l.blk us' (l.base + o) w
  have hwr : wr H b := ⟨_, hH, rfl⟩
  have hother : ∀ c m, c ≠ b → ρ c = .at m → (w.setCells l.blk (l.base + o) us').heap[m.blk]? = w.heap[m.blk]? := fun c m hc hm => other_setCells _ _ (fun e => hh.inj b c l m (Ne.symm hc) hl hm hwr e.symm) _ _ _
  have hwr' : ∀ c, wr (H.set b (.typed tt (splice vs o us) sz)) c → wr H c := fun c ⟨o2, h1, h2⟩ => by
    by_cases e1 : c = b
    · subst e1; exact hwr
    · rw [List.getElem?_set, if_neg (Ne.symm e1)] at h1; exact ⟨o2, h1, h2⟩
  refine ⟨⟨fun c hc => hh.bound c (by simpa using hc), fun c m hm => ?_, fun c d m m' hne hc hd hw => hh.inj c d m m' hne hc hd (hwr' c hw), fun g vs' sz' hg => ?_, fun c hc => ?_⟩,
    ⟨s2, s3, s4, by omega, fun k hk ho' => other_setCells _ _ (fun e => ho' ⟨b, l, hl, e.symm, hwr⟩) _ _ _, fun c _ => .inl rfl, fun c m hm hw => .inl ⟨c, m, hm, rfl, hwr' c hw⟩⟩⟩
  · by_cases e1 : c = b
    · subst e1
      rw [hl] at hm; cases hm
      refine ⟨.typed tt (splice vs o us) sz, by rw [List.getElem?_set, if_pos rfl, if_pos hb], by omega, q4, cs', E, fr, p1, by rw [splice_length ho]; exact q6, by omega, fun i hi => ?_, q9.1, q9.2.1, q9.2.2.1, by have := q9.2.2.2.1; omega, q9.2.2.2.2.imp id (fun h => by rw [splice_length ho]; omega)⟩
      rw [splice_length ho] at hi
      rw [splice_get ho, p3]
      by_cases e2 : o ≤ i ∧ i < o + us.length
      · rw [if_pos e2, if_pos (by omega)]
        have := hu.2 (i - o) (by omega)
        rwa [show l.base + i - (l.base + o) = i - o by omega]
      · rw [if_neg e2, if_neg (by omega)]
        exact q8 i hi
    · obtain ⟨o2, r1, r2, r3⟩ := hh.rel c m hm
      exact ⟨o2, by rw [List.getElem?_set, if_neg (Ne.symm e1)]; exact r1, by omega, r3.mono (fun _ _ => .inl rfl) (hother c m e1 hm)⟩
  · by_cases e1 : g = b
    · subst e1
      rw [List.getElem?_set, if_pos rfl, if_pos hb] at hg; cases hg
    · rw [List.getElem?_set, if_neg (Ne.symm e1)] at hg; exact hh.glob g vs' sz' hg
  · have := hh.isdead c hc
    rw [List.getElem?_set]
    by_cases e1 : b = c
    · subst e1; rw [hH] at this; cases this
    · rw [if_neg e1]; exact this
section
variable {F : Fence} {n : Nat} {P : Program} {N0 : AHeap} {s : ASt} {dst : Option Tmp} {ty : TypeId} {pos : String} {af : Array Edge} {g : Option (Nat × Bool)}
theorem o_storeT {K : ASt → Prop} (hF : Wd F) {t tt : TypeId} {x y : Operand} {b o m : Nat} {vs us : List Value} {sz : Nat} {v : Value} (hs : ∀ w, (sizeOf t).run P w = .ok m w) (hx : ev s.T x = .pointer (some ⟨b, o, none⟩)) (hy : ev s.T y = v) (hH : s.H[b]? = some (.typed tt vs sz))
    (hus : v.cells.toList = us) (hm : us.length = m) (hl : Lv s.H v) (hc : ∀ u ∈ us, Lc s.H u) (ho : o + us.length ≤ vs.length) (hcx : cOk s.H x) (hcy : cOk s.H y) (hd : dOk s.nt dst)
    (hk : K (ASt.put { s with H := s.H.set b (.typed tt (splice vs o us) sz) } dst undef)) : OpOk F n P N0 ⟨dst, .store t x y, ty, pos, af, g⟩ K s := by
  subst hus
  intro ρ a w hs'
  have hh := hs'.heap
  have h1 := ev_rel hh hs'.tmps hcx
  have h2 := ev_rel hh hs'.tmps hcy
  rw [hx] at h1
  rw [hy] at h2
  obtain ⟨l, hl', h3⟩ := vrel_ptr hh h1 (by rw [hH]; simp)
  have hcs := vrel_cells hh h2 hl
  obtain ⟨o1, q1, q2, q3⟩ := hh.rel b l hl'
  rw [hH] at q1; cases q1
  obtain ⟨q4, cs, E, fr, q5, q6, q7, q8, q9⟩ := q3
  have hlen : (a.eval y).cells.toList.length = v.cells.toList.length := hcs.1.symm
  have hrun : (storeCells ⟨l.blk, l.base + o, none⟩ (a.eval y).cells.toList).run P w = .ok () (w.setCells l.blk (l.base + o) (a.eval y).cells.toList) := by
    have := run_storeCells_cells (P := P) l.blk (l.base + o) (a.eval y).cells.toList 0 w (fun j hj => by
      rw [cell_at q5 (by omega)]; rfl) (fun j hj => by
      have h4 := q9.1 (l.base + o + j) (by omega) (by omega)
      cases h5 : w.frozen? ⟨l.blk, l.base + o + 0 + j, none⟩ with
      | false => rfl
      | true =>
        unfold World.frozen? at h5
        rw [q5] at h5
        obtain ⟨lo, hi⟩ := fr
        simp only [Bool.and_eq_true, decide_eq_true_eq] at h5
        exact absurd ⟨by omega, by omega⟩ h4) (fun u hu => by
      obtain ⟨i, hi, rfl⟩ := List.mem_iff_getElem.1 hu
      have hi' : i < v.cells.toList.length := by omega
      have h4 := hcs.2 i hi'
      rw [List.getD_eq_getElem?_getD, List.getD_eq_getElem?_getD, List.getElem?_eq_getElem hi', List.getElem?_eq_getElem hi] at h4
      exact vrel_one hh h4 (hc _ (List.getElem_mem hi')))
    simpa using this
  obtain ⟨p1, p2⟩ := store_relT hh hl' hH hcs ho N0.length
  refine ⟨fun f _ => hF.fn f, ?_⟩
  rw [Oper.semAt_eq _ _ _ (by simp)]
  have hr : (execOp a.eval ⟨dst, .store t x y, ty, pos, af, g⟩).run P w = .ok .skip (w.setCells l.blk (l.base + o) (a.eval y).cells.toList) := by
    show (Sem.run P (do Instr.storeAt t (a.eval x) (a.eval y); pure Next.skip) w) = _
    rw [Sem.run_bind, h3, run_storeAt hs (by simp at hlen hm; omega) hrun]
    rfl
  rw [hr]
  refine ⟨_, ρ, hk, ?_, ?_⟩
  · refine SRel.put (s := { s with H := s.H.set b (.typed tt (splice vs o v.cells.toList) sz) }) ⟨p1, hs'.tmps, ?_, by simpa using hs'.len, hs'.entry⟩ hd (.undef ρ)
    exact DRel.keep (b := b) (fun c hc => by rw [List.getElem?_set, if_neg (Ne.symm hc)]) (by rw [hH]; simp) _ _ hs'.defers
  · rw [ASt.put_H]; exact p2
/-- A store of one cell. -/
theorem o_store1T {K : ASt → Prop} (hF : Wd F) {t tt : TypeId} {x y : Operand} {b o : Nat} {vs : List Value} {sz : Nat} {v : Value} (hs : ∀ w, (sizeOf t).run P w = .ok 1 w) (hx : ev s.T x = .pointer (some ⟨b, o, none⟩)) (hy : ev s.T y = v) (hH : s.H[b]? = some (.typed tt vs sz))
    (hc : Lc s.H v) (ho : o < vs.length) (hcx : cOk s.H x) (hcy : cOk s.H y) (hk : K { s with H := s.H.set b (.typed tt (vs.set o v) sz) }) : OpOk F n P N0 ⟨none, .store t x y, ty, pos, af, g⟩ K s := by
  have hv : v.cells.toList = [v] := by
    obtain ⟨_, h⟩ := hc
    cases v <;> first | rfl | simp [Value.oneCell'] at h
  refine o_storeT hF hs hx hy hH hv rfl hc.1 (fun u hu => by rw [List.mem_singleton.1 hu]; exact hc) (by simp; omega) hcx hcy trivial ?_
  rw [splice_one ho]; exact hk
end
section
variable {P : Program} {F : Fence} {nn : Nat} {N0 : AHeap} {s : ASt} {dst : Option Tmp} {ty : TypeId} {pos : String} {af : Array Edge} {g : Option (Nat × Bool)}
theorem o_appendT {K : ASt → Prop} (hF : Wd F) {x y : Operand} {sT yT el : TypeId} {i : TypeInfo} {z : Value} {b o n c m sz : Nat} {vs xs : List Value} (hu : P.underlying sT = some (.slice el)) (hi : P.info? el = some i) (hiz : i.zero = some z) (hsz : i.size = sz) (hpos : 0 < i.bytes) (hzs : z.cells.size = sz)
    (hx : ev s.T x = .slice (some ⟨b, o, none⟩) n c) (hy0 : ∀ ρ w v', HRel ρ s.H w → VRel ρ (ev s.T y) v' → ∃ ns, Src P sz yT v' m ns w ∧ LRel ρ xs ns) (hH : s.H[b]? = some (.typed el vs sz)) (ho0 : o = 0) (hs1 : sz = 1) (htail : o + n * sz = vs.length) (hxs : xs.length = m * sz)
    (hbig : (2 * (n + m) + 1000) * i.bytes ≤ 281474976710656) (hcx : cOk s.H x) (hcy : cOk s.H y) (hd : dOk s.nt dst)
    (hk : K (ASt.put { s with H := s.H.set b .dead ++ [.typed el (vs.drop o ++ xs) sz] } dst (.slice (some ⟨s.H.length, 0, none⟩) (n + m) (n + m)))) :
    OpOk F nn P N0 ⟨dst, .call { callee := .builtin .append, args := #[x, y], argTypes := #[sT, yT] }, ty, pos, af, g⟩ K s := by
  intro ρ a w hs'
  have hh := hs'.heap
  have h1 := ev_rel hh hs'.tmps hcx
  have h2 := ev_rel hh hs'.tmps hcy
  rw [hx] at h1
  subst hsz
  obtain ⟨ns, hS, hN⟩ := hy0 ρ w _ hh h2
  rcases vrel_slice hh h1 (by rw [hH]; simp) with ⟨l, o', c', hl, e1, k1, k2, k3, k4⟩ | ⟨e1, e2, e3, ba, e4⟩
  case inr =>
    subst e1 e2
    have hb : b < s.H.length := (List.getElem?_eq_some_iff.1 hH).1
    have hnull := null_rel (o := .dead) hh e3 (fun vs' sz' h => by rw [hH] at h; cases h) (by simp)
    have hd0 : vs.drop o = [] := by rw [List.drop_eq_nil_iff]; omega
    have hNl : ns.length = m * i.size := hS.newsLen
    have hlt : ∀ c m', ρ c = .at m' → m'.blk < w.heap.size := fun c m' h => by
      obtain ⟨_, _, h7, _⟩ := hh.rel c m' h
      exact h7
    have fin : ∀ (w' : World) (ρ' : Ren) (v' : Value), w'.os = w.os → w'.tape = w.tape → w'.output = w.output → w.heap.size ≤ w'.heap.size → (∀ k, k < w.heap.size → w'.heap[k]? = w.heap[k]?) → (∀ c, c ≠ s.H.length → ρ' c = ρ c) → HRel ρ' (s.H.set b .dead ++ [.typed el (vs.drop o ++ xs) i.size]) w' →
        (∀ l', ρ' s.H.length = .at l' → w.heap.size ≤ l'.blk) → VRel ρ' (.slice (some ⟨s.H.length, 0, none⟩) (0 + m) (0 + m)) v' →
        ∃ s' ρ', K s' ∧ SRel N0 ρ' s' (a.put dst v') w' ∧ Fr N0.length ρ s.H w ρ' s'.H w' := by
      intro w' ρ' v' p1 p2 p3 p4 p5 r2 r4 p9 p11
      have hm : ∀ c, ρ c ≠ .none → ρ' c = ρ c ∨ ρ' c = .dead := fun c hc => .inl (r2 c (fun e => hc (by rw [e]; exact hh.bound _ (Nat.le_refl _))))
      have hold : ∀ c, c < s.H.length → ρ' c = ρ c := fun c hc => r2 c (by omega)
      have hs1 : SRel N0 ρ' { s with H := s.H.set b .dead ++ [.typed el (vs.drop o ++ xs) i.size] } a w' := by
        refine ⟨r4, hs'.tmps.mono hm, DRel.dead (fun d m' h3 h4 => ?_) _ _ hs'.defers, by have := hs'.len; simp; omega, hs'.entry.of fun c hc => .inl (hold c (by have := hs'.len; omega))⟩
        have hdl := (List.getElem?_eq_some_iff.1 h4).1
        have hne : d ≠ b := fun e => by rw [e, hH] at h4; cases h4
        exact ⟨(hold d hdl).trans h3, by rw [List.getElem?_append_left (by simpa using hdl), List.getElem?_set, if_neg (Ne.symm hne)]; exact h4⟩
      refine ⟨_, ρ', hk, hs1.put hd p11, ?_⟩
      rw [ASt.put_H]
      refine ⟨p1, p2, p3, p4, fun k hk' _ => p5 k hk', fun c hc => .inl (hold c (by have := hs'.len; omega)), fun c m' hc hw => ?_⟩
      by_cases e : c = s.H.length
      · subst e; exact .inr (p9 m' hc)
      · rw [r2 c e] at hc
        have hcl : c < s.H.length := by
          obtain ⟨_, h7, _⟩ := hh.rel c m' hc
          exact (List.getElem?_eq_some_iff.1 h7).1
        obtain ⟨o3, h7, h8⟩ := hw
        have hne : c ≠ b := fun e => by rw [e, e3] at hc; cases hc
        rw [List.getElem?_append_left (by simpa using hcl), List.getElem?_set, if_neg (Ne.symm hne)] at h7
        exact .inl ⟨c, m', hc, rfl, o3, h7, h8⟩
    refine ⟨fun f _ => hF.fn f, ?_⟩
    rw [Oper.semAt_eq _ _ _ (by simp)]
    have hexec : ∀ (v : Value) (w' : World), (Builtin.append_ #[sT, yT] ty #[a.eval x, a.eval y]).run P w = .ok v w' → (execOp a.eval ⟨dst, .call { callee := .builtin .append, args := #[x, y], argTypes := #[sT, yT] }, ty, pos, af, g⟩).run P w = .ok (.value v) w' :=
      fun v w' h => run_builtin (us := #[a.eval x, a.eval y]) (by simp) (run_v h)
    by_cases hm0 : m = 0
    · subst hm0
      have hns : ns = [] := List.length_eq_zero_iff.1 (by rw [hNl, Nat.zero_mul])
      have hx0 : xs = [] := List.length_eq_zero_iff.1 (by rw [hxs, Nat.zero_mul])
      have hr : (Builtin.append_ #[sT, yT] ty #[a.eval x, a.eval y]).run P w = .ok (.slice ba 0 0) w := by
        rw [e4]
        exact append_zero w hu hi hS hns ba
      rw [hexec _ _ hr]
      obtain ⟨ρ', r1, r2, r3, r4⟩ := null_new hnull (o := .typed el (vs.drop o ++ xs) i.size) (by simp)
      simp only [List.length_set] at r1 r2
      exact fin w ρ' _ rfl rfl rfl (Nat.le_refl _) (fun _ _ => rfl) r2 r4 (fun l' h => by rw [r1] at h; cases h) (.empty r1)
    · have hnb : m ≤ (2 * (0 + m) + 1000) * i.bytes := Nat.le_trans (by omega) (Nat.le_mul_of_pos_right _ hpos)
      have hr := run_append_grow_src (P := P) w sT yT ty el i z hu hi hiz ba 0 0 [] (first_zero _ _ _) (a.eval y) m ns hS (by omega) (by omega) (by have := Nat.mul_le_mul_right i.bytes (nextcap_le (n := 0 + m) (o := 0) (by omega)); omega)
      rw [← e4] at hr
      rw [hexec _ _ hr]
      have hcap := grownCap_ge w (0 + m) 0 el
      generalize hnew : ((([] : List Value) ++ ns).toArray ++ Builtin.zeroCells z.cells (grownCap w (0 + m) 0 el - (0 + m))) = row
      have hrow : row.size = m * i.size + (grownCap w (0 + m) 0 el - (0 + m)) * z.cells.size := by
        rw [← hnew]; simp [size_zeroCells, hNl]
      have hsame : ∀ k, k < w.heap.size → (w.drew.alloc (.cells row el)).heap[k]? = w.heap[k]? := fun k hk' => Below.heap_alloc w.drew _ k hk'
      obtain ⟨ρ', r1, r2, r3, r4⟩ := new_at (w1 := w.drew.alloc (.cells row el)) (o := .typed el (vs.drop o ++ xs) i.size) hnull rfl ⟨w.heap.size, 0, row.size, i.size⟩ (by simp [World.size_alloc]) (by simp [World.size_alloc]) (fun c m' h => by have := hlt c m' h; show m'.blk ≠ w.heap.size; omega) (fun c m' h => hsame _ (hlt c m' h)) (fun ρ' hm => by
        refine ⟨rfl, row, el, (0, 0), World.alloc_heap_new w.drew _, ?_, Nat.le_refl _, ?_, frozen_none _, rfl, rfl, rfl, .inl hs1⟩
        · show 0 + _ ≤ row.size
          rw [hd0, List.nil_append, hxs, hrow]; omega
        · intro p hp
          rw [hd0, List.nil_append] at hp ⊢
          have e5 : row.getD (0 + p) undef = ns.getD p undef := by
            rw [← hnew, Nat.zero_add, Array.getD_eq_getD_getElem?, List.getD_eq_getElem?_getD, Array.getElem?_append_left (by simp; omega)]
            simp
          show VRel ρ' _ (row.getD (0 + p) undef)
          rw [e5]
          exact (hN.2 p (by omega)).mono hm)
      simp only [List.length_set] at r1 r2
      refine fin _ ρ' _ rfl rfl rfl (by simp [World.size_alloc]) (fun k hk' => hsame k hk') r2 r4 (fun l' h => by rw [r1] at h; cases h; exact Nat.le_refl _) (.slice r1 (Nat.le_refl _) hcap (.inl rfl) ?_)
      show 0 + 0 + grownCap w (0 + m) 0 el * i.size ≤ row.size
      rw [hrow, hzs, ← Nat.add_mul, Nat.zero_add]
      exact Nat.mul_le_mul_right _ (by omega)
  obtain ⟨o1, q1, q2, q3⟩ := hh.rel b l hl
  rw [hH] at q1; cases q1
  obtain ⟨q4, cs, E, fr, q5, q6, q7, q8, q9⟩ := q3
  have hb : b < s.H.length := (List.getElem?_eq_some_iff.1 hH).1
  have hwr : wr s.H b := ⟨_, hH, rfl⟩
  have hkill := kill_rel hh hl (fun vs' sz' h => by rw [hH] at h; cases h)
  have hNl : ns.length = m * i.size := hS.newsLen
  have hnb : n + m ≤ (2 * (n + m) + 1000) * i.bytes := Nat.le_trans (by omega) (Nat.le_mul_of_pos_right _ hpos)
  have kb : ∀ c m', kill ρ b c = .at m' → c ≠ b ∧ ρ c = .at m' := fun c m' h => by
    unfold kill at h
    by_cases e : c = b
    · rw [if_pos e] at h; cases h
    · rw [if_neg e] at h; exact ⟨e, h⟩
  -- how all is, with the new name
  have fin : ∀ (w' : World) (l' : Loc) (v' : Value), w'.os = w.os → w'.tape = w.tape → w'.output = w.output → w.heap.size ≤ w'.heap.size → l'.blk < w'.heap.size → (∀ c m', kill ρ b c = .at m' → m'.blk ≠ l'.blk) → (∀ c m', kill ρ b c = .at m' → w'.heap[m'.blk]? = w.heap[m'.blk]?) →
      (∀ k, k < w.heap.size → ¬ Owned ρ s.H k → w'.heap[k]? = w.heap[k]?) → (Owned ρ s.H l'.blk ∨ w.heap.size ≤ l'.blk) →
      (∀ ρ', (∀ c, kill ρ b c ≠ .none → ρ' c = kill ρ b c ∨ ρ' c = .dead) → ORel ρ' l' w' (.typed el (vs.drop o ++ xs) i.size)) →
      (∀ ρ', ρ' s.H.length = .at l' → VRel ρ' (.slice (some ⟨s.H.length, 0, none⟩) (n + m) (n + m)) v') →
      ∃ s' ρ', K s' ∧ SRel N0 ρ' s' (a.put dst v') w' ∧ Fr N0.length ρ s.H w ρ' s'.H w' := by
    intro w' l' v' p1 p2 p3 p4 p5 p6 p7 p8 p9 p10 p11
    obtain ⟨ρ', r1, r2, r3, r4⟩ := new_at (o := .typed el (vs.drop o ++ xs) i.size) hkill rfl l' p4 p5 p6 p7 p10
    simp only [List.length_set] at r1 r2
    have hm : ∀ c, ρ c ≠ .none → ρ' c = ρ c ∨ ρ' c = .dead := fun c hc => by
      have hcl : c < s.H.length := by
        by_cases e : c < s.H.length
        · exact e
        · exact absurd (hh.bound c (by omega)) hc
      rw [r2 c (by omega)]
      exact kill_mono ρ b c hc
    have holdA : ∀ c, c < s.H.length → ρ' c = ρ c ∨ (ρ' c = .dead ∧ ∃ l, ρ c = .at l) := fun c hc => by
      rw [r2 c (by omega)]
      unfold kill
      by_cases e : c = b
      · rw [if_pos e]; exact .inr ⟨rfl, l, by rw [e, hl]⟩
      · rw [if_neg e]; exact .inl rfl
    have hold : ∀ c, c < s.H.length → ρ' c = ρ c ∨ (ρ' c = .dead ∧ ρ c ≠ .none) := fun c hc => by
      rcases holdA c hc with e | ⟨e, l', hl'⟩
      · exact .inl e
      · exact .inr ⟨e, by rw [hl']; simp⟩
    have hs1 : SRel N0 ρ' { s with H := s.H.set b .dead ++ [.typed el (vs.drop o ++ xs) i.size] } a w' := by
      refine ⟨r4, hs'.tmps.mono hm, DRel.dead (fun d m' h3 h4 => ?_) _ _ hs'.defers, by have := hs'.len; simp; omega, hs'.entry.of fun c hc => hold c (by have := hs'.len; omega)⟩
      have hdl := (List.getElem?_eq_some_iff.1 h4).1
      have hne : d ≠ b := fun e => by rw [e, hH] at h4; cases h4
      refine ⟨?_, ?_⟩
      · rw [r2 d (by omega)]; unfold kill; rw [if_neg hne]; exact h3
      · rw [List.getElem?_append_left (by simpa using hdl), List.getElem?_set, if_neg (Ne.symm hne)]; exact h4
    refine ⟨_, ρ', hk, hs1.put hd (p11 ρ' r1), ?_⟩
    rw [ASt.put_H]
    refine ⟨p1, p2, p3, p4, p8, fun c hc => holdA c (by have := hs'.len; omega), fun c m' hc hw => ?_⟩
    by_cases e : c = s.H.length
    · subst e
      rw [r1] at hc; cases hc
      exact p9
    · rw [r2 c e] at hc
      obtain ⟨h5, h6⟩ := kb c m' hc
      refine .inl ⟨c, m', h6, rfl, ?_⟩
      have hcl : c < s.H.length := by
        obtain ⟨_, h7, _⟩ := hh.rel c m' h6
        exact (List.getElem?_eq_some_iff.1 h7).1
      obtain ⟨o3, h7, h8⟩ := hw
      rw [List.getElem?_append_left (by simpa using hcl), List.getElem?_set, if_neg (Ne.symm h5)] at h7
      exact ⟨o3, h7, h8⟩
  refine ⟨fun f _ => hF.fn f, ?_⟩
  rw [Oper.semAt_eq _ _ _ (by simp)]
  have hexec : ∀ (v : Value) (w' : World), (Builtin.append_ #[sT, yT] ty #[a.eval x, a.eval y]).run P w = .ok v w' → (execOp a.eval ⟨dst, .call { callee := .builtin .append, args := #[x, y], argTypes := #[sT, yT] }, ty, pos, af, g⟩).run P w = .ok (.value v) w' :=
    fun v w' h => run_builtin (us := #[a.eval x, a.eval y]) (by simp) (run_v h)
  by_cases hroom : n + m ≤ c'
  · -- in place
    have hr : (Builtin.append_ #[sT, yT] ty #[a.eval x, a.eval y]).run P w = .ok (.slice (some ⟨l.blk, o', none⟩) (n + m) c') (w.setCells l.blk (o' + n * i.size) ns) := by
      rw [e1]
      have hmm : (n + m) * i.size ≤ c' * i.size := Nat.mul_le_mul_right _ hroom
      rw [Nat.add_mul] at hmm
      rw [q4] at k4
      refine run_append_room_src w sT yT ty el i hu hi l.blk o' n c' (a.eval y) m ns hS hroom (fun j hj => ?_) (fun j hj => ?_)
      · have : o' = l.base + o := by
          rcases k3 with h | h
          · exact h
          · have : m = 0 := by omega
            rw [hNl, this] at hj; simp at hj
        rw [cell_at q5 (by omega)]; rfl
      · have : o' = l.base + o := by
          rcases k3 with h | h
          · exact h
          · have : m = 0 := by omega
            rw [hNl, this] at hj; simp at hj
        exact frozen_world q5 q9.1 (by omega) (by omega)
    rw [hexec _ _ hr]
    obtain ⟨s1, s2, s3, s4⟩ := size_setCells l.blk ns (o' + n * i.size) w
    have hother : ∀ k, k ≠ l.blk → (w.setCells l.blk (o' + n * i.size) ns).heap[k]? = w.heap[k]? := fun k hk' => other_setCells _ _ hk' _ _ _
    have hfree : ∀ c m', kill ρ b c = .at m' → m'.blk ≠ l.blk := fun c m' h => by
      obtain ⟨h5, h6⟩ := kb c m' h
      exact (hh.inj b c l m' (Ne.symm h5) hl h6 hwr).symm
    refine fin _ ⟨l.blk, l.base + o, l.lim, i.size⟩ _ s2 s3 s4 (by omega) (by show l.blk < _; omega) hfree (fun c m' h => hother _ (hfree c m' h)) (fun k hk' ho => hother k (fun e => ho ⟨b, l, hl, e.symm, hwr⟩)) (.inl ⟨b, l, hl, rfl, hwr⟩) (fun ρ' hm => ?_) (fun ρ' hρ => ?_)
    · refine ⟨rfl, ?_⟩
      by_cases hm0 : m = 0
      · have hns : ns = [] := List.length_eq_zero_iff.1 (by rw [hNl, hm0, Nat.zero_mul])
        subst hns
        refine ⟨cs, E, fr, q5, ?_, q7, ?_, fun p hp1 hp2 => q9.1 p (by show l.base ≤ p; have : l.base + o ≤ p := hp1; omega) hp2, q9.2.1, by show l.base + o = 0; have := q9.2.2.1; omega, q9.2.2.2.1, .inl hs1⟩
        · show l.base + o + _ ≤ l.lim
          have hx0 : xs = [] := List.length_eq_zero_iff.1 (by rw [hxs, hm0, Nat.zero_mul])
          rw [hx0]; simp; omega
        · intro p hp
          have hx0 : xs = [] := List.length_eq_zero_iff.1 (by rw [hxs, hm0, Nat.zero_mul])
          subst hx0
          simp only [List.append_nil, List.length_drop] at hp ⊢
          have := (q8 (o + p) (by omega)).mono (kill_mono ρ b)
          have := this.mono hm
          simpa [List.getD_eq_getElem?_getD, List.getElem?_drop, Nat.add_assoc] using this
      · have ho' : o' = l.base + o := by
          rcases k3 with h | h
          · exact h
          · omega
        have hmm : (n + m) * i.size ≤ c' * i.size := Nat.mul_le_mul_right _ hroom
        rw [Nat.add_mul] at hmm
        rw [q4] at k4
        obtain ⟨cs', p1, p2, p3⟩ := heap_setCells l.blk ns (o' + n * i.size) w cs E fr q5 (by omega)
        have htk := hxs
        refine ⟨cs', E, fr, p1, ?_, by rw [p2]; exact q7, ?_, fun p hp1 hp2 => q9.1 p (by show l.base ≤ p; have : l.base + o ≤ p := hp1; omega) hp2, q9.2.1, by show l.base + o = 0; have := q9.2.2.1; omega, (q9.2.2.2.1.trans p2.symm), .inl hs1⟩
        · show l.base + o + _ ≤ l.lim
          rw [List.length_append, htk, List.length_drop]; omega
        · intro p hp
          rw [List.length_append, htk, List.length_drop] at hp
          show VRel ρ' _ (cs'.getD (l.base + o + p) undef)
          rw [p3]
          by_cases hp2 : p < n * i.size
          · rw [if_neg (by omega)]
            have := ((q8 (o + p) (by omega)).mono (kill_mono ρ b)).mono hm
            rw [List.getD_eq_getElem?_getD, List.getElem?_append_left (by simp; omega), List.getElem?_drop, ← List.getD_eq_getElem?_getD, Nat.add_assoc]
            exact this
          · rw [if_pos (by omega)]
            have := ((hN.2 (p - n * i.size) (by omega)).mono (kill_mono ρ b)).mono hm
            rw [List.getD_eq_getElem?_getD, List.getElem?_append_right (by simp; omega), ← List.getD_eq_getElem?_getD]
            rw [show p - (vs.drop o).length = p - n * i.size by simp; omega, show l.base + o + p - (o' + n * i.size) = p - n * i.size by omega]
            exact this
    · refine VRel.slice (l := ⟨l.blk, l.base + o, l.lim, i.size⟩) hρ (Nat.le_refl _) hroom ?_ (by show l.base + o + 0 + c' * i.size ≤ l.lim; rw [q4] at k4; omega)
      show o' = l.base + o + 0 ∨ c' = 0
      omega
  · -- a new row
    have hgt : c' < n + m := by omega
    have hold : (Builtin.firstCells i.size n (.slice (some ⟨l.blk, o', none⟩) n c')).run P w.drew = .ok (((List.range (n * i.size)).map fun j => cs.getD (o' + j) undef)).toArray w.drew := by
      by_cases h0 : n * i.size = 0
      · show (loadCells _ (n * i.size)).run P w.drew = _
        rw [h0]
        exact run_loadCells (P := P) w.drew _ 0 (fun j => cs.getD (o' + j) undef) (fun j hj => by omega)
      · have ho' : o' = l.base + o := by
          rcases k3 with h | h
          · exact h
          · have : n = 0 := by omega
            rw [this, Nat.zero_mul] at h0; exact absurd rfl h0
        exact run_load_cells (w := w.drew) q5 (by omega)
    have hr := run_append_grow_src (P := P) w sT yT ty el i z hu hi hiz (some ⟨l.blk, o', none⟩) n c' _ hold (a.eval y) m ns hS hgt (by have := hnb; omega) (by have := Nat.mul_le_mul_right i.bytes (nextcap_le hgt); omega)
    rw [← e1] at hr
    rw [hexec _ _ hr]
    have htk := hxs
    have hcap := grownCap_ge w (n + m) c' el
    generalize hnew : ((((List.range (n * i.size)).map fun j => cs.getD (o' + j) undef) ++ ns).toArray ++ Builtin.zeroCells z.cells (grownCap w (n + m) c' el - (n + m))) = row
    have hrow : row.size = n * i.size + m * i.size + (grownCap w (n + m) c' el - (n + m)) * z.cells.size := by
      rw [← hnew]; simp [size_zeroCells, hNl]
    have hsame : ∀ k, k < w.heap.size → (w.drew.alloc (.cells row el)).heap[k]? = w.heap[k]? := fun k hk' => Below.heap_alloc w.drew _ k hk'
    have hlt : ∀ c m', kill ρ b c = .at m' → m'.blk < w.heap.size := fun c m' h => by
      obtain ⟨_, h6⟩ := kb c m' h
      obtain ⟨_, _, h7, _⟩ := hh.rel c m' h6
      exact h7
    have hzc : i.size ≤ z.cells.size ∨ z.cells.size < i.size := by omega
    refine fin _ ⟨w.heap.size, 0, row.size, i.size⟩ _ rfl rfl rfl (by simp [World.size_alloc]) (by simp [World.size_alloc]) (fun c m' h => by have := hlt c m' h; show m'.blk ≠ w.heap.size; omega) (fun c m' h => hsame _ (hlt c m' h)) (fun k hk' _ => hsame k hk') (.inr (Nat.le_refl _)) (fun ρ' hm => ?_) (fun ρ' hρ => ?_)
    · refine ⟨rfl, row, el, (0, 0), World.alloc_heap_new w.drew _, ?_, Nat.le_refl _, ?_, frozen_none _, rfl, rfl, rfl, .inl hs1⟩
      · show 0 + _ ≤ row.size
        rw [List.length_append, htk, List.length_drop, hrow]; omega
      · intro p hp
        rw [List.length_append, htk, List.length_drop] at hp
        have e3 : row.getD (0 + p) undef = (((List.range (n * i.size)).map fun j => cs.getD (o' + j) undef) ++ ns).getD p undef := by
          rw [← hnew, Nat.zero_add, Array.getD_eq_getD_getElem?, List.getD_eq_getElem?_getD, Array.getElem?_append_left (by simp; omega)]
          simp
        show VRel ρ' _ (row.getD (0 + p) undef)
        rw [e3]
        by_cases hp2 : p < n * i.size
        · have ho' : o' = l.base + o := by
            rcases k3 with h | h
            · exact h
            · have : n = 0 := by omega
              rw [this, Nat.zero_mul] at hp2; omega
          have := ((q8 (o + p) (by omega)).mono (kill_mono ρ b)).mono hm
          rw [List.getD_eq_getElem?_getD (l := vs.drop o ++ _), List.getElem?_append_left (by simp; omega), List.getElem?_drop]
          rw [List.getD_eq_getElem?_getD (l := _ ++ ns), List.getElem?_append_left (by simp; omega)]
          simpa [List.getD_eq_getElem?_getD, hp2, ho', Nat.add_assoc] using this
        · have := ((hN.2 (p - n * i.size) (by omega)).mono (kill_mono ρ b)).mono hm
          rw [List.getD_eq_getElem?_getD, List.getElem?_append_right (by simp; omega), ← List.getD_eq_getElem?_getD]
          rw [List.getD_eq_getElem?_getD (l := _ ++ ns), List.getElem?_append_right (by simp; omega), ← List.getD_eq_getElem?_getD]
          rw [show p - (vs.drop o).length = p - n * i.size by simp; omega]
          simpa using this
    · refine .slice hρ (Nat.le_refl _) hcap (.inl rfl) ?_
      show 0 + 0 + grownCap w (n + m) c' el * i.size ≤ row.size
      rw [hrow, hzs, ← Nat.add_mul, ← Nat.add_mul, Nat.zero_add]
      exact Nat.mul_le_mul_right _ (by omega)
end
section
variable {P : Program} {T : Nat → Value} {H : AHeap} {dst : Option Tmp} {ty : TypeId} {pos : String} {af : Array Edge} {g : Option (Nat × Bool)}
/-- var b strings.Builder: its row is not there yet. -/
theorem q_allocB {t te : TypeId} {z : Value} (hz : ∀ w, (zeroValue t).run P w = .ok z w) (hvs : z.cells = #[.pointer none, .slice none 0 0]) :
    OpQ P ⟨dst, .alloc t, ty, pos, af, g⟩ T H (.pointer (some ⟨H.length + 1, 0, none⟩)) [.typed te [] 1, .typed t [.pointer none, .slice (some ⟨H.length, 0, none⟩) 0 0] 2] := by
  refine ⟨by simp, by simp [AObj.wr], fun ρ e w hh he => ?_⟩
  have hr : (execOp e ⟨dst, .alloc t, ty, pos, af, g⟩).run P w = .ok (.value (.pointer (some ⟨w.heap.size, 0, none⟩))) (w.alloc (.cells z.cells t)) := by
    refine run_v ?_
    show (Instr.alloc t true (.tuple #[])).run P w = _
    unfold Instr.alloc
    rw [Sem.run_bind, hz w, Result.andThen_ok]
    rfl
  rw [hr]
  obtain ⟨ρ1, r1, r2, r3, r4⟩ := null_new hh (o := .typed te [] 1) (by simp)
  obtain ⟨ρ2, u1, u2, u3, u4⟩ := new_obj (w1 := w.alloc (.cells z.cells t)) (o := .typed t [.pointer none, .slice (some ⟨H.length, 0, none⟩) 0 0] 2) r4 rfl ⟨w.heap.size, 0, 2, 2⟩ rfl rfl rfl rfl rfl (fun ρ' hm => by
    refine ⟨rfl, z.cells, t, (0, 0), World.alloc_heap_new w _, Nat.le_refl _, by rw [hvs]; exact Nat.le_refl _, fun i hi => ?_, frozen_none _, rfl, rfl, by rw [hvs]; rfl, .inr (by rw [hvs]; rfl)⟩
    rw [hvs]
    match i, hi with
    | 0, _ => exact .nilPtr
    | 1, _ =>
      rcases hm H.length (by rw [r1]; simp) with h | h
      · exact .empty (h.trans r1)
      · exact .dead h
    | n + 2, hi => simp at hi; omega)
  have hlen : (H ++ [AObj.typed te [] 1]).length = H.length + 1 := by simp
  rw [hlen] at u1
  refine ⟨ρ2, by have := VRel.ptr (o := 0) u1; simpa using this, by rw [List.append_assoc] at u3; exact u3, ⟨rfl, rfl, rfl, by simp [World.size_alloc], fun k hk _ => Below.heap_alloc w _ k hk, fun b hb => by rw [u4.old b (by rw [hlen]; omega), r2 b (by omega)], fun b l' hb hl' => ?_⟩⟩
  by_cases e1 : b = H.length
  · subst e1
    rw [u4.old _ (by rw [hlen]; omega), r1] at hl'; cases hl'
  · exact u4.fresh b l' (by rw [hlen]; omega) hl'
theorem typed_at {ρ : Ren} {w : World} (hh : HRel ρ H w) {b : Nat} {tt : TypeId} {vs : List Value} {sz : Nat} {l : Loc} (hl : ρ b = .at l) (hH : H[b]? = some (.typed tt vs sz)) : l.base = 0 ∧ ∃ cs fr, w.heap[l.blk]? = some (.cells cs tt fr) ∧ vs.length ≤ cs.size ∧ CRel ρ vs cs 0 ∧ l.lim = cs.size ∧ frozenFree fr l ∧ (sz = 1 ∨ cs.size = vs.length) ∧ w.shape? l.blk = some (tt, cs.size) := by
  obtain ⟨o, h1, h2, h3⟩ := hh.rel b l hl
  rw [hH] at h1; cases h1
  obtain ⟨_, cs, T', fr, q1, q2, q3, q4, q5, rfl, q6, q7, q8⟩ := h3
  rw [q6] at q4
  exact ⟨q6, cs, fr, q1, by omega, q4, q7, q5, q8, by simp [World.shape?, q1]⟩
theorem q_toUnsafe {s d u : TypeId} {x : Operand} {ti : TypeInfo} {b : Nat} {tt : TypeId} {vs : List Value} {sz : Nat} (hs : P.underlying s = some (.pointer u)) (hd : P.underlying d = some .unsafePointer) (hu : P.info? u = some ti) (hn : ti.size ≠ 0) (hx : ev T x = .pointer (some ⟨b, 0, none⟩)) (hH : H[b]? = some (.typed tt vs sz)) (hv : 0 < vs.length) :
    OpQ P ⟨dst, .convert s d x, ty, pos, af, g⟩ T H (.pointer (some ⟨b, 0, none⟩)) [] :=
  q_val (by simp) fun ρ e w hh he => by
    have h1 := he x (by simp [Op.operands])
    rw [hx] at h1
    obtain ⟨l, hl, h2⟩ := vrel_ptr hh h1 (by rw [hH]; simp)
    obtain ⟨q1, cs, fr, q2, q3, _, _, _, _, q4⟩ := typed_at hh hl hH
    refine ⟨e x, run_v ?_, h1⟩
    show (convert s d (e x)).run P w = _
    rw [h2]
    exact Lib.run_to_unsafe w _ hs hd hu hn q4 (by show l.base + 0 < cs.size; omega)
theorem q_fromUnsafe {s d u : TypeId} {x : Operand} {ti : TypeInfo} {b : Nat} {tt : TypeId} {vs : List Value} {sz : Nat} (hs : P.underlying s = some .unsafePointer) (hd : P.underlying d = some (.pointer u)) (hu : P.info? u = some ti) (hx : ev T x = .pointer (some ⟨b, 0, none⟩)) (hH : H[b]? = some (.typed tt vs sz)) (hsz : sz ≠ 1) (hlies : liesAt P P.depth tt (vs.length / P.cellsOf tt) 0 u 1 = true) :
    OpQ P ⟨dst, .convert s d x, ty, pos, af, g⟩ T H (.pointer (some ⟨b, 0, none⟩)) [] :=
  q_val (by simp) fun ρ e w hh he => by
    have h1 := he x (by simp [Op.operands])
    rw [hx] at h1
    obtain ⟨l, hl, h2⟩ := vrel_ptr hh h1 (by rw [hH]; simp)
    obtain ⟨q1, cs, fr, q2, q3, _, _, _, q5, q4⟩ := typed_at hh hl hH
    refine ⟨e x, run_v ?_, h1⟩
    show (convert s d (e x)).run P w = _
    rw [h2]
    refine Lib.run_from_unsafe w _ hs hd hu q4 ?_
    show liesAt P P.depth tt (cs.size / P.cellsOf tt) (l.base + 0) u 1 = true
    rw [q1, q5.resolve_left hsz]; exact hlies
/-- A function that the model stands in for: abi.NoEscape. -/
theorem q_noEscape {f : FuncId} {fn : Func} {x : Operand} {ats : Array TypeId} {v : Value} (hf : P.funcs[f]? = some fn) (hname : (fn.name == "runtime.NumGoroutine") = false) (hb : fn.body.isNone = true) (hn : Extern.findNext fn = none) (he : Extern.find fn = some Extern.AbiNoEscape.same) (hx : ev T x = v) :
    OpQ P ⟨dst, .call { callee := .value (.func f), args := #[x], argTypes := ats }, ty, pos, af, g⟩ T H v [] :=
  q_val (by simp) fun ρ e w hh h => by
    have h1 := h x (by simp [Op.operands, Call.operands])
    have hfv := h (.func f) (by simp [Op.operands, Call.operands])
    rw [hx] at h1
    obtain ⟨fs', cs', h2, h3, _, h4, _⟩ := vrel_func (f := f) (fs := #[]) (cs := #[]) hfv
    have hfs : fs' = #[] := Array.eq_empty_of_size_eq_zero (by simpa using h3.symm)
    have hcs : cs' = #[] := Array.eq_empty_of_size_eq_zero (by simpa using h4.symm)
    refine ⟨e x, ?_, h1⟩
    show (Sem.run P (do let d ← resolve e _ ty; invoke d.target d.args) w) = _
    unfold resolve
    simp only [h2, hfs, hcs, Deferred.ofValue, Sem.run_bind, Sem.run_pure, Result.andThen_ok, invoke]
    rw [run_callFunc_extern hf hname hb hn he]
    have e9 : (#[] ++ Array.map e #[x] ++ #[] : Array Value) = #[e x] := by simp
    rw [e9, Lib.run_noEscape]
    rfl
theorem q_sliceData {t : TypeId} {x : Operand} {b n c : Nat} {vs : List Value} {sz : Nat} {tt : TypeId} (hx : ev T x = .slice (some ⟨b, 0, none⟩) n c) (hn : 0 < n) (hH : H[b]? = some (.typed tt vs sz)) :
    OpQ P ⟨dst, .call { callee := .builtin .unsafeSliceData, args := #[x], argTypes := #[t] }, ty, pos, af, g⟩ T H (.pointer (some ⟨b, 0, none⟩)) [] :=
  q_val (by simp) fun ρ e w hh he => by
    have h1 := he x (by simp [Op.operands, Call.operands])
    rw [hx] at h1
    rcases vrel_slice hh h1 (by rw [hH]; simp) with ⟨l, o', c', hl, h2, h3, h4, h5, h6⟩ | ⟨h3, _⟩
    case inr => omega
    have ho : o' = l.base + 0 := by omega
    refine ⟨.pointer (some ⟨l.blk, l.base + 0, none⟩), run_builtin (us := #[e x]) (by simp) (run_v ?_), .ptr hl⟩
    show (Builtin.unsafeSliceData_ #[t] ty #[e x]).run P w = _
    rw [h2, ho]
    exact Lib.run_unsafeSliceData_row w _ _ _ _ _ (by omega)
/-- A pointer to a block is itself. -/
theorem q_ptrself {t u e : TypeId} {ti : TypeInfo} {x y : Operand} {b o : Nat} (hu : P.underlying t = some (.pointer e)) (hi : P.info? e = some ti) (hx : ev T x = .pointer (some ⟨b, o, none⟩)) (hl : H[b]? ≠ some .dead) (hy : ev T y = .pointer (some ⟨b, o, none⟩)) :
    OpQ P ⟨dst, .binOp .neq t x y u, ty, pos, af, g⟩ T H (.bool false) [] :=
  q_val (by simp) fun ρ e' w hh h => by
    have h1 := h x (by simp [Op.operands])
    have h2 := h y (by simp [Op.operands])
    rw [hx] at h1
    rw [hy] at h2
    obtain ⟨l, hl1, e1⟩ := vrel_ptr hh h1 hl
    obtain ⟨l2, hl2, e2⟩ := vrel_ptr hh h2 hl
    rw [hl1] at hl2; cases hl2
    refine ⟨.bool false, ?_, .bool _⟩
    have hrun := Lib.run_neq_ptr_same (P := P) w ⟨l.blk, l.base + o, none⟩ hu hi
    refine run_v ?_
    show (do eqGuard .neq t x y (e' x) (e' y); binOp .neq t (e' x) (e' y) : Sem Value).run P w = _
    rw [e1, e2, Sem.run_bind]
    have hg : (eqGuard .neq t x y (.pointer (some ⟨l.blk, l.base + o, none⟩)) (.pointer (some ⟨l.blk, l.base + o, none⟩))).run P w = .ok () w := rfl
    rw [hg, Result.andThen_ok]
    exact hrun
end
section
variable {F : Fence} {n : Nat} {P : Program} {N0 : AHeap} {s : ASt} {dst : Option Tmp} {ty : TypeId} {pos : String} {af : Array Edge} {g : Option (Nat × Bool)}
theorem hrel_same {ρ : Ren} {H : AHeap} {w w' : World} (hh : HRel ρ H w) (hsz : w.heap.size ≤ w'.heap.size) (hs : ∀ c m, ρ c = .at m → w'.heap[m.blk]? = w.heap[m.blk]?) : HRel ρ H w' :=
  ⟨hh.bound, fun b l hb => by
    obtain ⟨o, h1, h2, h3⟩ := hh.rel b l hb
    exact ⟨o, h1, by omega, h3.mono (fun _ _ => .inl rfl) (hs b l hb)⟩, hh.inj, hh.glob, hh.isdead⟩
theorem heap_freeze (w : World) (a : Addr) (m k : Nat) (hk : k ≠ a.block) : (w.freeze a m).heap[k]? = w.heap[k]? ∧ (w.freeze a m).heap.size = w.heap.size ∧ (w.freeze a m).os = w.os ∧ (w.freeze a m).tape = w.tape ∧ (w.freeze a m).output = w.output := by
  unfold World.freeze
  split
  · exact ⟨rfl, rfl, rfl, rfl, rfl⟩
  · exact ⟨by rw [Array.getElem?_modify, if_neg (Ne.symm hk)], by simp, rfl, rfl, rfl⟩
/-- unsafe.String: the bytes of a row; nothing more is known of it. -/
theorem o_unsafeString {K : ASt → Prop} (hF : Wd F) {x y : Operand} {pt it e : TypeId} {b : Nat} {l : List UInt8} (hp : P.underlying pt = some (.pointer e)) (hc : P.cellsOf e = 1) (hx : ev s.T x = .pointer (some ⟨b, 0, none⟩)) (hy : ev s.T y = .int .i64 (l.length : Nat)) (h0 : l ≠ []) (hmax : l.length ≤ 9223372036854775807) (hH : s.H[b]? = some (.typed e (l.map bytv) 1))
    (hcx : cOk s.H x) (hcy : cOk s.H y) (hd : dOk s.nt dst) (hk : K (ASt.put { s with H := s.H.set b .dead } dst (.string ⟨l.toArray⟩))) :
    OpOk F n P N0 ⟨dst, .call { callee := .builtin .unsafeString, args := #[x, y], argTypes := #[pt, it] }, ty, pos, af, g⟩ K s := by
  intro ρ a w hs'
  have hh := hs'.heap
  have h1 := ev_rel hh hs'.tmps hcx
  have h2 := ev_rel hh hs'.tmps hcy
  rw [hx] at h1
  rw [hy] at h2
  have e2 := h2.scalar_eq rfl
  obtain ⟨lc, hl, e1⟩ := vrel_ptr hh h1 (by rw [hH]; simp)
  obtain ⟨q1, cs, fr, q2, q3, q4, _, _, _, q5⟩ := typed_at hh hl hH
  have hb : b < s.H.length := (List.getElem?_eq_some_iff.1 hH).1
  have hwr : wr s.H b := ⟨_, hH, rfl⟩
  rw [List.length_map] at q3
  have hrun := Lib.run_unsafeString_row (P := P) w pt it ty e hp hc lc.blk cs.size q5 l h0 q3 hmax (fun j v hj => by
    have hjl := (List.getElem?_eq_some_iff.1 hj).1
    have h3 := q4 j (by rw [List.length_map]; exact hjl)
    have h4 : (l.map bytv).getD j undef = .int .u8 v.toNat := by rw [List.getD_eq_getElem?_getD, List.getElem?_map, hj]; rfl
    rw [h4] at h3
    have h5 := h3.scalar_eq rfl
    rw [Nat.zero_add] at h5
    have : (⟨lc.blk, 0, none⟩ : Addr).add j = ⟨lc.blk, j, none⟩ := by unfold Addr.add; simp; intro h; omega
    rw [this, cell_at q2 (by omega), h5])
  refine ⟨fun f _ => hF.fn f, ?_⟩
  rw [Oper.semAt_eq _ _ _ (by simp)]
  have hr : (execOp a.eval ⟨dst, .call { callee := .builtin .unsafeString, args := #[x, y], argTypes := #[pt, it] }, ty, pos, af, g⟩).run P w = .ok (.value (.string ⟨l.toArray⟩)) (w.freeze ⟨lc.blk, 0, none⟩ l.length) := by
    refine run_builtin (us := #[a.eval x, a.eval y]) (by simp) (run_v ?_)
    show (Builtin.unsafeString_ #[pt, it] ty #[a.eval x, a.eval y]).run P w = _
    rw [e1, e2, q1]
    exact hrun
  rw [hr]
  have hkill := kill_rel hh hl (fun vs' sz' h => by rw [hH] at h; cases h)
  have kb : ∀ c m', kill ρ b c = .at m' → c ≠ b ∧ ρ c = .at m' := fun c m' h => by
    unfold kill at h
    by_cases e : c = b
    · rw [if_pos e] at h; cases h
    · rw [if_neg e] at h; exact ⟨e, h⟩
  have hfr := fun k hk => heap_freeze w ⟨lc.blk, 0, none⟩ l.length k hk
  have hany := hfr (lc.blk + 1) (by show lc.blk + 1 ≠ lc.blk; omega)
  have r4 := hrel_same hkill (w' := w.freeze ⟨lc.blk, 0, none⟩ l.length) (by rw [hany.2.1]; exact Nat.le_refl _) (fun c m h => by
    obtain ⟨h5, h6⟩ := kb c m h
    exact (hfr m.blk (hh.inj b c lc m (Ne.symm h5) hl h6 hwr).symm).1)
  have hold : ∀ c, c < s.H.length → kill ρ b c = ρ c ∨ (kill ρ b c = .dead ∧ ρ c ≠ .none) := fun c hc => by
    unfold kill
    by_cases e : c = b
    · rw [if_pos e]; exact .inr ⟨rfl, by rw [e, hl]; simp⟩
    · rw [if_neg e]; exact .inl rfl
  refine ⟨_, kill ρ b, hk, ?_, ?_⟩
  · refine SRel.put (s := { s with H := s.H.set b .dead }) ⟨r4, hs'.tmps.mono (kill_mono ρ b), ?_, by simpa using hs'.len, hs'.entry.of fun c hc => hold c (by have := hs'.len; omega)⟩ hd (.string _)
    refine DRel.dead (fun d m' h3 h4 => ?_) _ _ hs'.defers
    have hne : d ≠ b := fun e => by rw [e, hH] at h4; cases h4
    exact ⟨by unfold kill; rw [if_neg hne]; exact h3, by rw [List.getElem?_set, if_neg (Ne.symm hne)]; exact h4⟩
  · rw [ASt.put_H]
    refine ⟨hany.2.2.1, hany.2.2.2.1, hany.2.2.2.2, by rw [hany.2.1]; exact Nat.le_refl _, fun k hk' ho => (hfr k (fun e => ho ⟨b, lc, hl, e.symm, hwr⟩)).1, fun c hc => ?_, fun c m' hc hw => ?_⟩
    · unfold kill
      by_cases e : c = b
      · rw [if_pos e]; exact .inr ⟨rfl, lc, by rw [e, hl]⟩
      · rw [if_neg e]; exact .inl rfl
    · obtain ⟨h5, h6⟩ := kb c m' hc
      obtain ⟨o3, h7, h8⟩ := hw
      rw [List.getElem?_set, if_neg (Ne.symm h5)] at h7
      exact .inl ⟨c, m', h6, rfl, o3, h7, h8⟩
end
section
variable {Fc : Fence} {n : Nat} {P : Program} {N0 : AHeap} {ops : Array Oper} {o : Oper} {rest : List Oper} {K : ASt → Prop} {nt : Nat} {T : Nat → Value} {D : List Nat} {d : Tmp} {v : Value} {tab : List Nat} {i : Nat} {op : Op} {ty : TypeId} {pos : String} {af : Array Edge} {g : Option (Nat × Bool)}
variable {H0 : AHeap} {X : Nat → Prop} {Z : Rs} {H : AHeap} {F F' : List (Nat × AObj)}
theorem lrel_of_scalars {ρ : Ren} {l : List Value} (h : ∀ v ∈ l, Scalar v = true) : LRel ρ l l := ⟨rfl, fun i hi => by
  rw [List.getD_eq_getElem?_getD, List.getElem?_eq_getElem hi]
  exact .scalar (h _ (List.getElem_mem hi)) ρ⟩
theorem x_store1T (fl : List Nat) (hF : Wd Fc) (hS : St H0 X Z H F) (hfl : floatOk ops tab i fl = true) (hg : GYes ops ⟨none, op, ty, pos, af, g⟩ T) {t tt : TypeId} {x y : Operand} {j b oo : Nat} {vs : List Value} {sz : Nat} {v : Value} (hop : op = .store t x y) (hs : ∀ w, (sizeOf t).run P w = .ok 1 w) (hx : ev T x = .pointer (some ⟨b, oo, none⟩)) (hy : ev T y = v) (hj : F[j]? = some (b, .typed tt vs sz))
    (hc : Lc H v) (ho : oo < vs.length) (hcx : cOk H x) (hcy : cOk H y) (hfx : offF ops fl x = true) (hfy : offF ops fl y = true) (hF' : F.set j (b, .typed tt (vs.set oo v) sz) = F') (hk : ∀ H', St H0 X Z H' F' → PendL P ops ⟨nt, T, D, H'⟩ fl ∧ dList Fc n P N0 ops tab (i + 1) rest K ⟨nt, T, D, H'⟩) :
    dList Fc n P N0 ops tab i (⟨none, op, ty, pos, af, g⟩ :: rest) K ⟨nt, T, D, H⟩ := by
  subst hF' hop
  have h1 := hk _ (hS.setAt hj _)
  refine df (v := undef) (H' := H.set b (.typed tt (vs.set oo v) sz)) fl hfl hg (fun T' hT K' hk' => ?_) h1.1 h1.2
  exact o_store1T hF hs ((offF_ev hfx hT).trans hx) ((offF_ev hfy hT).trans hy) (hS.getj hj) hc ho hcx hcy hk'
/-- append of a text to a row of bytes. -/
theorem x_appendT (fl : List Nat) (hF : Wd Fc) (hS : St H0 X Z H F) (hfl : floatOk ops tab i fl = true) {x y : Operand} {sT yT el : TypeId} {ti : TypeInfo} {z : Value} {j b nn c : Nat} {l : List UInt8} {t : ByteArray} (n' : Nat) (hn' : nn + t.size = n') (hg : GYes ops ⟨some d, .call { callee := .builtin .append, args := #[x, y], argTypes := #[sT, yT] }, ty, pos, af, g⟩ T) (hu : P.underlying sT = some (.slice el)) (hyT : P.underlying yT = some .string) (hi : P.info? el = some ti) (hiz : ti.zero = some z) (hsz : ti.size = 1) (hpos : 0 < ti.bytes) (hzs : z.cells.size = 1)
    (hx : ev T x = .slice (some ⟨b, 0, none⟩) nn c) (hyv : ev T y = .string t) (hj : F[j]? = some (b, .typed el (l.map bytv) 1)) (htail : nn = l.length) (hbig : (2 * n' + 1000) * ti.bytes ≤ 281474976710656) (hcx : cOk H x) (hcy : cOk H y) (hd : d < nt) (hfx : offF ops fl x = true) (hfy : offF ops fl y = true)
    (hk : ∀ b' H', H.length ≤ b' → St H0 X Z H' (F.set j (b', .typed el ((l ++ t.data.toList).map bytv) 1)) → PendL P ops ⟨nt, upd T d (.slice (some ⟨b', 0, none⟩) n' n'), D, H'⟩ fl ∧ dList Fc n P N0 ops tab (i + 1) rest K ⟨nt, upd T d (.slice (some ⟨b', 0, none⟩) n' n'), D, H'⟩) :
    dList Fc n P N0 ops tab i (⟨some d, .call { callee := .builtin .append, args := #[x, y], argTypes := #[sT, yT] }, ty, pos, af, g⟩ :: rest) K ⟨nt, T, D, H⟩ := by
  subst hn'
  have hvs : (l.map bytv).drop 0 ++ byteCells t = (l ++ t.data.toList).map bytv := by rw [List.drop_zero, List.map_append]; rfl
  have h1 := hk _ _ (Nat.le_refl _) (hS.grow hj (.typed el ((l ++ t.data.toList).map bytv) 1))
  refine df fl (v := .slice (some ⟨H.length, 0, none⟩) (nn + t.size) (nn + t.size)) (H' := (H.set b AObj.dead ++ [AObj.typed el ((l ++ t.data.toList).map bytv) 1] : AHeap)) hfl hg (fun T' hT K' hk' => ?_) h1.1 h1.2
  exact o_appendT (s := ⟨nt, T', D, H⟩) hF hu hi hiz hsz hpos hzs ((offF_ev hfx hT).trans hx) (fun ρ w v' hh hv => by
    have e : ev (⟨nt, T', D, H⟩ : ASt).T y = .string t := (offF_ev hfy hT).trans hyv
    rw [e] at hv
    have e3 := hv.scalar_eq rfl
    rw [e3]
    exact ⟨byteCells t, Src.ofString w hyT t, lrel_of_scalars (fun u hu => by obtain ⟨_, _, rfl⟩ := List.mem_map.1 hu; rfl)⟩) (hS.getj hj) rfl rfl (by rw [List.length_map]; omega) (by rw [byteCells_length]; omega) hbig hcx hcy hd (by rw [hvs]; exact hk')
theorem x_unsafeString (fl : List Nat) (hF : Wd Fc) (hS : St H0 X Z H F) (hfl : floatOk ops tab i fl = true) {x y : Operand} {pt it e : TypeId} {j b : Nat} {l : List UInt8} (hg : GYes ops ⟨some d, .call { callee := .builtin .unsafeString, args := #[x, y], argTypes := #[pt, it] }, ty, pos, af, g⟩ T) (hp : P.underlying pt = some (.pointer e)) (hc : P.cellsOf e = 1) (hx : ev T x = .pointer (some ⟨b, 0, none⟩)) (hy : ev T y = .int .i64 (l.length : Nat)) (h0 : l ≠ []) (hmax : l.length ≤ 9223372036854775807) (hj : F[j]? = some (b, .typed e (l.map bytv) 1))
    (hcx : cOk H x) (hcy : cOk H y) (hd : d < nt) (hfx : offF ops fl x = true) (hfy : offF ops fl y = true) (hk : ∀ H', St H0 X Z H' (F.set j (b, .dead)) → PendL P ops ⟨nt, upd T d (.string ⟨l.toArray⟩), D, H'⟩ fl ∧ dList Fc n P N0 ops tab (i + 1) rest K ⟨nt, upd T d (.string ⟨l.toArray⟩), D, H'⟩) :
    dList Fc n P N0 ops tab i (⟨some d, .call { callee := .builtin .unsafeString, args := #[x, y], argTypes := #[pt, it] }, ty, pos, af, g⟩ :: rest) K ⟨nt, T, D, H⟩ := by
  have h1 := hk _ (hS.setAt hj .dead)
  refine df fl (v := .string ⟨l.toArray⟩) (H' := H.set b AObj.dead) hfl hg (fun T' hT K' hk' => ?_) h1.1 h1.2
  exact o_unsafeString (s := ⟨nt, T', D, H⟩) hF hp hc ((offF_ev hfx hT).trans hx) ((offF_ev hfy hT).trans hy) h0 hmax (hS.getj hj) hcx hcy hd hk'
end
end Go.Proofs.YtponfeigjmjbmaaA


/-
  Walks of functions of the given program, and what they compute.
-/
namespace Go.Proofs.YtponfeigjmjbmaaA
set_option linter.unusedVariables false
open Go Go.RowKit Go.Shelf Go.Proofs
theorem St.turn2 {H0 : AHeap} {X : Nat → Prop} {Z : Rs} {H H' : AHeap} {F : List (Nat × AObj)} (h : St H0 X Z H F) {j9 jl b9 bl bn : Nat} {o9 ol o9' on : AObj} (h9 : F[j9]? = some (b9, o9)) (hl : F[jl]? = some (bl, ol)) (hij : j9 ≠ jl) (k : Kp (· ∈ [b9, bl]) H H') (hb : H.length ≤ bn ∨ bn ∈ [b9, bl]) (hne : bn ≠ b9) (h9' : H'[b9]? = some o9') (hn : H'[bn]? = some on) : St H0 X Z H' ((F.set j9 (b9, o9')).set jl (bn, on)) := by
  have m9 : b9 ∈ F.map (·.1) := List.mem_map.2 ⟨_, List.mem_of_getElem? h9, rfl⟩
  have ml : bl ∈ F.map (·.1) := List.mem_map.2 ⟨_, List.mem_of_getElem? hl, rfl⟩
  have hjl := (List.getElem?_eq_some_iff.1 hl).1
  refine h.turn k _ ?_ (fun p hp => ?_) (fun b hb => ?_)
  · have e1 : ((F.set j9 (b9, o9')).set jl (bn, on)).map (·.1) = (F.map (·.1)).set jl bn := by rw [List.map_set, keys_set h9]
    rw [e1]
    refine nodup_of_inj fun i j x hi hj => ?_
    rw [List.getElem?_set] at hi hj
    have nb : ∀ q, q ≠ jl → (F.map (·.1))[q]? ≠ some bn := fun q hq e => by
      rw [List.getElem?_map] at e
      obtain ⟨y, hy, hy2⟩ := Option.map_eq_some_iff.1 e
      rcases hb with hb | hb
      · have := lt_of_some (h.getj (b := y.1) (o := y.2) hy)
        omega
      · rcases List.mem_cons.1 hb with hb | hb
        · exact hne hb
        · have hb : bn = bl := by simpa using hb
          exact h.ne hy hl hq (hy2.trans hb)
    by_cases ei : jl = i
    · by_cases ej : jl = j
      · omega
      · rw [if_pos ei, if_pos (by simpa using hjl)] at hi
        rw [if_neg ej] at hj
        cases hi
        exact absurd hj (nb j (Ne.symm ej))
    · rw [if_neg ei] at hi
      by_cases ej : jl = j
      · rw [if_pos ej, if_pos (by simpa using hjl)] at hj
        cases hj
        exact absurd hi (nb i (Ne.symm ei))
      · rw [if_neg ej] at hj
        exact nodup_inj h.nd hi hj
  · rcases mem_set_cases hp with rfl | ⟨i, hi, hp⟩
    · refine .inr ⟨hn, hb.imp id fun hb => ?_⟩
      rcases List.mem_cons.1 hb with hb | hb
      · exact absurd hb hne
      · have hb : bn = bl := by simpa using hb
        show bn ∈ _
        rw [hb]; exact ml
    · rw [List.getElem?_set] at hp
      by_cases e : j9 = i
      · rw [if_pos e, if_pos (List.getElem?_eq_some_iff.1 h9).1] at hp
        cases hp
        exact .inr ⟨h9', .inr m9⟩
      · rw [if_neg e] at hp
        refine .inl ⟨List.mem_of_getElem? hp, fun hm => ?_⟩
        rcases List.mem_cons.1 hm with hm | hm
        · exact h.ne hp h9 (Ne.symm e) hm
        · have hm : p.1 = bl := by simpa using hm
          exact h.ne hp hl hi hm
  · rcases List.mem_cons.1 hb with rfl | hb
    · exact m9
    · have hb : b = bl := by simpa using hb
      rw [hb]; exact ml
theorem x_newB {Fc : Fence} {n : Nat} {P : Program} {N0 : AHeap} {ops : Array Oper} {rest : List Oper} {K : ASt → Prop} {nt : Nat} {T : Nat → Value} {D : List Nat} {d : Tmp} {tab : List Nat} {i : Nat} {H0 : AHeap} {X : Nat → Prop} {Z : Rs} {H : AHeap} {F : List (Nat × AObj)} {ty : TypeId} {pos : String} {af : Array Edge} {g : Option (Nat × Bool)} {t te : TypeId} {z : Value} (hS : St H0 X Z H F) (hg : GYes ops ⟨some d, .alloc t, ty, pos, af, g⟩ T) (hz : ∀ w, (zeroValue t).run P w = .ok z w) (hvs : z.cells = #[.pointer none, .slice none 0 0]) (hn : d < nt) (hc : ∀ x ∈ (Op.alloc t).operands, cOk H x)
    (hk : ∀ b c H', H.length ≤ b → H.length ≤ c → St H0 X Z H' ((b, .typed te [] 1) :: (c, .typed t [.pointer none, .slice (some ⟨b, 0, none⟩) 0 0] 2) :: F) → dList Fc n P N0 ops tab (i + 1) rest K ⟨nt, upd T d (.pointer (some ⟨c, 0, none⟩)), D, H'⟩) : dList Fc n P N0 ops tab i (⟨some d, .alloc t, ty, pos, af, g⟩ :: rest) K ⟨nt, T, D, H⟩ := by
  refine dn hg (q_allocB (te := te) hz hvs) rfl hn hc rfl (hk _ _ _ (Nat.le_refl _) (Nat.le_succ _) ?_)
  have h := (hS.push (.typed te [] 1)).push (.typed t [.pointer none, .slice (some ⟨H.length, 0, none⟩) 0 0] 2)
  rw [List.append_assoc, List.length_append] at h
  exact h.perm (.swap _ _ _)
set_option maxRecDepth 100000 in
set_option maxHeartbeats 4000000 in
theorem copyCheck_n {H0 : AHeap} (bb r n : Nat) (h1 : H0[bb]? = some (.typed 75 [.pointer none, .slice (some ⟨r, 0, none⟩) n n] 2)) : ACalls Try.prog 48 [.pointer (some ⟨bb, 0, none⟩)] H0 (fun v H' => v = .tuple #[] ∧ Kp (· ∈ [bb]) H0 H' ∧ H'[bb]? = some (.typed 75 [.pointer (some ⟨bb, 0, none⟩), .slice (some ⟨r, 0, none⟩) n n] 2)) := by
  have hF : Wd Fence.wide := .inl rfl
  have hM : Try.prog.follows .mixedOrders = true := by kernel_rfl
  have s0 : St H0 (· ∈ [bb]) (Off H0 [bb]) H0 [(bb, .typed 75 [.pointer none, .slice (some ⟨r, 0, none⟩) n n] 2)] := St.beginL [(bb, .typed 75 [.pointer none, .slice (some ⟨r, 0, none⟩) n n] 2)] (by simp) (allAt_mem ⟨h1, trivial⟩)
  refine acalls_st Try.func48 rfl Try.ntmps48 rfl ?_
  refine awp_seq ?_
  refine awp_regs hF ?_
  refine dv (gyes_none rfl) (q_mv (v := .pointer (some ⟨bb, 0, none⟩)) rfl) rfl (by decide) (cok1 trivial) ?_
  refine dv (gyes_none rfl) (q_nilCheck rfl (by rw [s0.getj (j := 0) rfl]; simp)) rfl (by decide) (cok1 trivial) ?_
  refine dv (gyes_none rfl) (q_field Try.underlying75 rfl Try.sizeOf72 rfl (s0.rdT (j := 0) rfl)) rfl (by decide) (cok1 trivial) ?_
  refine dv (gyes_none rfl) (q_load (v := .pointer none) Try.isAgg72 rfl (s0.rdT (j := 0) rfl) rfl) rfl (by decide) (cok1 trivial) ?_
  refine dv (gyes_none rfl) (q_ptrnil_t Try.underlying72 rfl rfl) rfl (by decide) (cok2 trivial (cconst rfl)) ?_
  refine ⟨_, Wk.refl _ _, ?_⟩
  show awp _ _ _ _ _ _ _
  refine awp_cond_t rfl ?_
  refine awp_regs hF ?_
  refine dv (gyes_none rfl) (q_mv (v := .pointer (some ⟨bb, 0, none⟩)) rfl) rfl (by decide) (cok1 trivial) ?_
  refine dv (gyes_none rfl) (q_mv (v := .pointer (some ⟨bb, 0, none⟩)) rfl) rfl (by decide) (cok1 trivial) ?_
  refine dv (gyes_none rfl) (q_toUnsafe (H := H0) Try.underlying72 Try.underlying102 Try.type75 (by decide) rfl (s0.getj (j := 0) rfl) (Nat.zero_lt_succ _)) rfl (by decide) (cok1 trivial) ?_
  refine dv (gyes_none rfl) (q_noEscape Try.func55 (by kernel_rfl) (by kernel_rfl) (by kernel_rfl) (by kernel_rfl) rfl) rfl (by decide) (cok2 trivial trivial) ?_
  refine dv (gyes_none rfl) (q_fromUnsafe (H := H0) Try.underlying102 Try.underlying72 Try.type75  rfl (s0.getj (j := 0) rfl) (by decide) (by kernel_rfl)) rfl (by decide) (cok1 trivial) ?_
  refine dv (gyes_none rfl) (q_nilCheck rfl (by rw [s0.getj (j := 0) rfl]; simp)) rfl (by decide) (cok1 trivial) ?_
  refine dv (gyes_none rfl) (q_field Try.underlying75 rfl Try.sizeOf72 rfl (s0.rdT (j := 0) rfl)) rfl (by decide) (cok1 trivial) ?_
  refine x_store1T [] hF s0 (by kernel_rfl) (gyes_none rfl) (j := 0) (v := .pointer (some ⟨bb, 0, none⟩)) rfl Try.sizeOf72 rfl rfl rfl (lc_ptr (by rw [s0.getj (j := 0) rfl]; simp)) (Nat.le_of_ble_eq_true rfl) trivial trivial rfl rfl (F' := [(bb, .typed 75 [.pointer (some ⟨bb, 0, none⟩), .slice (some ⟨r, 0, none⟩) n n] 2)]) rfl (fun H1 s2 => ⟨?_, ?_⟩)
  · exact trivial
  refine ⟨_, Wk.refl _ _, ?_⟩
  repeat (with_reducible first | refine then_ret ?_ | refine blk_ret ?_ | refine then_exit ?_ | refine blk_exit ?_ | refine blk_exit' (by decide) ?_ | refine blk_normal ?_ | refine then_normal ?_ | refine retq_ret ?_ | refine retq_normal ?_ | refine ng_normal ?_ | refine ng_ret ?_ | refine ng_exit ?_)
  refine ret_is (v := .tuple #[]) rfl .nil rfl ?_
  exact ⟨rfl, s2.kp, s2.getj (j := 0) rfl⟩
set_option maxRecDepth 100000 in
set_option maxHeartbeats 4000000 in
theorem copyCheck_u {H0 : AHeap} (bb r n : Nat) (hb : Rd H0 bb [.pointer (some ⟨bb, 0, none⟩), .slice (some ⟨r, 0, none⟩) n n] 2) : ACalls Try.prog 48 [.pointer (some ⟨bb, 0, none⟩)] H0 (Rets (.tuple #[]) H0) := by
  have hF : Wd Fence.wide := .inl rfl
  have hM : Try.prog.follows .mixedOrders = true := by kernel_rfl
  have s0 := St.begin H0
  refine acalls_st Try.func48 rfl Try.ntmps48 rfl ?_
  refine awp_seq ?_
  refine awp_regs hF ?_
  refine dv (gyes_none rfl) (q_mv (v := .pointer (some ⟨bb, 0, none⟩)) rfl) rfl (by decide) (cok1 trivial) ?_
  refine dv (gyes_none rfl) (q_nilCheck rfl (Rd.live (s0.zrd hb))) rfl (by decide) (cok1 trivial) ?_
  refine dv (gyes_none rfl) (q_field Try.underlying75 rfl Try.sizeOf72 rfl (s0.zrd hb)) rfl (by decide) (cok1 trivial) ?_
  refine dv (gyes_none rfl) (q_load (v := .pointer (some ⟨bb, 0, none⟩)) Try.isAgg72 rfl (s0.zrd hb) rfl) rfl (by decide) (cok1 trivial) ?_
  refine dv (gyes_none rfl) (q_ptrnil_f Try.underlying72 rfl (Rd.live (s0.zrd hb)) rfl) rfl (by decide) (cok2 trivial (cconst rfl)) ?_
  refine ⟨_, Wk.refl _ _, ?_⟩
  show awp _ _ _ _ _ _ _
  refine awp_cond_f rfl ?_
  refine awp_seq ?_
  refine awp_regs hF ?_
  refine dv (gyes_none rfl) (q_mv (v := .pointer (some ⟨bb, 0, none⟩)) rfl) rfl (by decide) (cok1 trivial) ?_
  refine dv (gyes_none rfl) (q_nilCheck rfl (Rd.live (s0.zrd hb))) rfl (by decide) (cok1 trivial) ?_
  refine dv (gyes_none rfl) (q_field Try.underlying75 rfl Try.sizeOf72 rfl (s0.zrd hb)) rfl (by decide) (cok1 trivial) ?_
  refine dv (gyes_none rfl) (q_load (v := .pointer (some ⟨bb, 0, none⟩)) Try.isAgg72 rfl (s0.zrd hb) rfl) rfl (by decide) (cok1 trivial) ?_
  refine dv (gyes_none rfl) (q_mv (v := .pointer (some ⟨bb, 0, none⟩)) rfl) rfl (by decide) (cok1 trivial) ?_
  refine dv (gyes_none rfl) (q_ptrself Try.underlying72 Try.type75 rfl (Rd.live (s0.zrd hb)) rfl) rfl (by decide) (cok2 trivial trivial) ?_
  refine ⟨_, Wk.refl _ _, ?_⟩
  show awp _ _ _ _ _ _ _
  refine awp_cond_f rfl ?_
  refine awp_skip_wk ?_
  refine ⟨_, Wk.refl _ _, ?_⟩
  repeat (with_reducible first | refine then_ret ?_ | refine blk_ret ?_ | refine then_exit ?_ | refine blk_exit ?_ | refine blk_exit' (by decide) ?_ | refine blk_normal ?_ | refine then_normal ?_ | refine retq_ret ?_ | refine retq_normal ?_ | refine ng_normal ?_ | refine ng_ret ?_ | refine ng_exit ?_)
  exact ret_none (v := .tuple #[]) rfl s0.kp .nil rfl rfl ⟨rfl, rfl⟩
set_option maxRecDepth 100000 in
set_option maxHeartbeats 4000000 in
theorem wstr_n {H0 : AHeap} (bb r n : Nat) (l : List UInt8) (hn : l.length = n) (hnd : [bb, r].Nodup) (h1 : H0[bb]? = some (.typed 75 [.pointer none, .slice (some ⟨r, 0, none⟩) n n] 2)) (h2 : H0[r]? = some (.typed 5 (l.map bytv) 1)) (t : ByteArray) (hsz : n + t.size ≤ 100000000) : ACalls Try.prog 35 [.pointer (some ⟨bb, 0, none⟩), .string t] H0 (fun v H' => ∃ rn, v = .tuple #[.int .i64 ((t.size : Nat) : Int), .nilIface] ∧ Kp (· ∈ [bb, r]) H0 H' ∧ (H0.length ≤ rn ∨ rn ∈ [bb, r]) ∧ rn ≠ bb ∧ H'[bb]? = some (.typed 75 [.pointer (some ⟨bb, 0, none⟩), .slice (some ⟨rn, 0, none⟩) (n + t.size) (n + t.size)] 2) ∧ H'[rn]? = some (.typed 5 ((l ++ t.data.toList).map bytv) 1)) := by
  have hF : Wd Fence.wide := .inl rfl
  have hM : Try.prog.follows .mixedOrders = true := by kernel_rfl
  have s0 : St H0 (· ∈ [bb, r]) (Off H0 [bb, r]) H0 [(bb, .typed 75 [.pointer none, .slice (some ⟨r, 0, none⟩) n n] 2), (r, .typed 5 (l.map bytv) 1)] := St.beginL [(bb, .typed 75 [.pointer none, .slice (some ⟨r, 0, none⟩) n n] 2), (r, .typed 5 (l.map bytv) 1)] hnd (allAt_mem ⟨h1, h2, trivial⟩)
  refine acalls_st Try.func35 rfl Try.ntmps35 rfl ?_
  refine awp_seq ?_
  refine awp_regs hF ?_
  refine dv (gyes_none rfl) (q_as (v := .int .i64 0) rfl) rfl (by decide) (cok1 (cconst rfl)) ?_
  refine dv (gyes_none rfl) (q_as (v := .nilIface) rfl) rfl (by decide) (cok1 (cconst rfl)) ?_
  refine ⟨_, Wk.refl _ _, ?_⟩
  show awp _ _ _ _ _ _ _
  refine awp_seq ?_
  refine awp_regs hF ?_
  refine dv (gyes_none rfl) (q_mv (v := .pointer (some ⟨bb, 0, none⟩)) rfl) rfl (by decide) (cok1 trivial) ?_
  refine x_call [] hF (by kernel_rfl) (gyes_none rfl) Try.call48 rfl (args := [.pointer (some ⟨bb, 0, none⟩)]) rfl (copyCheck_n bb r n (s0.getj (j := 0) rfl)) (show _ < _ by decide) (call_ok rfl) rfl rfl (fun _ _ _ _ hd => by cases hd) ?_
  rintro _ H1 ⟨rfl, hk2, h3⟩
  have s4 := s0.turn1 (j := 0) rfl hk2 h3
  refine ⟨trivial, ?_⟩
  show dList _ _ _ _ _ _ _ _ _ _
  refine ⟨_, Wk.refl _ _, ?_⟩
  show awp _ _ _ _ _ _ _
  refine awp_seq ?_
  refine awp_regs hF ?_
  refine dv (gyes_none rfl) (q_mv (v := .pointer (some ⟨bb, 0, none⟩)) rfl) rfl (by decide) (cok1 trivial) ?_
  refine dv (gyes_none rfl) (q_mv (v := .pointer (some ⟨bb, 0, none⟩)) rfl) rfl (by decide) (cok1 trivial) ?_
  refine dv (gyes_none rfl) (q_nilCheck rfl (by rw [s4.getj (j := 0) rfl]; simp)) rfl (by decide) (cok1 trivial) ?_
  refine dv (gyes_none rfl) (q_field Try.underlying75 rfl Try.sizeOf73 rfl (s4.rdT (j := 0) rfl)) rfl (by decide) (cok1 trivial) ?_
  refine dv (gyes_none rfl) (q_load (v := .slice (some ⟨r, 0, none⟩) n n) Try.isAgg73 rfl (s4.rdT (j := 0) rfl) rfl) rfl (by decide) (cok1 trivial) ?_
  refine dv (gyes_none rfl) (q_mv (v := .string t) rfl) rfl (by decide) (cok1 trivial) ?_
  refine x_appendT [] hF s4 (by kernel_rfl) (j := 1) (n + t.size) rfl (gyes_none rfl) Try.underlying73 Try.underlying9 Try.type5 rfl rfl (by decide) rfl rfl rfl rfl hn.symm (by show (2 * _ + 1000) * 1 ≤ _; omega) trivial trivial (by decide) rfl rfl (fun b5 H6 hb8 s7 => ⟨?_, ?_⟩)
  · exact trivial
  refine dv (gyes_none rfl) (q_nilCheck rfl (by rw [s7.getj (j := 0) rfl]; simp)) rfl (by decide) (cok1 trivial) ?_
  refine dv (gyes_none rfl) (q_field Try.underlying75 rfl Try.sizeOf73 rfl (s7.rdT (j := 0) rfl)) rfl (by decide) (cok1 trivial) ?_
  refine x_store1T [] hF s7 (by kernel_rfl) (gyes_none rfl) (j := 0) (v := .slice (some ⟨b5, 0, none⟩) (n + t.size) (n + t.size)) rfl Try.sizeOf73 rfl rfl rfl (lc_slice (by rw [s7.getj (j := 1) rfl]; simp)) (Nat.le_of_ble_eq_true rfl) trivial trivial rfl rfl (F' := [(bb, .typed 75 [.pointer (some ⟨bb, 0, none⟩), .slice (some ⟨b5, 0, none⟩) (n + t.size) (n + t.size)] 2), (b5, .typed 5 ((l ++ t.data.toList).map bytv) 1)]) rfl (fun H9 s10 => ⟨?_, ?_⟩)
  · exact trivial
  refine ⟨_, Wk.refl _ _, ?_⟩
  show awp _ _ _ _ _ _ _
  refine awp_seq ?_
  refine awp_regs hF ?_
  refine dv (gyes_none rfl) (q_mv (v := .string t) rfl) rfl (by decide) (cok1 trivial) ?_
  refine dv (gyes_none rfl) (q_len_str Try.underlying9 rfl) rfl (by decide) (cok1 trivial) ?_
  refine dv (gyes_none rfl) (q_as (v := .int .i64 ((t.size : Nat) : Int)) rfl) rfl (by decide) (cok1 trivial) ?_
  refine dv (gyes_none rfl) (q_as (v := .nilIface) rfl) rfl (by decide) (cok1 (cconst rfl)) ?_
  refine ⟨_, Wk.refl _ _, ?_⟩
  show awp _ _ _ _ _ _ _
  refine awp_ret_wk ?_
  refine ⟨_, Wk.refl _ _, ?_⟩
  repeat (with_reducible first | refine then_ret ?_ | refine blk_ret ?_ | refine then_exit ?_ | refine blk_exit ?_ | refine blk_exit' (by decide) ?_ | refine blk_normal ?_ | refine then_normal ?_ | refine retq_ret ?_ | refine retq_normal ?_ | refine ng_normal ?_ | refine ng_ret ?_ | refine ng_exit ?_)
  refine ret_is (v := .tuple #[.int .i64 ((t.size : Nat) : Int), .nilIface]) rfl (.tmp rfl (.tmp rfl .nil)) rfl ?_
  exact ⟨_, rfl, s10.kp, s10.own _ (List.mem_of_getElem? (i := 1) rfl), s10.nej (i := 1) (j := 0) rfl rfl (by decide), s10.getj (j := 0) rfl, s10.getj (j := 1) rfl⟩
set_option maxRecDepth 100000 in
set_option maxHeartbeats 4000000 in
theorem wstr_u {H0 : AHeap} (bb r n : Nat) (l : List UInt8) (hn : l.length = n) (hnd : [bb, r].Nodup) (h1 : H0[bb]? = some (.typed 75 [.pointer (some ⟨bb, 0, none⟩), .slice (some ⟨r, 0, none⟩) n n] 2)) (h2 : H0[r]? = some (.typed 5 (l.map bytv) 1)) (t : ByteArray) (hsz : n + t.size ≤ 100000000) : ACalls Try.prog 35 [.pointer (some ⟨bb, 0, none⟩), .string t] H0 (fun v H' => ∃ rn, v = .tuple #[.int .i64 ((t.size : Nat) : Int), .nilIface] ∧ Kp (· ∈ [bb, r]) H0 H' ∧ (H0.length ≤ rn ∨ rn ∈ [bb, r]) ∧ rn ≠ bb ∧ H'[bb]? = some (.typed 75 [.pointer (some ⟨bb, 0, none⟩), .slice (some ⟨rn, 0, none⟩) (n + t.size) (n + t.size)] 2) ∧ H'[rn]? = some (.typed 5 ((l ++ t.data.toList).map bytv) 1)) := by
  have hF : Wd Fence.wide := .inl rfl
  have hM : Try.prog.follows .mixedOrders = true := by kernel_rfl
  have s0 : St H0 (· ∈ [bb, r]) (Off H0 [bb, r]) H0 [(bb, .typed 75 [.pointer (some ⟨bb, 0, none⟩), .slice (some ⟨r, 0, none⟩) n n] 2), (r, .typed 5 (l.map bytv) 1)] := St.beginL [(bb, .typed 75 [.pointer (some ⟨bb, 0, none⟩), .slice (some ⟨r, 0, none⟩) n n] 2), (r, .typed 5 (l.map bytv) 1)] hnd (allAt_mem ⟨h1, h2, trivial⟩)
  refine acalls_st Try.func35 rfl Try.ntmps35 rfl ?_
  refine awp_seq ?_
  refine awp_regs hF ?_
  refine dv (gyes_none rfl) (q_as (v := .int .i64 0) rfl) rfl (by decide) (cok1 (cconst rfl)) ?_
  refine dv (gyes_none rfl) (q_as (v := .nilIface) rfl) rfl (by decide) (cok1 (cconst rfl)) ?_
  refine ⟨_, Wk.refl _ _, ?_⟩
  show awp _ _ _ _ _ _ _
  refine awp_seq ?_
  refine awp_regs hF ?_
  refine dv (gyes_none rfl) (q_mv (v := .pointer (some ⟨bb, 0, none⟩)) rfl) rfl (by decide) (cok1 trivial) ?_
  refine dv (gyes_none rfl) (q_call0 Try.call48 rfl (copyCheck_u bb r n (s0.rdT (j := 0) rfl))) rfl (by decide) (cok2 trivial trivial) ?_
  refine ⟨_, Wk.refl _ _, ?_⟩
  show awp _ _ _ _ _ _ _
  refine awp_seq ?_
  refine awp_regs hF ?_
  refine dv (gyes_none rfl) (q_mv (v := .pointer (some ⟨bb, 0, none⟩)) rfl) rfl (by decide) (cok1 trivial) ?_
  refine dv (gyes_none rfl) (q_mv (v := .pointer (some ⟨bb, 0, none⟩)) rfl) rfl (by decide) (cok1 trivial) ?_
  refine dv (gyes_none rfl) (q_nilCheck rfl (by rw [s0.getj (j := 0) rfl]; simp)) rfl (by decide) (cok1 trivial) ?_
  refine dv (gyes_none rfl) (q_field Try.underlying75 rfl Try.sizeOf73 rfl (s0.rdT (j := 0) rfl)) rfl (by decide) (cok1 trivial) ?_
  refine dv (gyes_none rfl) (q_load (v := .slice (some ⟨r, 0, none⟩) n n) Try.isAgg73 rfl (s0.rdT (j := 0) rfl) rfl) rfl (by decide) (cok1 trivial) ?_
  refine dv (gyes_none rfl) (q_mv (v := .string t) rfl) rfl (by decide) (cok1 trivial) ?_
  refine x_appendT [] hF s0 (by kernel_rfl) (j := 1) (n + t.size) rfl (gyes_none rfl) Try.underlying73 Try.underlying9 Try.type5 rfl rfl (by decide) rfl rfl rfl rfl hn.symm (by show (2 * _ + 1000) * 1 ≤ _; omega) trivial trivial (by decide) rfl rfl (fun b1 H2 hb4 s3 => ⟨?_, ?_⟩)
  · exact trivial
  refine dv (gyes_none rfl) (q_nilCheck rfl (by rw [s3.getj (j := 0) rfl]; simp)) rfl (by decide) (cok1 trivial) ?_
  refine dv (gyes_none rfl) (q_field Try.underlying75 rfl Try.sizeOf73 rfl (s3.rdT (j := 0) rfl)) rfl (by decide) (cok1 trivial) ?_
  refine x_store1T [] hF s3 (by kernel_rfl) (gyes_none rfl) (j := 0) (v := .slice (some ⟨b1, 0, none⟩) (n + t.size) (n + t.size)) rfl Try.sizeOf73 rfl rfl rfl (lc_slice (by rw [s3.getj (j := 1) rfl]; simp)) (Nat.le_of_ble_eq_true rfl) trivial trivial rfl rfl (F' := [(bb, .typed 75 [.pointer (some ⟨bb, 0, none⟩), .slice (some ⟨b1, 0, none⟩) (n + t.size) (n + t.size)] 2), (b1, .typed 5 ((l ++ t.data.toList).map bytv) 1)]) rfl (fun H5 s6 => ⟨?_, ?_⟩)
  · exact trivial
  refine ⟨_, Wk.refl _ _, ?_⟩
  show awp _ _ _ _ _ _ _
  refine awp_seq ?_
  refine awp_regs hF ?_
  refine dv (gyes_none rfl) (q_mv (v := .string t) rfl) rfl (by decide) (cok1 trivial) ?_
  refine dv (gyes_none rfl) (q_len_str Try.underlying9 rfl) rfl (by decide) (cok1 trivial) ?_
  refine dv (gyes_none rfl) (q_as (v := .int .i64 ((t.size : Nat) : Int)) rfl) rfl (by decide) (cok1 trivial) ?_
  refine dv (gyes_none rfl) (q_as (v := .nilIface) rfl) rfl (by decide) (cok1 (cconst rfl)) ?_
  refine ⟨_, Wk.refl _ _, ?_⟩
  show awp _ _ _ _ _ _ _
  refine awp_ret_wk ?_
  refine ⟨_, Wk.refl _ _, ?_⟩
  repeat (with_reducible first | refine then_ret ?_ | refine blk_ret ?_ | refine then_exit ?_ | refine blk_exit ?_ | refine blk_exit' (by decide) ?_ | refine blk_normal ?_ | refine then_normal ?_ | refine retq_ret ?_ | refine retq_normal ?_ | refine ng_normal ?_ | refine ng_ret ?_ | refine ng_exit ?_)
  refine ret_is (v := .tuple #[.int .i64 ((t.size : Nat) : Int), .nilIface]) rfl (.tmp rfl (.tmp rfl .nil)) rfl ?_
  exact ⟨_, rfl, s6.kp, s6.own _ (List.mem_of_getElem? (i := 1) rfl), s6.nej (i := 1) (j := 0) rfl rfl (by decide), s6.getj (j := 0) rfl, s6.getj (j := 1) rfl⟩
set_option maxRecDepth 100000 in
set_option maxHeartbeats 4000000 in
theorem bstr_ok {H0 : AHeap} (bb r n : Nat) (l : List UInt8) (hn : l.length = n) (hn0 : 0 < n) (hn1 : n ≤ 100000000) (hnd : [bb, r].Nodup) (h1 : H0[bb]? = some (.typed 75 [.pointer (some ⟨bb, 0, none⟩), .slice (some ⟨r, 0, none⟩) n n] 2)) (h2 : H0[r]? = some (.typed 5 (l.map bytv) 1)) : ACalls Try.prog 38 [.pointer (some ⟨bb, 0, none⟩)] H0 (fun v H' => v = .string ⟨l.toArray⟩ ∧ Kp (· ∈ [bb, r]) H0 H' ∧ H'[bb]? = some (.typed 75 [.pointer (some ⟨bb, 0, none⟩), .slice (some ⟨r, 0, none⟩) n n] 2) ∧ H'[r]? = some .dead) := by
  have hF : Wd Fence.wide := .inl rfl
  have hM : Try.prog.follows .mixedOrders = true := by kernel_rfl
  have hl0 : l ≠ [] := fun e => by rw [e] at hn; simp at hn; omega
  have s0 : St H0 (· ∈ [bb, r]) (Off H0 [bb, r]) H0 [(bb, .typed 75 [.pointer (some ⟨bb, 0, none⟩), .slice (some ⟨r, 0, none⟩) n n] 2), (r, .typed 5 (l.map bytv) 1)] := St.beginL [(bb, .typed 75 [.pointer (some ⟨bb, 0, none⟩), .slice (some ⟨r, 0, none⟩) n n] 2), (r, .typed 5 (l.map bytv) 1)] hnd (allAt_mem ⟨h1, h2, trivial⟩)
  refine acalls_st Try.func38 rfl Try.ntmps38 rfl ?_
  refine awp_seq ?_
  refine awp_regs hF ?_
  refine dv (gyes_none rfl) (q_as (v := .string (⟨#[]⟩ : ByteArray)) rfl) rfl (by decide) (cok1 (cconst rfl)) ?_
  refine ⟨_, Wk.refl _ _, ?_⟩
  show awp _ _ _ _ _ _ _
  refine awp_seq ?_
  refine awp_regt hF hM (by kernel_rfl) (by kernel_rfl) ?_
  refine dv (gyes_none rfl) (q_mv (v := .pointer (some ⟨bb, 0, none⟩)) rfl) rfl (by decide) (cok1 trivial) ?_
  refine dv (gyes_none rfl) (q_nilCheck rfl (by rw [s0.getj (j := 0) rfl]; simp)) rfl (by decide) (cok1 trivial) ?_
  refine dv (gyes_none rfl) (q_field Try.underlying75 rfl Try.sizeOf73 rfl (s0.rdT (j := 0) rfl)) rfl (by decide) (cok1 trivial) ?_
  refine dv (gyes_none rfl) (q_load (v := .slice (some ⟨r, 0, none⟩) n n) Try.isAgg73 rfl (s0.rdT (j := 0) rfl) rfl) rfl (by decide) (cok1 trivial) ?_
  refine dv (gyes_none rfl) (q_sliceData rfl hn0 (s0.getj (j := 1) rfl)) rfl (by decide) (cok1 trivial) ?_
  refine dv (gyes_none rfl) (q_mv (v := .pointer (some ⟨bb, 0, none⟩)) rfl) rfl (by decide) (cok1 trivial) ?_
  refine dv (gyes_none rfl) (q_nilCheck rfl (by rw [s0.getj (j := 0) rfl]; simp)) rfl (by decide) (cok1 trivial) ?_
  refine dv (gyes_none rfl) (q_field Try.underlying75 rfl Try.sizeOf73 rfl (s0.rdT (j := 0) rfl)) rfl (by decide) (cok1 trivial) ?_
  refine dv (gyes_none rfl) (q_load (v := .slice (some ⟨r, 0, none⟩) n n) Try.isAgg73 rfl (s0.rdT (j := 0) rfl) rfl) rfl (by decide) (cok1 trivial) ?_
  refine dv (gyes_none rfl) (q_len_slice Try.underlying73 rfl (s0.rdT (j := 1) rfl)) rfl (by decide) (cok1 trivial) ?_
  refine x_unsafeString [] hF s0 (by kernel_rfl) (j := 1) (gyes_none rfl) Try.underlying96 (by kernel_rfl) rfl (by show Value.int _ _ = _; rw [hn]) hl0 (by omega) rfl trivial trivial (by decide) rfl rfl (fun H1 s2 => ⟨?_, ?_⟩)
  · exact trivial
  refine dv (gyes_none rfl) (q_as (v := .string ⟨l.toArray⟩) rfl) rfl (by decide) (cok1 trivial) ?_
  refine ⟨_, Wk.refl _ _, ?_⟩
  show awp _ _ _ _ _ _ _
  refine awp_ret_wk ?_
  refine ⟨_, Wk.refl _ _, ?_⟩
  repeat (with_reducible first | refine then_ret ?_ | refine blk_ret ?_ | refine then_exit ?_ | refine blk_exit ?_ | refine blk_exit' (by decide) ?_ | refine blk_normal ?_ | refine then_normal ?_ | refine retq_ret ?_ | refine retq_normal ?_ | refine ng_normal ?_ | refine ng_ret ?_ | refine ng_exit ?_)
  refine ret_is (v := .string ⟨l.toArray⟩) rfl (.tmp rfl .nil) rfl ?_
  exact ⟨rfl, s2.kp, s2.getj (j := 0) rfl, s2.getj (j := 1) rfl⟩

end Go.Proofs.YtponfeigjmjbmaaA


/-
  Walks of functions of the given program, and what they compute.
-/
namespace Go.Proofs.YtponfeigjmjbmaaA
set_option linter.unusedVariables false
open Go Go.RowKit Go.Shelf Go.Proofs
set_option maxRecDepth 100000 in
set_option maxHeartbeats 4000000 in
theorem sized_ok {H0 : AHeap} (k : Nat) (h1 : 1 ≤ k) (h8 : k ≤ 8) : ACalls Try.prog 49 [.int .i64 ((k : Nat) : Int)] H0 (Rets (.bool true) H0) := by
  have hF : Wd Fence.wide := .inl rfl
  have hM : Try.prog.follows .mixedOrders = true := by kernel_rfl
  have s0 := St.begin H0
  refine acalls_st Try.func49 rfl Try.ntmps49 rfl ?_
  refine awp_seq ?_
  refine awp_regs hF ?_
  refine dv (gyes_none rfl) (q_as (v := .bool false) rfl) rfl (by decide) (cok1 (cconst rfl)) ?_
  refine ⟨_, Wk.refl _ _, ?_⟩
  show awp _ _ _ _ _ _ _
  refine awp_seq ?_
  refine awp_regs hF ?_
  refine dv (gyes_none rfl) (q_mv (v := .int .i64 ((k : Nat) : Int)) rfl) rfl (by decide) (cok1 trivial) ?_
  refine dv (gyes_none rfl) (OpQ.cast (v' := .bool true) (q_int rfl rfl rfl) (congrArg Value.bool (decide_eq_true (by omega)))) rfl (by decide) (cok2 trivial (cconst rfl)) ?_
  refine dv (gyes_none rfl) (q_mv (v := .bool true) rfl) rfl (by decide) (cok1 trivial) ?_
  refine dv (gyes_some rfl rfl) (q_mv (v := .int .i64 ((k : Nat) : Int)) rfl) rfl (by decide) (cok1 trivial) ?_
  refine dv (gyes_some rfl rfl) (OpQ.cast (v' := .bool true) (q_int rfl rfl rfl) (congrArg Value.bool (decide_eq_true (by omega)))) rfl (by decide) (cok2 trivial (cconst rfl)) ?_
  refine dv (gyes_none rfl) (q_pt (v := .bool true) rfl rfl) rfl (by decide) (call_ok rfl) ?_
  refine dv (gyes_none rfl) (q_as (v := .bool true) rfl) rfl (by decide) (cok1 trivial) ?_
  refine ⟨_, Wk.refl _ _, ?_⟩
  show awp _ _ _ _ _ _ _
  refine awp_ret_wk ?_
  refine ⟨_, Wk.refl _ _, ?_⟩
  repeat (with_reducible first | refine then_ret ?_ | refine blk_ret ?_ | refine then_exit ?_ | refine blk_exit ?_ | refine blk_exit' (by decide) ?_ | refine blk_normal ?_ | refine then_normal ?_ | refine retq_ret ?_ | refine retq_normal ?_ | refine ng_normal ?_ | refine ng_ret ?_ | refine ng_exit ?_)
  exact ret_none (v := .bool true) rfl s0.kp (.tmp rfl .nil) rfl rfl ⟨rfl, rfl⟩
theorem or_byte {n b : Nat} (h : b < 256) : n * 2 ^ 8 ||| b = b + 256 * n := by
  rw [← Nat.shiftLeft_eq, ← Nat.shiftLeft_add_eq_or_of_lt h, Nat.shiftLeft_eq]; omega
set_option maxRecDepth 100000 in
set_option maxHeartbeats 4000000 in
theorem get_ok {H0 : AHeap} (s : ByteArray) (hs : s.size ≤ 8) : ACalls Try.prog 46 [.string s] H0 (Rets (.int .u64 ((getB s : Nat) : Int)) H0) := by
  have hF : Wd Fence.wide := .inl rfl
  have hM : Try.prog.follows .mixedOrders = true := by kernel_rfl
  have s0 := St.begin H0
  refine acalls_st Try.func46 rfl Try.ntmps46 rfl ?_
  refine awp_seq ?_
  refine awp_regs hF ?_
  refine dv (gyes_none rfl) (q_as (v := .int .u64 0) rfl) rfl (by decide) (cok1 (cconst rfl)) ?_
  refine ⟨_, Wk.refl _ _, ?_⟩
  show awp _ _ _ _ _ _ _
  refine awp_seq ?_
  refine awp_seq ?_
  refine awp_regs hF ?_
  refine dv (gyes_none rfl) (q_mv (v := .string s) rfl) rfl (by decide) (cok1 trivial) ?_
  refine dv (gyes_none rfl) (q_len_str Try.underlying9 rfl) rfl (by decide) (cok1 trivial) ?_
  refine dvb (gyes_none rfl) (q_int rfl rfl rfl) rfl (by decide) (cok2 trivial (cconst rfl)) (fun c1 => ?_) (fun c1 => ?_)
  ·
    replace c1 := of_decide_eq_true c1
    exfalso; omega
  ·
    replace c1 := of_decide_eq_false c1
    refine ⟨_, Wk.refl _ _, ?_⟩
    show awp _ _ _ _ _ _ _
    refine awp_cond_f rfl ?_
    refine awp_skip_wk ?_
    refine ⟨_, Wk.refl _ _, ?_⟩
    show awp _ _ _ _ _ _ _
    refine awp_seq ?_
    refine awp_regs hF ?_
    refine dv (gyes_none rfl) (q_as (v := .int .u64 0) rfl) rfl (by decide) (cok1 (cconst rfl)) ?_
    refine ⟨_, Wk.refl _ _, ?_⟩
    show awp _ _ _ _ _ _ _
    refine awp_seq ?_
    refine awp_seq ?_
    refine awp_regs hF ?_
    refine dv (gyes_none rfl) (q_mv (v := .string s) rfl) rfl (by decide) (cok1 trivial) ?_
    refine dv (gyes_none rfl) (q_len_str Try.underlying9 rfl) rfl (by decide) (cok1 trivial) ?_
    refine dv (gyes_none rfl) (OpQ.cast (v' := .int .i64 (((s.size : Nat) : Int) - 1)) (q_int rfl rfl rfl) (congrArg _ (i64_in (by omega)))) rfl (by decide) (cok2 trivial (cconst rfl)) ?_
    refine dv (gyes_none rfl) (q_as (v := .int .i64 (((s.size : Nat) : Int) - 1)) rfl) rfl (by decide) (cok1 trivial) ?_
    refine ⟨_, Wk.refl _ _, ?_⟩
    show awp _ _ _ _ _ _ _
    refine awp_block ?_
    refine awp_wk (Wk.U [(0, .string s), (3, .int .u64 0), (4, .int .i64 (((s.size : Nat) : Int) - 1))] ⟨rfl, rfl, rfl, trivial⟩) ?_
    refine awp_loop (fun ((i, n) : Int × Nat) st => ∃ (H1 : AHeap), st = ⟨23, U [(0, .string s), (3, .int .u64 ((n : Nat) : Int)), (4, .int .i64 i)], [], H1⟩ ∧ St H0 (none0) (Rd H0) H1 [] ∧ (-1 ≤ i ∧ i < s.size ∧ n = getN ((bl s).drop (i + 1).toNat) ∧ n < 256 ^ (s.size - (i + 1).toNat))) (fun ((i, n) : Int × Nat) => (i + 1).toNat) (x0 := ((((s.size : Nat) : Int) - 1), 0)) ?h0 ?round
    case h0 =>
      exact ⟨_, rfl, s0, ⟨by omega, by omega, by rw [List.drop_eq_nil_iff.2 (by rw [bl_length]; omega)]; rfl, Nat.pow_pos (by decide)⟩⟩
    case round =>
      rintro ⟨i, n⟩ _ ⟨H1, rfl, s2, hn⟩
      dsimp only at *
      refine awp_seq ?_
      refine awp_seq ?_
      refine awp_regs hF ?_
      refine dv (gyes_none rfl) (q_mv (v := .int .i64 i) rfl) rfl (by decide) (cok1 trivial) ?_
      refine dvb (gyes_none rfl) (q_int rfl rfl rfl) rfl (by decide) (cok2 trivial (cconst rfl)) (fun c2 => ?_) (fun c2 => ?_)
      ·
        replace c2 := of_decide_eq_true c2
        have hb := byt_lt s i.toNat
        have hn7 : n < 72057594037927936 := Nat.lt_of_lt_of_le hn.2.2.2 (Nat.pow_le_pow_right (by decide) (by omega) : 256 ^ _ ≤ 256 ^ 7)
        refine ⟨_, Wk.refl _ _, ?_⟩
        show awp _ _ _ _ _ _ _
        refine awp_cond_t rfl ?_
        refine awp_skip_wk ?_
        refine ⟨_, Wk.refl _ _, ?_⟩
        show awp _ _ _ _ _ _ _
        refine awp_seq ?_
        refine awp_block ?_
        refine awp_regs hF ?_
        refine dv (gyes_none rfl) (q_mv (v := .int .u64 ((n : Nat) : Int)) rfl) rfl (by decide) (cok1 trivial) ?_
        refine dv (gyes_none rfl) (q_shlN (a := n) (c := 8) rfl rfl rfl (by decide) (by show n * 2 ^ 8 < 2 ^ 64; omega)) rfl (by decide) (cok2 trivial (cconst rfl)) ?_
        refine dv (gyes_none rfl) (q_mv (v := .string s) rfl) rfl (by decide) (cok1 trivial) ?_
        refine dv (gyes_none rfl) (q_mv (v := .int .i64 i) rfl) rfl (by decide) (cok1 trivial) ?_
        refine dv (gyes_none rfl) (q_bytI (z := i) Try.underlying9 rfl rfl (by omega) (by omega)) rfl (by decide) (cok2 trivial trivial) ?_
        refine dv (gyes_none rfl) (q_convin (a := ((byt s (i.toNat) : Nat) : Int)) Try.underlying5 Try.underlying45 rfl (u64_in (by omega))) rfl (by decide) (cok1 trivial) ?_
        refine dv (gyes_none rfl) (OpQ.cast (v' := .int .u64 ((byt s i.toNat + 256 * n : Nat) : Int)) (q_orN (a := (n * 2 ^ 8)) (b := (byt s (i.toNat))) rfl rfl rfl (by show n * 2 ^ 8 < 2 ^ 64; omega) (by show _ < 2 ^ 64; omega)) (congrArg _ (congrArg _ (or_byte hb)))) rfl (by decide) (cok2 trivial trivial) ?_
        refine dv (gyes_none rfl) (q_as (v := .int .u64 ((byt s i.toNat + 256 * n : Nat) : Int)) rfl) rfl (by decide) (cok1 trivial) ?_
        refine ⟨_, Wk.refl _ _, ?_⟩
        show awp _ _ _ _ _ _ _
        refine awp_regs hF ?_
        refine dv (gyes_none rfl) (q_mv (v := .int .i64 i) rfl) rfl (by decide) (cok1 trivial) ?_
        refine dv (gyes_none rfl) (OpQ.cast (v' := .int .i64 (i - 1)) (q_int rfl rfl rfl) (congrArg _ (i64_in (by omega)))) rfl (by decide) (cok2 trivial (cconst rfl)) ?_
        refine dv (gyes_none rfl) (q_as (v := .int .i64 (i - 1)) rfl) rfl (by decide) (cok1 trivial) ?_
        refine ⟨_, Wk.U [(0, .string s), (3, .int .u64 (((byt s i.toNat + 256 * n) : Nat) : Int)), (4, .int .i64 (i - 1))] ⟨rfl, rfl, rfl, trivial⟩, ((i - 1), (byt s i.toNat + 256 * n)), ⟨_, rfl, s2, ⟨by omega, by omega, by dsimp only; rw [show (i - 1 + 1).toNat = i.toNat by omega, getN_step (by omega), hn.2.2.1, show i.toNat + 1 = (i + 1).toNat by omega], by
              dsimp only
              have h1 : 256 ^ (s.size - (i - 1 + 1).toNat) = 256 ^ (s.size - (i + 1).toNat) * 256 := by rw [← Nat.pow_succ]; congr 1; omega
              have := hn.2.2.2
              omega⟩⟩, (by omega)⟩
      ·
        replace c2 := of_decide_eq_false c2
        refine ⟨_, Wk.refl _ _, ?_⟩
        show awp _ _ _ _ _ _ _
        refine awp_cond_f rfl ?_
        refine awp_exit_wk ?_
        refine ⟨_, Wk.refl _ _, ?_⟩
        show awp _ _ _ _ _ _ _
        refine awp_seq ?_
        refine awp_regs hF ?_
        refine dv (gyes_none rfl) (q_mv (v := .int .u64 ((n : Nat) : Int)) rfl) rfl (by decide) (cok1 trivial) ?_
        refine dv (gyes_none rfl) (q_as (v := .int .u64 ((n : Nat) : Int)) rfl) rfl (by decide) (cok1 trivial) ?_
        refine ⟨_, Wk.refl _ _, ?_⟩
        show awp _ _ _ _ _ _ _
        refine awp_ret_wk ?_
        refine ⟨_, Wk.refl _ _, ?_⟩
        repeat (with_reducible first | refine then_ret ?_ | refine blk_ret ?_ | refine then_exit ?_ | refine blk_exit ?_ | refine blk_exit' (by decide) ?_ | refine blk_normal ?_ | refine then_normal ?_ | refine retq_ret ?_ | refine retq_normal ?_ | refine ng_normal ?_ | refine ng_ret ?_ | refine ng_exit ?_)
        exact ret_none (v := .int .u64 ((n : Nat) : Int)) rfl s2.kp (.tmp rfl .nil) rfl rfl ⟨by rw [hn.2.2.1, show (i + 1).toNat = 0 by omega]; rfl, rfl⟩
set_option maxRecDepth 100000 in
set_option maxHeartbeats 4000000 in
theorem part_ok {H0 : AHeap} (s : ByteArray) (a n : Nat) (hs : s.size ≤ 140737488355328) (ha : a < 18446744073709551616) (hn : n < 18446744073709551616) : ACalls Try.prog 44 [.string s, .int .u64 ((a : Nat) : Int), .int .u64 ((n : Nat) : Int)] H0 (Rets (.tuple #[.string (partV s a n), .bool (decide (a + n ≤ s.size))]) H0) := by
  have hF : Wd Fence.wide := .inl rfl
  have hM : Try.prog.follows .mixedOrders = true := by kernel_rfl
  have s0 := St.begin H0
  refine acalls_st Try.func44 rfl Try.ntmps44 rfl ?_
  refine awp_seq ?_
  refine awp_regs hF ?_
  refine dv (gyes_none rfl) (q_as (v := .string (⟨#[]⟩ : ByteArray)) rfl) rfl (by decide) (cok1 (cconst rfl)) ?_
  refine dv (gyes_none rfl) (q_as (v := .bool false) rfl) rfl (by decide) (cok1 (cconst rfl)) ?_
  refine ⟨_, Wk.refl _ _, ?_⟩
  show awp _ _ _ _ _ _ _
  refine awp_seq ?_
  refine awp_regs hF ?_
  refine dv (gyes_none rfl) (q_mv (v := .string s) rfl) rfl (by decide) (cok1 trivial) ?_
  refine dv (gyes_none rfl) (q_len_str Try.underlying9 rfl) rfl (by decide) (cok1 trivial) ?_
  refine dv (gyes_none rfl) (q_convin (a := ((s.size : Nat) : Int)) Try.underlying3 Try.underlying45 rfl (u64_in (by omega))) rfl (by decide) (cok1 trivial) ?_
  refine dv (gyes_none rfl) (q_as (v := .int .u64 ((s.size : Nat) : Int)) rfl) rfl (by decide) (cok1 trivial) ?_
  refine ⟨_, Wk.refl _ _, ?_⟩
  show awp _ _ _ _ _ _ _
  refine awp_seq ?_
  refine awp_seq ?_
  refine awp_regs hF ?_
  refine dv (gyes_none rfl) (q_mv (v := .int .u64 ((a : Nat) : Int)) rfl) rfl (by decide) (cok1 trivial) ?_
  refine dv (gyes_none rfl) (q_mv (v := .int .u64 ((s.size : Nat) : Int)) rfl) rfl (by decide) (cok1 trivial) ?_
  refine dvb (gyes_none rfl) (q_int rfl rfl rfl) rfl (by decide) (cok2 trivial trivial) (fun c1 => ?_) (fun c1 => ?_)
  ·
    replace c1 := of_decide_eq_true c1
    refine dv (gyes_none rfl) (q_mv (v := .bool true) rfl) rfl (by decide) (cok1 trivial) ?_
    refine dno rfl (.inl rfl) rfl (by decide) ?_
    refine dno rfl (.inl rfl) rfl (by decide) ?_
    refine dno rfl (.inl rfl) rfl (by decide) ?_
    refine dno rfl (.inl rfl) rfl (by decide) ?_
    refine dno rfl (.inl rfl) rfl (by decide) ?_
    refine dv (gyes_none rfl) (q_pt (v := .bool true) rfl rfl) rfl (by decide) (call_ok rfl) ?_
    refine ⟨_, Wk.refl _ _, ?_⟩
    show awp _ _ _ _ _ _ _
    refine awp_cond_t rfl ?_
    refine awp_seq ?_
    refine awp_regs hF ?_
    refine dv (gyes_none rfl) (q_as (v := .string (⟨#[]⟩ : ByteArray)) rfl) rfl (by decide) (cok1 (cconst rfl)) ?_
    refine dv (gyes_none rfl) (q_as (v := .bool false) rfl) rfl (by decide) (cok1 (cconst rfl)) ?_
    refine ⟨_, Wk.refl _ _, ?_⟩
    show awp _ _ _ _ _ _ _
    refine awp_ret_wk ?_
    refine ⟨_, Wk.refl _ _, ?_⟩
    repeat (with_reducible first | refine then_ret ?_ | refine blk_ret ?_ | refine then_exit ?_ | refine blk_exit ?_ | refine blk_exit' (by decide) ?_ | refine blk_normal ?_ | refine then_normal ?_ | refine retq_ret ?_ | refine retq_normal ?_ | refine ng_normal ?_ | refine ng_ret ?_ | refine ng_exit ?_)
    exact ret_none (v := .tuple #[.string (⟨#[]⟩ : ByteArray), .bool false]) rfl s0.kp (.tmp rfl (.tmp rfl .nil)) rfl rfl ⟨by rw [partV_out (by omega), decide_eq_false (by omega)], rfl⟩
  ·
    replace c1 := of_decide_eq_false c1
    refine dv (gyes_none rfl) (q_mv (v := .bool false) rfl) rfl (by decide) (cok1 trivial) ?_
    refine dv (gyes_some rfl rfl) (q_mv (v := .int .u64 ((n : Nat) : Int)) rfl) rfl (by decide) (cok1 trivial) ?_
    refine dv (gyes_some rfl rfl) (q_mv (v := .int .u64 ((s.size : Nat) : Int)) rfl) rfl (by decide) (cok1 trivial) ?_
    refine dv (gyes_some rfl rfl) (q_mv (v := .int .u64 ((a : Nat) : Int)) rfl) rfl (by decide) (cok1 trivial) ?_
    refine dv (gyes_some rfl rfl) (OpQ.cast (v' := .int .u64 ((s.size - a : Nat) : Int)) (q_int rfl rfl rfl) (congrArg _ ((u64_in (by omega)).trans (by omega)))) rfl (by decide) (cok2 trivial trivial) ?_
    refine dvb (gyes_some rfl rfl) (q_int rfl rfl rfl) rfl (by decide) (cok2 trivial trivial) (fun c2 => ?_) (fun c2 => ?_)
    ·
      replace c2 := of_decide_eq_true c2
      refine dv (gyes_none rfl) (q_pf (v := .bool true) rfl rfl) rfl (by decide) (call_ok rfl) ?_
      refine ⟨_, Wk.refl _ _, ?_⟩
      show awp _ _ _ _ _ _ _
      refine awp_cond_t rfl ?_
      refine awp_seq ?_
      refine awp_regs hF ?_
      refine dv (gyes_none rfl) (q_as (v := .string (⟨#[]⟩ : ByteArray)) rfl) rfl (by decide) (cok1 (cconst rfl)) ?_
      refine dv (gyes_none rfl) (q_as (v := .bool false) rfl) rfl (by decide) (cok1 (cconst rfl)) ?_
      refine ⟨_, Wk.refl _ _, ?_⟩
      show awp _ _ _ _ _ _ _
      refine awp_ret_wk ?_
      refine ⟨_, Wk.refl _ _, ?_⟩
      repeat (with_reducible first | refine then_ret ?_ | refine blk_ret ?_ | refine then_exit ?_ | refine blk_exit ?_ | refine blk_exit' (by decide) ?_ | refine blk_normal ?_ | refine then_normal ?_ | refine retq_ret ?_ | refine retq_normal ?_ | refine ng_normal ?_ | refine ng_ret ?_ | refine ng_exit ?_)
      exact ret_none (v := .tuple #[.string (⟨#[]⟩ : ByteArray), .bool false]) rfl s0.kp (.tmp rfl (.tmp rfl .nil)) rfl rfl ⟨by rw [partV_out (by omega), decide_eq_false (by omega)], rfl⟩
    ·
      replace c2 := of_decide_eq_false c2
      refine dv (gyes_none rfl) (q_pf (v := .bool false) rfl rfl) rfl (by decide) (call_ok rfl) ?_
      refine ⟨_, Wk.refl _ _, ?_⟩
      show awp _ _ _ _ _ _ _
      refine awp_cond_f rfl ?_
      refine awp_skip_wk ?_
      refine ⟨_, Wk.refl _ _, ?_⟩
      show awp _ _ _ _ _ _ _
      refine awp_seq ?_
      refine awp_regs hF ?_
      refine dv (gyes_none rfl) (q_mv (v := .string s) rfl) rfl (by decide) (cok1 trivial) ?_
      refine dv (gyes_none rfl) (q_mv (v := .int .u64 ((a : Nat) : Int)) rfl) rfl (by decide) (cok1 trivial) ?_
      refine dv (gyes_none rfl) (q_mv (v := .int .u64 ((a : Nat) : Int)) rfl) rfl (by decide) (cok1 trivial) ?_
      refine dv (gyes_none rfl) (q_mv (v := .int .u64 ((n : Nat) : Int)) rfl) rfl (by decide) (cok1 trivial) ?_
      refine dv (gyes_none rfl) (OpQ.cast (v' := .int .u64 ((a + n : Nat) : Int)) (q_int rfl rfl rfl) (congrArg _ ((u64_in (by omega)).trans (by first | rfl | omega | (push_cast; rfl))))) rfl (by decide) (cok2 trivial trivial) ?_
      refine dv (gyes_none rfl) (q_substr (i := a) (j := (a + n)) Try.underlying9 rfl ⟨_, rfl⟩ ⟨_, rfl⟩ (by omega) (by omega)) rfl (by decide) (call_ok rfl) ?_
      refine dv (gyes_none rfl) (q_as (v := .string (s.extract a (a + n))) rfl) rfl (by decide) (cok1 trivial) ?_
      refine dv (gyes_none rfl) (q_as (v := .bool true) rfl) rfl (by decide) (cok1 (cconst rfl)) ?_
      refine ⟨_, Wk.refl _ _, ?_⟩
      show awp _ _ _ _ _ _ _
      refine awp_ret_wk ?_
      refine ⟨_, Wk.refl _ _, ?_⟩
      repeat (with_reducible first | refine then_ret ?_ | refine blk_ret ?_ | refine then_exit ?_ | refine blk_exit ?_ | refine blk_exit' (by decide) ?_ | refine blk_normal ?_ | refine then_normal ?_ | refine retq_ret ?_ | refine retq_normal ?_ | refine ng_normal ?_ | refine ng_ret ?_ | refine ng_exit ?_)
      exact ret_none (v := .tuple #[.string (s.extract a (a + n)), .bool true]) rfl s0.kp (.tmp rfl (.tmp rfl .nil)) rfl rfl ⟨by rw [partV_in (by omega), decide_eq_true (by omega)], rfl⟩
set_option maxRecDepth 100000 in
set_option maxHeartbeats 4000000 in
theorem at_ok {H0 : AHeap} (s : ByteArray) (a k : Nat) (hs : s.size ≤ 140737488355328) (ha : a < 18446744073709551616) (h1 : 1 ≤ k) (h8 : k ≤ 8) : ACalls Try.prog 43 [.string s, .int .u64 ((a : Nat) : Int), .int .i64 ((k : Nat) : Int)] H0 (Rets (.tuple #[.int .u64 ((atV s a k : Nat) : Int), .bool (decide (a + k ≤ s.size))]) H0) := by
  have hF : Wd Fence.wide := .inl rfl
  have hM : Try.prog.follows .mixedOrders = true := by kernel_rfl
  have s0 := St.begin H0
  refine acalls_st Try.func43 rfl Try.ntmps43 rfl ?_
  refine awp_seq ?_
  refine awp_regs hF ?_
  refine dv (gyes_none rfl) (q_as (v := .int .u64 0) rfl) rfl (by decide) (cok1 (cconst rfl)) ?_
  refine dv (gyes_none rfl) (q_as (v := .bool false) rfl) rfl (by decide) (cok1 (cconst rfl)) ?_
  refine ⟨_, Wk.refl _ _, ?_⟩
  show awp _ _ _ _ _ _ _
  refine awp_seq ?_
  refine awp_seq ?_
  refine awp_regs hF ?_
  refine dv (gyes_none rfl) (q_mv (v := .int .i64 ((k : Nat) : Int)) rfl) rfl (by decide) (cok1 trivial) ?_
  refine dv (gyes_none rfl) (q_call0 Try.call49 rfl (sized_ok k (by omega) (by omega))) rfl (by decide) (cok2 trivial trivial) ?_
  refine dv (gyes_none rfl) (q_not (b := true) rfl) rfl (by decide) (cok1 trivial) ?_
  refine ⟨_, Wk.refl _ _, ?_⟩
  show awp _ _ _ _ _ _ _
  refine awp_cond_f rfl ?_
  refine awp_skip_wk ?_
  refine ⟨_, Wk.refl _ _, ?_⟩
  show awp _ _ _ _ _ _ _
  refine awp_seq ?_
  refine awp_regs hF ?_
  refine dv (gyes_none rfl) (q_mv (v := .string s) rfl) rfl (by decide) (cok1 trivial) ?_
  refine dv (gyes_none rfl) (q_mv (v := .int .u64 ((a : Nat) : Int)) rfl) rfl (by decide) (cok1 trivial) ?_
  refine dv (gyes_none rfl) (q_mv (v := .int .i64 ((k : Nat) : Int)) rfl) rfl (by decide) (cok1 trivial) ?_
  refine dv (gyes_none rfl) (q_convin (a := ((k : Nat) : Int)) Try.underlying3 Try.underlying45 rfl (u64_in (by omega))) rfl (by decide) (cok1 trivial) ?_
  refine dv (gyes_none rfl) (q_call0 Try.call44 rfl (part_ok s a k (by first | assumption | omega) (by omega) (by omega))) rfl (by decide) (call_ok rfl) ?_
  refine dv (gyes_none rfl) (q_mv (v := .tuple #[.string (partV s a k), .bool (decide (a + k ≤ s.size))]) rfl) rfl (by decide) (cok1 trivial) ?_
  refine dv (gyes_none rfl) (q_extract (v := .string (partV s a k)) rfl rfl) rfl (by decide) (cok1 trivial) ?_
  refine dv (gyes_none rfl) (q_extract (v := .bool (decide (a + k ≤ s.size))) rfl rfl) rfl (by decide) (cok1 trivial) ?_
  refine dv (gyes_none rfl) (q_as (v := .string (partV s a k)) rfl) rfl (by decide) (cok1 trivial) ?_
  refine dv (gyes_none rfl) (q_as (v := .bool (decide (a + k ≤ s.size))) rfl) rfl (by decide) (cok1 trivial) ?_
  refine ⟨_, Wk.refl _ _, ?_⟩
  show awp _ _ _ _ _ _ _
  refine awp_seq ?_
  refine awp_regs hF ?_
  refine dv (gyes_none rfl) (q_mv (v := .string (partV s a k)) rfl) rfl (by decide) (cok1 trivial) ?_
  refine dv (gyes_none rfl) (q_call0 Try.call46 rfl (get_ok (partV s a k) (Nat.le_trans partV_size h8))) rfl (by decide) (cok2 trivial trivial) ?_
  refine dv (gyes_none rfl) (q_mv (v := .bool (decide (a + k ≤ s.size))) rfl) rfl (by decide) (cok1 trivial) ?_
  refine dv (gyes_none rfl) (q_as (v := .int .u64 ((getB (partV s a k) : Nat) : Int)) rfl) rfl (by decide) (cok1 trivial) ?_
  refine dv (gyes_none rfl) (q_as (v := .bool (decide (a + k ≤ s.size))) rfl) rfl (by decide) (cok1 trivial) ?_
  refine ⟨_, Wk.refl _ _, ?_⟩
  show awp _ _ _ _ _ _ _
  refine awp_ret_wk ?_
  refine ⟨_, Wk.refl _ _, ?_⟩
  repeat (with_reducible first | refine then_ret ?_ | refine blk_ret ?_ | refine then_exit ?_ | refine blk_exit ?_ | refine blk_exit' (by decide) ?_ | refine blk_normal ?_ | refine then_normal ?_ | refine retq_ret ?_ | refine retq_normal ?_ | refine ng_normal ?_ | refine ng_ret ?_ | refine ng_exit ?_)
  exact ret_none (v := .tuple #[.int .u64 ((getB (partV s a k) : Nat) : Int), .bool (decide (a + k ≤ s.size))]) rfl s0.kp (.tmp rfl (.tmp rfl .nil)) rfl rfl ⟨by rw [getB_part], rfl⟩
theorem putL_snoc (i : Nat) : ∀ n, putL n (i + 1) = putL n i ++ [UInt8.ofNat (n / 256 ^ i)] := by
  induction i with
  | zero => intro n; simp [putL]
  | succ i ih => intro n; rw [putL, ih, putL]; simp only [List.cons_append]; rw [Nat.div_div_eq_div_mul, ← Nat.pow_succ']
theorem putL_set {n i k : Nat} (h : i < k) : (putL n i ++ List.replicate (k - i) (0 : UInt8)).set i (UInt8.ofNat (n / 2 ^ (8 * i))) = putL n (i + 1) ++ List.replicate (k - (i + 1)) 0 := by
  rw [show k - i = (k - (i + 1)) + 1 by omega, List.replicate_succ, putL_snoc, List.set_append_right _ _ (by rw [putL_length]; exact Nat.le_refl _), putL_length, Nat.sub_self, List.set_cons_zero, Nat.pow_mul, List.append_assoc]
  rfl
set_option maxRecDepth 100000 in
set_option maxHeartbeats 4000000 in
theorem put_ok {H0 : AHeap} (n k : Nat) (hn : n < 18446744073709551616) (h1 : 1 ≤ k) (h8 : k ≤ 8) : ACalls Try.prog 36 [.int .u64 ((n : Nat) : Int), .int .i64 ((k : Nat) : Int)] H0 (Rets (.string (putB n k)) H0) := by
  have hF : Wd Fence.wide := .inl rfl
  have hM : Try.prog.follows .mixedOrders = true := by kernel_rfl
  have s0 := St.begin H0
  refine acalls_st Try.func36 rfl Try.ntmps36 rfl ?_
  refine awp_seq ?_
  refine awp_regs hF ?_
  refine dv (gyes_none rfl) (q_as (v := .string (⟨#[]⟩ : ByteArray)) rfl) rfl (by decide) (cok1 (cconst rfl)) ?_
  refine ⟨_, Wk.refl _ _, ?_⟩
  show awp _ _ _ _ _ _ _
  refine awp_seq ?_
  refine awp_seq ?_
  refine awp_regs hF ?_
  refine dv (gyes_none rfl) (q_mv (v := .int .i64 ((k : Nat) : Int)) rfl) rfl (by decide) (cok1 trivial) ?_
  refine dv (gyes_none rfl) (q_call0 Try.call49 rfl (sized_ok k (by omega) (by omega))) rfl (by decide) (cok2 trivial trivial) ?_
  refine dv (gyes_none rfl) (q_not (b := true) rfl) rfl (by decide) (cok1 trivial) ?_
  refine ⟨_, Wk.refl _ _, ?_⟩
  show awp _ _ _ _ _ _ _
  refine awp_cond_f rfl ?_
  refine awp_skip_wk ?_
  refine ⟨_, Wk.refl _ _, ?_⟩
  show awp _ _ _ _ _ _ _
  refine awp_seq ?_
  refine awp_regs hF ?_
  refine dv (gyes_none rfl) (q_mv (v := .int .i64 ((k : Nat) : Int)) rfl) rfl (by decide) (cok1 trivial) ?_
  refine x_new (fun b => .slice (some ⟨b, 0, none⟩) k k) s0 (gyes_none rfl) (q_makeSlice1 (len := k) (m := k) rfl Try.underlying73 Try.typeInfo5 rfl Try.zeroValue5 rfl rfl rfl rfl (by omega) (by omega) (by show 1 * _ ≤ _; omega) (vs := (List.replicate k (0 : UInt8)).map bytv) (by simp [bytv])) rfl (by decide) (cok2 trivial trivial) (fun b1 H2 hb4 s3 => ?_)
  refine dv (gyes_none rfl) (q_as (v := .slice (some ⟨b1, 0, none⟩) k k) rfl) rfl (by decide) (cok1 trivial) ?_
  refine ⟨_, Wk.refl _ _, ?_⟩
  show awp _ _ _ _ _ _ _
  refine awp_seq ?_
  refine awp_seq ?_
  refine awp_regs hF ?_
  refine dv (gyes_none rfl) (q_mv (v := .slice (some ⟨b1, 0, none⟩) k k) rfl) rfl (by decide) (cok1 trivial) ?_
  refine dv (gyes_none rfl) (q_len_slice Try.underlying73 rfl (s3.rd (j := 0) rfl)) rfl (by decide) (cok1 trivial) ?_
  refine dv (gyes_none rfl) (q_mv (v := .int .i64 0) rfl) rfl (by decide) (cok1 (cconst rfl)) ?_
  refine ⟨_, Wk.refl _ _, ?_⟩
  show awp _ _ _ _ _ _ _
  refine awp_block ?_
  refine awp_wk (Wk.U [(0, .int .u64 ((n : Nat) : Int)), (1, .int .i64 ((k : Nat) : Int)), (5, .slice (some ⟨b1, 0, none⟩) k k), (13, .int .i64 ((k : Nat) : Int)), (14, .int .i64 0)] ⟨rfl, rfl, rfl, rfl, rfl, trivial⟩) ?_
  refine awp_loop (fun ((i, l) : Nat × (List UInt8)) st => ∃ (H5 : AHeap) (b : Nat), st = ⟨28, U [(0, .int .u64 ((n : Nat) : Int)), (1, .int .i64 ((k : Nat) : Int)), (5, .slice (some ⟨b, 0, none⟩) k k), (13, .int .i64 ((k : Nat) : Int)), (14, .int .i64 ((i : Nat) : Int))], [], H5⟩ ∧ St H0 (none0) (Rd H0) H5 [(b, .cells true (l.map bytv) 1)] ∧ (i ≤ k ∧ l = putL n i ++ List.replicate (k - i) (0 : UInt8))) (fun ((i, l) : Nat × (List UInt8)) => k - i) (x0 := (0, (List.replicate k (0 : UInt8)))) ?h0 ?round
  case h0 =>
    exact ⟨_, _, rfl, s3, ⟨Nat.zero_le _, rfl⟩⟩
  case round =>
    rintro ⟨i, l⟩ _ ⟨H5, b, rfl, s6, hl⟩
    dsimp only at *
    have hll : l.length = k := by rw [hl.2, List.length_append, putL_length, List.length_replicate]; omega
    refine awp_seq ?_
    refine awp_regs hF ?_
    refine dvb (gyes_none rfl) (q_int rfl rfl rfl) rfl (by decide) (cok2 trivial trivial) (fun c1 => ?_) (fun c1 => ?_)
    ·
      replace c1 := of_decide_eq_true c1
      refine ⟨_, Wk.refl _ _, ?_⟩
      show awp _ _ _ _ _ _ _
      refine awp_seq ?_
      refine awp_cond_t rfl ?_
      refine awp_skip_wk ?_
      refine ⟨_, Wk.refl _ _, ?_⟩
      show awp _ _ _ _ _ _ _
      refine awp_seq ?_
      refine awp_block ?_
      refine awp_seq ?_
      refine awp_regs hF ?_
      refine dv (gyes_none rfl) (q_mv (v := .int .i64 ((i : Nat) : Int)) rfl) rfl (by decide) (cok1 trivial) ?_
      refine dv (gyes_none rfl) (q_as (v := .int .i64 ((i : Nat) : Int)) rfl) rfl (by decide) (cok1 trivial) ?_
      refine ⟨_, Wk.refl _ _, ?_⟩
      show awp _ _ _ _ _ _ _
      refine awp_regs hF ?_
      refine dv (gyes_none rfl) (q_mv (v := .slice (some ⟨b, 0, none⟩) k k) rfl) rfl (by decide) (cok1 trivial) ?_
      refine dv (gyes_none rfl) (q_mv (v := .int .i64 ((i : Nat) : Int)) rfl) rfl (by decide) (cok1 trivial) ?_
      refine dv (gyes_none rfl) (q_mv (v := .int .u64 ((n : Nat) : Int)) rfl) rfl (by decide) (cok1 trivial) ?_
      refine dv (gyes_none rfl) (q_mv (v := .int .i64 ((i : Nat) : Int)) rfl) rfl (by decide) (cok1 trivial) ?_
      refine dv (gyes_none rfl) (OpQ.cast (v' := .int .i64 ((8 * i : Nat) : Int)) (q_int rfl rfl rfl) (congrArg _ ((i64_in (by omega)).trans (by first | rfl | omega | (push_cast; rfl))))) rfl (by decide) (cok2 (cconst rfl) trivial) ?_
      refine dv (gyes_none rfl) (q_shrN (a := n) (c := (8 * i)) rfl rfl (by show n < 2 ^ 64; omega)) rfl (by decide) (cok2 trivial trivial) ?_
      refine dv (gyes_none rfl) (OpQ.cast (v' := .int .u8 (((n / 2 ^ (8 * i)) % 256 : Nat) : Int)) (q_conv Try.underlying45 Try.underlying5 rfl) (congrArg _ (wrapU8 (n / 2 ^ (8 * i))))) rfl (by decide) (cok1 trivial) ?_
      refine dv (gyes_none rfl) (OpQ.cast (v' := .pointer (some ⟨b, i, none⟩)) (q_index1 (i := i) Try.underlying73 Try.sizeOf5 rfl rfl (by omega) (s6.rd (j := 0) rfl)) (by rw [Nat.zero_add])) rfl (by decide) (cok2 trivial trivial) ?_
      refine x_store1 [] hF s6 (by kernel_rfl) (gyes_none rfl) (j := 0) (v := bytv (UInt8.ofNat (n / 2 ^ (8 * i)))) rfl Try.sizeOf5 rfl rfl rfl (lc_scalar rfl) (by rw [List.length_map]; omega) trivial trivial rfl rfl (F' := [(b, .cells true ((l.set i (UInt8.ofNat (n / 2 ^ (8 * i)))).map bytv) 1)]) (by simp only [set_map1]; rfl) (fun H7 s8 => ⟨?_, ?_⟩)
      · exact trivial
      refine ⟨_, Wk.refl _ _, ?_⟩
      show awp _ _ _ _ _ _ _
      refine awp_regs hF ?_
      refine dv (gyes_none rfl) (OpQ.cast (v' := .int .i64 ((i + 1 : Nat) : Int)) (q_int rfl rfl rfl) (congrArg _ ((i64_in (by omega)).trans (by first | rfl | omega | (push_cast; rfl))))) rfl (by decide) (cok2 trivial (cconst rfl)) ?_
      refine dv (gyes_none rfl) (q_mv (v := .int .i64 ((i + 1 : Nat) : Int)) rfl) rfl (by decide) (cok1 trivial) ?_
      refine ⟨_, Wk.U [(0, .int .u64 ((n : Nat) : Int)), (1, .int .i64 ((k : Nat) : Int)), (5, .slice (some ⟨b, 0, none⟩) k k), (13, .int .i64 ((k : Nat) : Int)), (14, .int .i64 (((i + 1) : Nat) : Int))] ⟨rfl, rfl, rfl, rfl, rfl, trivial⟩, ((i + 1), (l.set i (UInt8.ofNat (n / 2 ^ (8 * i))))), ⟨_, _, rfl, s8, ⟨by omega, by rw [hl.2]; exact putL_set (by omega)⟩⟩, (by omega)⟩
    ·
      replace c1 := of_decide_eq_false c1
      refine ⟨_, Wk.refl _ _, ?_⟩
      show awp _ _ _ _ _ _ _
      refine awp_seq ?_
      refine awp_cond_f rfl ?_
      refine awp_exit_wk ?_
      refine ⟨_, Wk.refl _ _, ?_⟩
      show awp _ _ _ _ _ _ _
      refine awp_seq ?_
      refine awp_regs hF ?_
      refine dv (gyes_none rfl) (q_mv (v := .slice (some ⟨b, 0, none⟩) k k) rfl) rfl (by decide) (cok1 trivial) ?_
      refine dv (gyes_none rfl) (q_bytesl (l := l) Try.underlying73 Try.underlying9 Try.underlying5 rfl (s6.rd (j := 0) rfl) hll) rfl (by decide) (cok1 trivial) ?_
      refine dv (gyes_none rfl) (q_as (v := .string (bytesOf l)) rfl) rfl (by decide) (cok1 trivial) ?_
      refine ⟨_, Wk.refl _ _, ?_⟩
      show awp _ _ _ _ _ _ _
      refine awp_ret_wk ?_
      refine ⟨_, Wk.refl _ _, ?_⟩
      repeat (with_reducible first | refine then_ret ?_ | refine blk_ret ?_ | refine then_exit ?_ | refine blk_exit ?_ | refine blk_exit' (by decide) ?_ | refine blk_normal ?_ | refine then_normal ?_ | refine retq_ret ?_ | refine retq_normal ?_ | refine ng_normal ?_ | refine ng_ret ?_ | refine ng_exit ?_)
      exact ret_none (v := .string (bytesOf l)) rfl s6.kp (.tmp rfl .nil) rfl rfl ⟨by rw [hl.2, show i = k by omega, Nat.sub_self]; simp [putB, bytesOf], rfl⟩
set_option maxRecDepth 100000 in
set_option maxHeartbeats 4000000 in
theorem each_ok {H0 : AHeap} (s : ByteArray) (k : Nat) : ACalls Try.prog 45 [.string s, .int .i64 ((k : Nat) : Int)] H0 (fun v H' => ∃ b0 b1, v = .func (.func 54) #[] #[.pointer (some ⟨b0, 0, none⟩), .pointer (some ⟨b1, 0, none⟩)] ∧ NewL H0 H' [(b0, .cells true [.int .i64 ((k : Nat) : Int)] 1), (b1, .cells true [.string s] 1)]) := by
  have hF : Wd Fence.wide := .inl rfl
  have hM : Try.prog.follows .mixedOrders = true := by kernel_rfl
  have s0 := St.begin H0
  refine acalls_st Try.func45 rfl Try.ntmps45 rfl ?_
  refine awp_seq ?_
  refine awp_regs hF ?_
  refine x_new (fun b => .pointer (some ⟨b, 0, none⟩)) s0 (gyes_none rfl) (q_box (v := .string s) (vs := [.string s]) 1 rfl (by exact trivial) rfl) rfl (by decide) (cok1 trivial) (fun b1 H2 hb4 s3 => ?_)
  refine x_new (fun b => .pointer (some ⟨b, 0, none⟩)) s3 (gyes_none rfl) (q_box (v := .int .i64 ((k : Nat) : Int)) (vs := [.int .i64 ((k : Nat) : Int)]) 1 rfl (by exact trivial) rfl) rfl (by decide) (cok1 trivial) (fun b5 H6 hb8 s7 => ?_)
  refine dv (gyes_none rfl) (q_as (v := .nilFunc) rfl) rfl (by decide) (cok1 (cconst rfl)) ?_
  refine ⟨_, Wk.refl _ _, ?_⟩
  show awp _ _ _ _ _ _ _
  refine awp_seq ?_
  refine awp_regs hF ?_
  refine dv (gyes_none rfl) (q_makeFuncL [.pointer (some ⟨b5, 0, none⟩), .pointer (some ⟨b1, 0, none⟩)] ⟨rfl, rfl, trivial⟩) rfl (by decide) (cok2 trivial trivial) ?_
  refine dv (gyes_none rfl) (q_as (v := .func (.func 54) #[] #[.pointer (some ⟨b5, 0, none⟩), .pointer (some ⟨b1, 0, none⟩)]) rfl) rfl (by decide) (cok1 trivial) ?_
  refine ⟨_, Wk.refl _ _, ?_⟩
  show awp _ _ _ _ _ _ _
  refine awp_ret_wk ?_
  refine ⟨_, Wk.refl _ _, ?_⟩
  repeat (with_reducible first | refine then_ret ?_ | refine blk_ret ?_ | refine then_exit ?_ | refine blk_exit ?_ | refine blk_exit' (by decide) ?_ | refine blk_normal ?_ | refine then_normal ?_ | refine retq_ret ?_ | refine retq_normal ?_ | refine ng_normal ?_ | refine ng_ret ?_ | refine ng_exit ?_)
  refine ret_is (v := .func (.func 54) #[] #[.pointer (some ⟨b5, 0, none⟩), .pointer (some ⟨b1, 0, none⟩)]) rfl (.tmp rfl .nil) rfl ?_
  exact ⟨_, _, rfl, s7.newL⟩
theorem mul_le1 (i k n : Nat) (h : i < n) : i * k ≤ (i + 1) * k ∧ (i + 1) * k ≤ n * k := ⟨Nat.mul_le_mul_right _ (Nat.le_succ _), Nat.mul_le_mul_right _ h⟩
set_option maxRecDepth 100000 in
set_option maxHeartbeats 4000000 in
theorem each1_ok {H0 : AHeap} (s : ByteArray) (k : Nat) (hk : 1 ≤ k) (hk2 : k ≤ 140737488355328) (hs : s.size ≤ 140737488355328) (y : Value) (bk bs : Nat) (hnd : [bk, bs].Nodup) (Iv E : Nat → AHeap → Prop) (h0 : Iv 0 H0)
    (hb : ∀ i H, Iv i H → H[bk]? = some (.cells true [.int .i64 ((k : Nat) : Int)] 1) ∧ H[bs]? = some (.cells true [.string s] 1))
    (hy : ∀ i H, Iv i H → i < s.size / k → Ylds Try.prog y [.int .i64 ((i : Nat) : Int), .string (s.extract (i * k) ((i + 1) * k))] H (fun b H' => (b = true → Iv (i + 1) H') ∧ (b = false → E (i + 1) H'))) : ACalls Try.prog 54 [y, .pointer (some ⟨bk, 0, none⟩), .pointer (some ⟨bs, 0, none⟩)] H0 (fun v H' => v = .tuple #[] ∧ (Iv (s.size / k) H' ∨ ∃ i, i < s.size / k ∧ E (i + 1) H')) := by
  have hF : Wd Fence.wide := .inl rfl
  have hM : Try.prog.follows .mixedOrders = true := by kernel_rfl
  have s0 : St H0 (· ∈ [bk, bs]) (Off H0 [bk, bs]) H0 [(bk, .cells true [.int .i64 ((k : Nat) : Int)] 1), (bs, .cells true [.string s] 1)] := St.beginL [(bk, .cells true [.int .i64 ((k : Nat) : Int)] 1), (bs, .cells true [.string s] 1)] hnd (allAt_mem ⟨(hb _ _ h0).1, (hb _ _ h0).2, trivial⟩)
  refine acalls_st Try.func54 rfl Try.ntmps54 rfl ?_
  refine awp_seq ?_
  refine awp_seq ?_
  refine awp_regs hF ?_
  refine dv (gyes_none rfl) (q_load (v := .int .i64 ((k : Nat) : Int)) Try.isAgg3 rfl (s0.rd (j := 0) rfl) rfl) rfl (by decide) (cok1 trivial) ?_
  refine dvb (gyes_none rfl) (q_int rfl rfl rfl) rfl (by decide) (cok2 trivial (cconst rfl)) (fun c1 => ?_) (fun c1 => ?_)
  ·
    replace c1 := of_decide_eq_true c1
    exfalso; omega
  ·
    replace c1 := of_decide_eq_false c1
    refine ⟨_, Wk.refl _ _, ?_⟩
    show awp _ _ _ _ _ _ _
    refine awp_cond_f rfl ?_
    refine awp_skip_wk ?_
    refine ⟨_, Wk.refl _ _, ?_⟩
    show awp _ _ _ _ _ _ _
    refine awp_seq ?_
    refine awp_regs hF ?_
    refine dv (gyes_none rfl) (q_as (v := .int .i64 0) rfl) rfl (by decide) (cok1 (cconst rfl)) ?_
    refine ⟨_, Wk.refl _ _, ?_⟩
    show awp _ _ _ _ _ _ _
    refine awp_block ?_
    refine awp_wk (Wk.U [(0, y), (1, .pointer (some ⟨bk, 0, none⟩)), (2, .pointer (some ⟨bs, 0, none⟩)), (4, .int .i64 0)] ⟨rfl, rfl, rfl, rfl, trivial⟩) ?_
    refine awp_loop (fun (i : Nat) st => ∃ (H1 : AHeap), st = ⟨28, U [(0, y), (1, .pointer (some ⟨bk, 0, none⟩)), (2, .pointer (some ⟨bs, 0, none⟩)), (4, .int .i64 ((i : Nat) : Int))], [], H1⟩ ∧ St H1 ((· ∈ [bk, bs])) (Off H1 [bk, bs]) H1 [(bk, .cells true [.int .i64 ((k : Nat) : Int)] 1), (bs, .cells true [.string s] 1)] ∧ (i ≤ s.size / k ∧ Iv i H1)) (fun (i : Nat) => s.size / k - i) (x0 := (0)) ?h0 ?round
    case h0 =>
      exact ⟨_, rfl, s0, ⟨Nat.zero_le _, h0⟩⟩
    case round =>
      rintro i _ ⟨H1, rfl, s2, hI⟩
      have hdd := Nat.div_le_self s.size k
      have hkk := Nat.div_mul_le_self s.size k
      have hmm := mul_le1 i k (s.size / k)
      refine awp_seq ?_
      refine awp_seq ?_
      refine awp_regs hF ?_
      refine dv (gyes_none rfl) (q_mv (v := .int .i64 ((i : Nat) : Int)) rfl) rfl (by decide) (cok1 trivial) ?_
      refine dv (gyes_none rfl) (q_load (v := .string s) Try.isAgg9 rfl (s2.rd (j := 1) rfl) rfl) rfl (by decide) (cok1 trivial) ?_
      refine dv (gyes_none rfl) (q_len_str Try.underlying9 rfl) rfl (by decide) (cok1 trivial) ?_
      refine dv (gyes_none rfl) (q_load (v := .int .i64 ((k : Nat) : Int)) Try.isAgg3 rfl (s2.rd (j := 0) rfl) rfl) rfl (by decide) (cok1 trivial) ?_
      refine dv (gyes_none rfl) (q_quoM (a := s.size) (b := k) rfl rfl (by first | decide | omega) (i64_in (by have := div_le_of (a := s.size) (b := k) (M := 9223372036854775807) (by omega); omega))) rfl (by decide) (cok2 trivial trivial) ?_
      refine dvb (gyes_none rfl) (q_int rfl rfl rfl) rfl (by decide) (cok2 trivial trivial) (fun c2 => ?_) (fun c2 => ?_)
      ·
        replace c2 := of_decide_eq_true c2
        have hm2 := hmm (by omega)
        refine ⟨_, Wk.refl _ _, ?_⟩
        show awp _ _ _ _ _ _ _
        refine awp_cond_t rfl ?_
        refine awp_skip_wk ?_
        refine ⟨_, Wk.refl _ _, ?_⟩
        show awp _ _ _ _ _ _ _
        refine awp_seq ?_
        refine awp_block ?_
        refine awp_seq ?_
        refine awp_regs hF ?_
        refine dv (gyes_none rfl) (q_mv (v := y) rfl) rfl (by decide) (cok1 trivial) ?_
        refine dv (gyes_none rfl) (q_mv (v := .int .i64 ((i : Nat) : Int)) rfl) rfl (by decide) (cok1 trivial) ?_
        refine dv (gyes_none rfl) (q_load (v := .string s) Try.isAgg9 rfl (s2.rd (j := 1) rfl) rfl) rfl (by decide) (cok1 trivial) ?_
        refine dv (gyes_none rfl) (q_mv (v := .int .i64 ((i : Nat) : Int)) rfl) rfl (by decide) (cok1 trivial) ?_
        refine dv (gyes_none rfl) (q_load (v := .int .i64 ((k : Nat) : Int)) Try.isAgg3 rfl (s2.rd (j := 0) rfl) rfl) rfl (by decide) (cok1 trivial) ?_
        refine dv (gyes_none rfl) (OpQ.cast (v' := .int .i64 ((i * k : Nat) : Int)) (q_int rfl rfl rfl) (congrArg _ ((i64_in (by omega)).trans (by first | rfl | omega | (push_cast; rfl))))) rfl (by decide) (cok2 trivial trivial) ?_
        refine dv (gyes_none rfl) (q_mv (v := .int .i64 ((i : Nat) : Int)) rfl) rfl (by decide) (cok1 trivial) ?_
        refine dv (gyes_none rfl) (OpQ.cast (v' := .int .i64 ((i + 1 : Nat) : Int)) (q_int rfl rfl rfl) (congrArg _ ((i64_in (by omega)).trans (by first | rfl | omega | (push_cast; rfl))))) rfl (by decide) (cok2 trivial (cconst rfl)) ?_
        refine dv (gyes_none rfl) (q_load (v := .int .i64 ((k : Nat) : Int)) Try.isAgg3 rfl (s2.rd (j := 0) rfl) rfl) rfl (by decide) (cok1 trivial) ?_
        refine dv (gyes_none rfl) (OpQ.cast (v' := .int .i64 (((i + 1) * k : Nat) : Int)) (q_int rfl rfl rfl) (congrArg _ ((i64_in (by omega)).trans (by first | rfl | omega | (push_cast; rfl))))) rfl (by decide) (cok2 trivial trivial) ?_
        refine dv (gyes_none rfl) (q_substr (i := (i * k)) (j := ((i + 1) * k)) Try.underlying9 rfl ⟨_, rfl⟩ ⟨_, rfl⟩ (by omega) (by omega)) rfl (by decide) (call_ok rfl) ?_
        refine x_yield [] (by kernel_rfl) (gyes_none rfl) (y := y) (args := [.int .i64 ((i : Nat) : Int), .string (s.extract (i * k) ((i + 1) * k))]) rfl rfl (hy i _ hI.2 (by omega)) (show _ < _ by decide) (cok2 trivial trivial) rfl rfl (fun y3 H4 hy5 => ⟨trivial, ?_⟩)
        show dList _ _ _ _ _ _ _ _ _ _
        cases y3
        case false =>
          refine dv (gyes_none rfl) (q_not (b := false) rfl) rfl (by decide) (cok1 trivial) ?_
          refine ⟨_, Wk.refl _ _, ?_⟩
          show awp _ _ _ _ _ _ _
          refine awp_cond_t rfl ?_
          refine awp_ret_wk ?_
          refine ⟨_, Wk.refl _ _, ?_⟩
          repeat (with_reducible first | refine then_ret ?_ | refine blk_ret ?_ | refine then_exit ?_ | refine blk_exit ?_ | refine blk_exit' (by decide) ?_ | refine blk_normal ?_ | refine then_normal ?_ | refine retq_ret ?_ | refine retq_normal ?_ | refine ng_normal ?_ | refine ng_ret ?_ | refine ng_exit ?_)
          refine ret_is (v := .tuple #[]) rfl .nil rfl ?_
          exact ⟨rfl, .inr ⟨i, by omega, hy5.2 rfl⟩⟩
        case true =>
          have h6 := hy5.1 rfl
          have s7 : St H4 (· ∈ [bk, bs]) (Off H4 [bk, bs]) H4 [(bk, .cells true [.int .i64 ((k : Nat) : Int)] 1), (bs, .cells true [.string s] 1)] := St.beginL [(bk, .cells true [.int .i64 ((k : Nat) : Int)] 1), (bs, .cells true [.string s] 1)] hnd (allAt_mem ⟨(hb _ _ h6).1, (hb _ _ h6).2, trivial⟩)
          refine dv (gyes_none rfl) (q_not (b := true) rfl) rfl (by decide) (cok1 trivial) ?_
          refine ⟨_, Wk.refl _ _, ?_⟩
          show awp _ _ _ _ _ _ _
          refine awp_cond_f rfl ?_
          refine awp_skip_wk ?_
          refine ⟨_, Wk.refl _ _, ?_⟩
          show awp _ _ _ _ _ _ _
          refine awp_regs hF ?_
          refine dv (gyes_none rfl) (q_mv (v := .int .i64 ((i : Nat) : Int)) rfl) rfl (by decide) (cok1 trivial) ?_
          refine dv (gyes_none rfl) (OpQ.cast (v' := .int .i64 ((i + 1 : Nat) : Int)) (q_int rfl rfl rfl) (congrArg _ ((i64_in (by omega)).trans (by first | rfl | omega | (push_cast; rfl))))) rfl (by decide) (cok2 trivial (cconst rfl)) ?_
          refine dv (gyes_none rfl) (q_as (v := .int .i64 ((i + 1 : Nat) : Int)) rfl) rfl (by decide) (cok1 trivial) ?_
          refine ⟨_, Wk.U [(0, y), (1, .pointer (some ⟨bk, 0, none⟩)), (2, .pointer (some ⟨bs, 0, none⟩)), (4, .int .i64 (((i + 1) : Nat) : Int))] ⟨rfl, rfl, rfl, rfl, trivial⟩, (i + 1), ⟨_, rfl, s7, ⟨by omega, h6⟩⟩, (by omega)⟩
      ·
        replace c2 := of_decide_eq_false c2
        refine ⟨_, Wk.refl _ _, ?_⟩
        show awp _ _ _ _ _ _ _
        refine awp_cond_f rfl ?_
        refine awp_exit_wk ?_
        refine ⟨_, Wk.refl _ _, ?_⟩
        repeat (with_reducible first | refine then_ret ?_ | refine blk_ret ?_ | refine then_exit ?_ | refine blk_exit ?_ | refine blk_exit' (by decide) ?_ | refine blk_normal ?_ | refine then_normal ?_ | refine retq_ret ?_ | refine retq_normal ?_ | refine ng_normal ?_ | refine ng_ret ?_ | refine ng_exit ?_)
        refine ret_is (v := .tuple #[]) rfl .nil rfl ?_
        obtain rfl : i = s.size / k := by omega
        exact ⟨rfl, .inl hI.2⟩
end Go.Proofs.YtponfeigjmjbmaaA


/-
  Walks of functions of the given program, and what they compute.
-/
namespace Go.Proofs.YtponfeigjmjbmaaA
set_option linter.unusedVariables false
open Go Go.RowKit Go.Shelf Go.Proofs
def bytk (k : Nat) (l : List Nat) : List UInt8 := l.flatMap fun x => putL x k
theorem bytk_app (k : Nat) (l m : List Nat) : bytk k (l ++ m) = bytk k l ++ bytk k m := by simp [bytk]
theorem bytk_snoc {k i : Nat} {l : List Nat} (h : i < l.length) : bytk k (l.take i) ++ (putB (nth l i) k).data.toList = bytk k (l.take (i + 1)) := by
  rw [List.take_succ_eq_append_getElem h, bytk_app, nth_eq h]
  congr 1
  show (putB l[i] k).data.toList = List.flatMap _ [l[i]]
  rw [show (putB l[i] k).data.toList = bl (putB l[i] k) from rfl, bl_putB]; simp
theorem bytk_len (k : Nat) (l : List Nat) : (bytk k l).length = k * l.length := by
  induction l with
  | nil => simp [bytk]
  | cons x l ih => rw [show x :: l = [x] ++ l from rfl, bytk_app, List.length_append, ih, List.length_append]; simp [bytk, putL_length, Nat.mul_add]
def hdG (lb lk : List Nat) (f sh : Nat) : List Nat := [lk.length, f, lb.length, sh]
def putG (lb lk lc : List Nat) (f sh : Nat) : ByteArray := ⟨(bytk 4 (hdG lb lk f sh) ++ bytk 8 lb ++ bytk 4 (lk ++ lc)).toArray⟩
theorem wstr_e {H0 : AHeap} (pv : Value) (bb r n : Nat) (hp : pv = .pointer none ∨ pv = .pointer (some ⟨bb, 0, none⟩)) (l : List UInt8) (hn : l.length = n) (hnd : [bb, r].Nodup) (h1 : H0[bb]? = some (.typed 75 [pv, .slice (some ⟨r, 0, none⟩) n n] 2)) (h2 : H0[r]? = some (.typed 5 (l.map bytv) 1)) (t : ByteArray) (hsz : n + t.size ≤ 100000000) : ACalls Try.prog 35 [.pointer (some ⟨bb, 0, none⟩), .string t] H0 (fun v H' => ∃ rn, v = .tuple #[.int .i64 ((t.size : Nat) : Int), .nilIface] ∧ Kp (· ∈ [bb, r]) H0 H' ∧ (H0.length ≤ rn ∨ rn ∈ [bb, r]) ∧ rn ≠ bb ∧ H'[bb]? = some (.typed 75 [.pointer (some ⟨bb, 0, none⟩), .slice (some ⟨rn, 0, none⟩) (n + t.size) (n + t.size)] 2) ∧ H'[rn]? = some (.typed 5 ((l ++ t.data.toList).map bytv) 1)) := by
  rcases hp with rfl | rfl
  · exact wstr_n bb r n l hn hnd h1 h2 t hsz
  · exact wstr_u bb r n l hn hnd h1 h2 t hsz
set_option maxRecDepth 100000 in
set_option maxHeartbeats 4000000 in
theorem gput_ok {H0 : AHeap} (f sh : Nat) (vb vk vc : Value) (lb lk lc : List Nat) (hb : Sl u64v H0 vb lb) (hk0 : Sl u32v H0 vk lk) (hc : Sl u32v H0 vc lc) (hf : f < 4294967296) (hsh : sh < 4294967296) (hl1 : lb.length ≤ 1000) (hl2 : lk.length ≤ 1000) (hl3 : lc.length ≤ 1000) (hw : ∀ x ∈ lb, x < 18446744073709551616) (hkw : ∀ x ∈ lk, x < 4294967296) (hcw : ∀ x ∈ lc, x < 4294967296) : ACalls Try.prog 17 [.agg #[.int .u32 ((f : Nat) : Int), .int .u32 ((sh : Nat) : Int), vb, vk, vc]] H0 (Rets (.string (putG lb lk lc f sh)) H0) := by
  have hF : Wd Fence.wide := .inl rfl
  have hM : Try.prog.follows .mixedOrders = true := by kernel_rfl
  have hdl : (hdG lb lk f sh).length = 4 := rfl
  have hll : (lk ++ lc).length = lk.length + lc.length := List.length_append
  have s0 := St.begin H0
  refine acalls_st Try.func17 rfl Try.ntmps17 rfl ?_
  refine awp_seq ?_
  refine awp_regs hF ?_
  refine x_new (fun b => .pointer (some ⟨b, 0, none⟩)) s0 (gyes_none rfl) (q_box (v := .agg #[.int .u32 ((f : Nat) : Int), .int .u32 ((sh : Nat) : Int), vb, vk, vc]) (vs := [.int .u32 ((f : Nat) : Int), .int .u32 ((sh : Nat) : Int), vb, vk, vc]) 5 rfl (by exact trivial) rfl) rfl (by decide) (cok1 trivial) (fun b1 H2 hb4 s3 => ?_)
  refine dv (gyes_none rfl) (q_as (v := .string (⟨#[]⟩ : ByteArray)) rfl) rfl (by decide) (cok1 (cconst rfl)) ?_
  refine ⟨_, Wk.refl _ _, ?_⟩
  show awp _ _ _ _ _ _ _
  refine awp_seq ?_
  refine awp_regs hF ?_
  refine x_newB s3 (gyes_none rfl) (te := 5) Try.zeroValue75 rfl (by decide) (by simp [Op.operands, Call.operands]) (fun b5 b6 H7 hb9 hb10 s8 => ?_)
  refine ⟨_, Wk.refl _ _, ?_⟩
  show awp _ _ _ _ _ _ _
  refine awp_seq ?_
  refine awp_seq ?_
  refine awp_regs hF ?_
  refine dv (gyes_none rfl) (q_field Try.underlying31 rfl Try.sizeOf29 rfl (s8.rd (j := 2) rfl)) rfl (by decide) (cok1 trivial) ?_
  refine dv (gyes_none rfl) (q_load (v := vk) Try.isAgg29 rfl (s8.rd (j := 2) rfl) rfl) rfl (by decide) (cok1 trivial) ?_
  refine dv (gyes_none rfl) (q_len_sl (l := lk) Try.underlying29 (s8.sl hk0) rfl) rfl (by decide) (cok1 trivial) ?_
  refine dv (gyes_none rfl) (q_convin (a := ((lk.length : Nat) : Int)) Try.underlying3 Try.underlying45 rfl (u64_in (by omega))) rfl (by decide) (cok1 trivial) ?_
  refine dv (gyes_none rfl) (q_field Try.underlying31 rfl Try.sizeOf27 rfl (s8.rd (j := 2) rfl)) rfl (by decide) (cok1 trivial) ?_
  refine dv (gyes_none rfl) (q_load (v := .int .u32 ((f : Nat) : Int)) Try.isAgg27 rfl (s8.rd (j := 2) rfl) rfl) rfl (by decide) (cok1 trivial) ?_
  refine dv (gyes_none rfl) (q_convin (a := ((f : Nat) : Int)) Try.underlying27 Try.underlying45 rfl (u64_in (by omega))) rfl (by decide) (cok1 trivial) ?_
  refine dv (gyes_none rfl) (q_field Try.underlying31 rfl Try.sizeOf28 rfl (s8.rd (j := 2) rfl)) rfl (by decide) (cok1 trivial) ?_
  refine dv (gyes_none rfl) (q_load (v := vb) Try.isAgg28 rfl (s8.rd (j := 2) rfl) rfl) rfl (by decide) (cok1 trivial) ?_
  refine dv (gyes_none rfl) (q_len_sl (l := lb) Try.underlying28 (s8.sl hb) rfl) rfl (by decide) (cok1 trivial) ?_
  refine dv (gyes_none rfl) (q_convin (a := ((lb.length : Nat) : Int)) Try.underlying3 Try.underlying45 rfl (u64_in (by omega))) rfl (by decide) (cok1 trivial) ?_
  refine dv (gyes_none rfl) (q_field Try.underlying31 rfl Try.sizeOf27 rfl (s8.rd (j := 2) rfl)) rfl (by decide) (cok1 trivial) ?_
  refine dv (gyes_none rfl) (q_load (v := .int .u32 ((sh : Nat) : Int)) Try.isAgg27 rfl (s8.rd (j := 2) rfl) rfl) rfl (by decide) (cok1 trivial) ?_
  refine dv (gyes_none rfl) (q_convin (a := ((sh : Nat) : Int)) Try.underlying27 Try.underlying45 rfl (u64_in (by omega))) rfl (by decide) (cok1 trivial) ?_
  refine dv (gyes_none rfl) (q_buildArrL (ds := [.int .u64 ((lk.length : Nat) : Int), .int .u64 ((f : Nat) : Int), .int .u64 ((lb.length : Nat) : Int), .int .u64 ((sh : Nat) : Int)]) [.int .u64 ((lk.length : Nat) : Int), .int .u64 ((f : Nat) : Int), .int .u64 ((lb.length : Nat) : Int), .int .u64 ((sh : Nat) : Int)] Try.underlying76 Try.sizeOf45 Try.zeroValue76 (by first | exact flat_agg rfl | exact flat_scalar rfl) ⟨rfl, rfl, rfl, rfl, trivial⟩ (lvsC (by exact trivial) (lvsC (by exact trivial) (lvsC (by exact trivial) (lvsC (by exact trivial) lvs0)))) rfl) rfl (by decide) (call_ok rfl) ?_
  refine dv (gyes_none rfl) (q_mv (v := .int .i64 0) rfl) rfl (by decide) (cok1 (cconst rfl)) ?_
  refine ⟨_, Wk.refl _ _, ?_⟩
  show awp _ _ _ _ _ _ _
  refine awp_block ?_
  refine awp_wk (Wk.U [(1, .pointer (some ⟨b1, 0, none⟩)), (2, .string (⟨#[]⟩ : ByteArray)), (3, .pointer (some ⟨b6, 0, none⟩)), (24, .agg #[.int .u64 ((lk.length : Nat) : Int), .int .u64 ((f : Nat) : Int), .int .u64 ((lb.length : Nat) : Int), .int .u64 ((sh : Nat) : Int)]), (25, .int .i64 0)] ⟨rfl, rfl, rfl, rfl, rfl, trivial⟩) ?_
  refine awp_loop (fun ((j, n9, l9, p9) : Nat × Nat × (List UInt8) × Value) st => ∃ (H11 : AHeap) (r9 : Nat), st = ⟨60, U [(1, .pointer (some ⟨b1, 0, none⟩)), (2, .string (⟨#[]⟩ : ByteArray)), (3, .pointer (some ⟨b6, 0, none⟩)), (24, .agg #[.int .u64 ((lk.length : Nat) : Int), .int .u64 ((f : Nat) : Int), .int .u64 ((lb.length : Nat) : Int), .int .u64 ((sh : Nat) : Int)]), (25, .int .i64 ((j : Nat) : Int))], [], H11⟩ ∧ St H0 (none0) (Rd H0) H11 [(r9, .typed 5 (l9.map bytv) 1), (b6, .typed 75 [p9, .slice (some ⟨r9, 0, none⟩) n9 n9] 2), (b1, .cells true [.int .u32 ((f : Nat) : Int), .int .u32 ((sh : Nat) : Int), vb, vk, vc] 5)] ∧ (j ≤ 4 ∧ l9.length = n9 ∧ (n9 ≤ 100000 ∧ 4 * 0 ≤ n9) ∧ l9 = bytk 4 ((hdG lb lk f sh).take j) ∧ ((p9 = .pointer none ∧ n9 = 0) ∨ p9 = .pointer (some ⟨b6, 0, none⟩)))) (fun ((j, n9, l9, p9) : Nat × Nat × (List UInt8) × Value) => 4 - j) (x0 := (0, 0, ([] : List UInt8), (Value.pointer none))) ?h0 ?round
  case h0 =>
    exact ⟨_, _, rfl, s8, ⟨Nat.zero_le _, rfl, by omega, rfl, .inl ⟨rfl, rfl⟩⟩⟩
  case round =>
    rintro ⟨j, n9, l9, p9⟩ _ ⟨H11, r9, rfl, s12, hj⟩
    dsimp only at *
    refine awp_seq ?_
    refine awp_regs hF ?_
    refine dvb (gyes_none rfl) (q_int rfl rfl rfl) rfl (by decide) (cok2 trivial (cconst rfl)) (fun c1 => ?_) (fun c1 => ?_)
    ·
      replace c1 := of_decide_eq_true c1
      refine ⟨_, Wk.refl _ _, ?_⟩
      show awp _ _ _ _ _ _ _
      refine awp_seq ?_
      refine awp_cond_t rfl ?_
      refine awp_skip_wk ?_
      refine ⟨_, Wk.refl _ _, ?_⟩
      show awp _ _ _ _ _ _ _
      refine awp_seq ?_
      refine awp_block ?_
      refine awp_seq ?_
      refine awp_regs hF ?_
      refine dv (gyes_none rfl) (q_indexA1 (v := .int .u64 ((nth (hdG lb lk f sh) j : Nat) : Int)) (i := j) Try.underlying76 Try.isAgg45 Try.sizeOf45 rfl rfl (by omega) (by rcases (show j = 0 ∨ j = 1 ∨ j = 2 ∨ j = 3 by omega) with rfl | rfl | rfl | rfl <;> rfl)) rfl (by decide) (cok2 trivial trivial) ?_
      refine dv (gyes_none rfl) (q_as (v := .int .u64 ((nth (hdG lb lk f sh) j : Nat) : Int)) rfl) rfl (by decide) (cok1 trivial) ?_
      refine ⟨_, Wk.refl _ _, ?_⟩
      show awp _ _ _ _ _ _ _
      have hps := putB_size (nth (hdG lb lk f sh) j) 4
      have hx4 : nth (hdG lb lk f sh) j < 4294967296 := by rcases (show j = 0 ∨ j = 1 ∨ j = 2 ∨ j = 3 by omega) with rfl | rfl | rfl | rfl; exact (by show lk.length < _; omega); exact hf; exact (by show lb.length < _; omega); exact hsh
      refine awp_regs hF ?_
      refine dv (gyes_none rfl) (q_mv (v := .int .u64 ((nth (hdG lb lk f sh) j : Nat) : Int)) rfl) rfl (by decide) (cok1 trivial) ?_
      refine dv (gyes_none rfl) (q_call0 Try.call36 rfl (put_ok (nth (hdG lb lk f sh) j) 4 (by omega) (by omega) (by omega))) rfl (by decide) (call_ok rfl) ?_
      refine x_call [] hF (by kernel_rfl) (gyes_none rfl) Try.call35 rfl (args := [.pointer (some ⟨b6, 0, none⟩), .string (putB (nth (hdG lb lk f sh) j) 4)]) rfl (wstr_e p9 b6 r9 n9 (hj.2.2.2.2.imp (fun h => h.1) id) l9 hj.2.1 (nod2 (s12.nej (i := 1) (j := 0) rfl rfl (by decide))) (s12.getj (j := 1) rfl) (s12.getj (j := 0) rfl) (putB (nth (hdG lb lk f sh) j) 4) (by omega)) (show _ < _ by decide) (call_ok rfl) rfl rfl (fun _ _ _ _ hd => by cases hd) ?_
      rintro _ H13 ⟨b14, rfl, hq15, ho16, hn17, h18, h19⟩
      have s20 := s12.turn2 (j9 := 1) (jl := 0) rfl rfl (by decide) hq15 ho16 hn17 h18 h19
      refine ⟨trivial, ?_⟩
      show dList _ _ _ _ _ _ _ _ _ _
      refine ⟨_, Wk.refl _ _, ?_⟩
      show awp _ _ _ _ _ _ _
      refine awp_regs hF ?_
      refine dv (gyes_none rfl) (OpQ.cast (v' := .int .i64 ((j + 1 : Nat) : Int)) (q_int rfl rfl rfl) (congrArg _ ((i64_in (by omega)).trans (by first | rfl | omega | (push_cast; rfl))))) rfl (by decide) (cok2 trivial (cconst rfl)) ?_
      refine dv (gyes_none rfl) (q_mv (v := .int .i64 ((j + 1 : Nat) : Int)) rfl) rfl (by decide) (cok1 trivial) ?_
      have hl9 : l9 ++ (putB (nth (hdG lb lk f sh) j) 4).data.toList = bytk 4 ((hdG lb lk f sh).take (j + 1)) := by
        rw [hj.2.2.2.1, ← bytk_snoc (show j < (hdG lb lk f sh).length by show _ < 4; omega)]
      have hlen9 : (l9 ++ (putB (nth (hdG lb lk f sh) j) 4).data.toList).length = n9 + (putB (nth (hdG lb lk f sh) j) 4).size := by rw [List.length_append, hj.2.1]; rfl
      have hb9 : n9 + (putB (nth (hdG lb lk f sh) j) 4).size ≤ 100000 := by
        have h1 := hlen9
        rw [hl9] at h1
        simp only [List.length_append, bytk_len, List.length_take] at h1
        omega
      refine ⟨_, Wk.U [(1, .pointer (some ⟨b1, 0, none⟩)), (2, .string (⟨#[]⟩ : ByteArray)), (3, .pointer (some ⟨b6, 0, none⟩)), (24, .agg #[.int .u64 ((lk.length : Nat) : Int), .int .u64 ((f : Nat) : Int), .int .u64 ((lb.length : Nat) : Int), .int .u64 ((sh : Nat) : Int)]), (25, .int .i64 (((j + 1) : Nat) : Int))] ⟨rfl, rfl, rfl, rfl, rfl, trivial⟩, ((j + 1), (n9 + (putB (nth (hdG lb lk f sh) j) 4).size), (l9 ++ (putB (nth (hdG lb lk f sh) j) 4).data.toList), (Value.pointer (some ⟨b6, 0, none⟩))), ⟨_, _, rfl, s20, ⟨by dsimp only; omega, hlen9, by dsimp only; omega, hl9, .inr rfl⟩⟩, (by omega)⟩
    ·
      replace c1 := of_decide_eq_false c1
      refine ⟨_, Wk.refl _ _, ?_⟩
      show awp _ _ _ _ _ _ _
      refine awp_seq ?_
      refine awp_cond_f rfl ?_
      refine awp_exit_wk ?_
      refine ⟨_, Wk.refl _ _, ?_⟩
      show awp _ _ _ _ _ _ _
      refine awp_seq ?_
      refine awp_seq ?_
      have hj4 : l9 = bytk 4 (hdG lb lk f sh) := by rw [hj.2.2.2.1, List.take_of_length_le (by show 4 ≤ _; omega)]
      have hn9 : n9 = 16 := by rw [← hj.2.1, hj4, bytk_len]; rfl
      refine awp_regs hF ?_
      refine dv (gyes_none rfl) (q_field Try.underlying31 rfl Try.sizeOf28 rfl (s12.rd (j := 2) rfl)) rfl (by decide) (cok1 trivial) ?_
      refine dv (gyes_none rfl) (q_load (v := vb) Try.isAgg28 rfl (s12.rd (j := 2) rfl) rfl) rfl (by decide) (cok1 trivial) ?_
      refine dv (gyes_none rfl) (q_len_sl (l := lb) Try.underlying28 (s12.sl hb) rfl) rfl (by decide) (cok1 trivial) ?_
      refine dv (gyes_none rfl) (q_mv (v := .int .i64 0) rfl) rfl (by decide) (cok1 (cconst rfl)) ?_
      refine ⟨_, Wk.refl _ _, ?_⟩
      show awp _ _ _ _ _ _ _
      refine awp_block ?_
      refine awp_wk (Wk.U [(1, .pointer (some ⟨b1, 0, none⟩)), (2, .string (⟨#[]⟩ : ByteArray)), (3, .pointer (some ⟨b6, 0, none⟩)), (33, vb), (34, .int .i64 ((lb.length : Nat) : Int)), (35, .int .i64 0)] ⟨rfl, rfl, rfl, rfl, rfl, rfl, trivial⟩) ?_
      refine awp_loop (fun ((i, n8, l8, p8) : Nat × Nat × (List UInt8) × Value) st => ∃ (H21 : AHeap) (r8 : Nat), st = ⟨60, U [(1, .pointer (some ⟨b1, 0, none⟩)), (2, .string (⟨#[]⟩ : ByteArray)), (3, .pointer (some ⟨b6, 0, none⟩)), (33, vb), (34, .int .i64 ((lb.length : Nat) : Int)), (35, .int .i64 ((i : Nat) : Int))], [], H21⟩ ∧ St H0 (none0) (Rd H0) H21 [(r8, .typed 5 (l8.map bytv) 1), (b6, .typed 75 [p8, .slice (some ⟨r8, 0, none⟩) n8 n8] 2), (b1, .cells true [.int .u32 ((f : Nat) : Int), .int .u32 ((sh : Nat) : Int), vb, vk, vc] 5)] ∧ (i ≤ lb.length ∧ l8.length = n8 ∧ (n8 ≤ 100000 ∧ 4 * 0 ≤ n8) ∧ l8 = bytk 4 (hdG lb lk f sh) ++ bytk 8 (lb.take i) ∧ ((p8 = .pointer none ∧ n8 = 0) ∨ p8 = .pointer (some ⟨b6, 0, none⟩)))) (fun ((i, n8, l8, p8) : Nat × Nat × (List UInt8) × Value) => lb.length - i) (x0 := (0, n9, l9, p9)) ?h0 ?round
      case h0 =>
        exact ⟨_, _, rfl, s12, ⟨Nat.zero_le _, hj.2.1, by omega, by rw [hj4, List.take_zero]; show _ = _ ++ []; rw [List.append_nil], hj.2.2.2.2⟩⟩
      case round =>
        rintro ⟨i, n8, l8, p8⟩ _ ⟨H21, r8, rfl, s22, hi⟩
        dsimp only at *
        refine awp_seq ?_
        refine awp_regs hF ?_
        refine dvb (gyes_none rfl) (q_int rfl rfl rfl) rfl (by decide) (cok2 trivial trivial) (fun c2 => ?_) (fun c2 => ?_)
        ·
          replace c2 := of_decide_eq_true c2
          refine ⟨_, Wk.refl _ _, ?_⟩
          show awp _ _ _ _ _ _ _
          refine awp_seq ?_
          refine awp_cond_t rfl ?_
          refine awp_skip_wk ?_
          refine ⟨_, Wk.refl _ _, ?_⟩
          show awp _ _ _ _ _ _ _
          refine awp_seq ?_
          refine awp_block ?_
          refine awp_seq ?_
          refine awp_regs hF ?_
          refine dv (gyes_none rfl) (q_index_sl (l := lb) (i := i) Try.underlying28 Try.sizeOf45 (s22.sl hb) rfl rfl (by omega)) rfl (by decide) (cok2 trivial trivial) ?_
          refine dv (gyes_none rfl) (q_load_sl (l := lb) (i := i) Try.isAgg45 (s22.sl hb) rfl (by omega)) rfl (by decide) (cok1 trivial) ?_
          refine dv (gyes_none rfl) (q_as (v := .int .u64 ((nth lb i : Nat) : Int)) rfl) rfl (by decide) (cok1 trivial) ?_
          refine ⟨_, Wk.refl _ _, ?_⟩
          show awp _ _ _ _ _ _ _
          have hps := putB_size (nth lb i) 8
          have hx8 := hw _ (nthS_mem (show i < lb.length by omega))
          refine awp_regs hF ?_
          refine dv (gyes_none rfl) (q_mv (v := .int .u64 ((nth lb i : Nat) : Int)) rfl) rfl (by decide) (cok1 trivial) ?_
          refine dv (gyes_none rfl) (q_call0 Try.call36 rfl (put_ok (nth lb i) 8 (by omega) (by omega) (by omega))) rfl (by decide) (call_ok rfl) ?_
          refine x_call [] hF (by kernel_rfl) (gyes_none rfl) Try.call35 rfl (args := [.pointer (some ⟨b6, 0, none⟩), .string (putB (nth lb i) 8)]) rfl (wstr_e p8 b6 r8 n8 (hi.2.2.2.2.imp (fun h => h.1) id) l8 hi.2.1 (nod2 (s22.nej (i := 1) (j := 0) rfl rfl (by decide))) (s22.getj (j := 1) rfl) (s22.getj (j := 0) rfl) (putB (nth lb i) 8) (by omega)) (show _ < _ by decide) (call_ok rfl) rfl rfl (fun _ _ _ _ hd => by cases hd) ?_
          rintro _ H23 ⟨b24, rfl, hq25, ho26, hn27, h28, h29⟩
          have s30 := s22.turn2 (j9 := 1) (jl := 0) rfl rfl (by decide) hq25 ho26 hn27 h28 h29
          refine ⟨trivial, ?_⟩
          show dList _ _ _ _ _ _ _ _ _ _
          refine ⟨_, Wk.refl _ _, ?_⟩
          show awp _ _ _ _ _ _ _
          refine awp_regs hF ?_
          refine dv (gyes_none rfl) (OpQ.cast (v' := .int .i64 ((i + 1 : Nat) : Int)) (q_int rfl rfl rfl) (congrArg _ ((i64_in (by omega)).trans (by first | rfl | omega | (push_cast; rfl))))) rfl (by decide) (cok2 trivial (cconst rfl)) ?_
          refine dv (gyes_none rfl) (q_mv (v := .int .i64 ((i + 1 : Nat) : Int)) rfl) rfl (by decide) (cok1 trivial) ?_
          have hl9 : l8 ++ (putB (nth lb i) 8).data.toList = bytk 4 (hdG lb lk f sh) ++ bytk 8 (lb.take (i + 1)) := by
            rw [hi.2.2.2.1, List.append_assoc, ← bytk_snoc (show i < lb.length by omega)]
          have hlen9 : (l8 ++ (putB (nth lb i) 8).data.toList).length = n8 + (putB (nth lb i) 8).size := by rw [List.length_append, hi.2.1]; rfl
          have hb9 : n8 + (putB (nth lb i) 8).size ≤ 100000 := by
            have h1 := hlen9
            rw [hl9] at h1
            simp only [List.length_append, bytk_len, List.length_take] at h1
            omega
          refine ⟨_, Wk.U [(1, .pointer (some ⟨b1, 0, none⟩)), (2, .string (⟨#[]⟩ : ByteArray)), (3, .pointer (some ⟨b6, 0, none⟩)), (33, vb), (34, .int .i64 ((lb.length : Nat) : Int)), (35, .int .i64 (((i + 1) : Nat) : Int))] ⟨rfl, rfl, rfl, rfl, rfl, rfl, trivial⟩, ((i + 1), (n8 + (putB (nth lb i) 8).size), (l8 ++ (putB (nth lb i) 8).data.toList), (Value.pointer (some ⟨b6, 0, none⟩))), ⟨_, _, rfl, s30, ⟨by dsimp only; omega, hlen9, by dsimp only; omega, hl9, .inr rfl⟩⟩, (by omega)⟩
        ·
          replace c2 := of_decide_eq_false c2
          refine ⟨_, Wk.refl _ _, ?_⟩
          show awp _ _ _ _ _ _ _
          refine awp_seq ?_
          refine awp_cond_f rfl ?_
          refine awp_exit_wk ?_
          refine ⟨_, Wk.refl _ _, ?_⟩
          show awp _ _ _ _ _ _ _
          refine awp_seq ?_
          refine awp_seq ?_
          have hi4 : l8 = bytk 4 (hdG lb lk f sh) ++ bytk 8 lb := by rw [hi.2.2.2.1, List.take_of_length_le (by omega)]
          have hn8 : n8 = 16 + 8 * lb.length := by rw [← hi.2.1, hi4, List.length_append, bytk_len, bytk_len]; rfl
          refine awp_regs hF ?_
          refine dv (gyes_none rfl) (q_field Try.underlying31 rfl Try.sizeOf29 rfl (s22.rd (j := 2) rfl)) rfl (by decide) (cok1 trivial) ?_
          refine dv (gyes_none rfl) (q_load (v := vk) Try.isAgg29 rfl (s22.rd (j := 2) rfl) rfl) rfl (by decide) (cok1 trivial) ?_
          refine dv (gyes_none rfl) (q_field Try.underlying31 rfl Try.sizeOf29 rfl (s22.rd (j := 2) rfl)) rfl (by decide) (cok1 trivial) ?_
          refine dv (gyes_none rfl) (q_load (v := vc) Try.isAgg29 rfl (s22.rd (j := 2) rfl) rfl) rfl (by decide) (cok1 trivial) ?_
          refine x_new (fun b => .slice (some ⟨b, 0, none⟩) 2 2) s22 (gyes_none rfl) (q_buildSliceL (ds := [vk, vc]) [vk, vc] rfl Try.underlying94 Try.sizeOf29 Try.zeroValue29 rfl (by decide) (by decide) ⟨rfl, rfl, trivial⟩ (lvsC (Sl.lc (s22.sl hk0)).1 (lvsC (Sl.lc (s22.sl hc)).1 lvs0)) (by show fillL (fun i => some (i * 1, 1)) [.slice none 0 0, .slice none 0 0] [(0, vk), (1, vc)] = _; simp only [fillL, Sl.cells (s22.sl hk0), Sl.cells (s22.sl hc)]; rfl) rfl) rfl (by decide) (cok2 trivial trivial) (fun b31 H32 hb34 s33 => ?_)
          refine x_new (fun b => .slice (some ⟨b, 0, none⟩) (lk ++ lc).length (lk ++ lc).length) s33 (gyes_none rfl) (q_call (Δ := [.cells true ((lk ++ lc).map u32v) 1]) Try.call37 rfl (by simp [AObj.wr]) (acalls_fresh u32v_sc (concat_ok b31 _ _ lk lc (s33.sl hk0) (s33.sl hc) (s33.rd (j := 0) rfl) hl2 hl3))) rfl (by decide) (cok2 trivial trivial) (fun b35 H36 hb38 s37 => ?_)
          refine dv (gyes_none rfl) (q_len_slice Try.underlying29 rfl (s37.rd (j := 0) rfl)) rfl (by decide) (cok1 trivial) ?_
          refine dv (gyes_none rfl) (q_mv (v := .int .i64 0) rfl) rfl (by decide) (cok1 (cconst rfl)) ?_
          refine ⟨_, Wk.refl _ _, ?_⟩
          show awp _ _ _ _ _ _ _
          refine awp_block ?_
          refine awp_wk (Wk.U [(1, .pointer (some ⟨b1, 0, none⟩)), (2, .string (⟨#[]⟩ : ByteArray)), (3, .pointer (some ⟨b6, 0, none⟩)), (48, .slice (some ⟨b35, 0, none⟩) ((lk ++ lc).length) ((lk ++ lc).length)), (49, .int .i64 (((lk ++ lc).length : Nat) : Int)), (50, .int .i64 0)] ⟨rfl, rfl, rfl, rfl, rfl, rfl, trivial⟩) ?_
          refine awp_loop (fun ((k, n7, l7, p7) : Nat × Nat × (List UInt8) × Value) st => ∃ (H39 : AHeap) (r7 : Nat), st = ⟨60, U [(1, .pointer (some ⟨b1, 0, none⟩)), (2, .string (⟨#[]⟩ : ByteArray)), (3, .pointer (some ⟨b6, 0, none⟩)), (48, .slice (some ⟨b35, 0, none⟩) ((lk ++ lc).length) ((lk ++ lc).length)), (49, .int .i64 (((lk ++ lc).length : Nat) : Int)), (50, .int .i64 ((k : Nat) : Int))], [], H39⟩ ∧ St H0 (none0) (Rd H0) H39 [(b35, .cells true ((lk ++ lc).map u32v) 1), (b31, .cells true [vk, vc] 1), (r7, .typed 5 (l7.map bytv) 1), (b6, .typed 75 [p7, .slice (some ⟨r7, 0, none⟩) n7 n7] 2), (b1, .cells true [.int .u32 ((f : Nat) : Int), .int .u32 ((sh : Nat) : Int), vb, vk, vc] 5)] ∧ (k ≤ (lk ++ lc).length ∧ l7.length = n7 ∧ (n7 ≤ 100000 ∧ 4 * 0 ≤ n7) ∧ l7 = bytk 4 (hdG lb lk f sh) ++ bytk 8 lb ++ bytk 4 ((lk ++ lc).take k) ∧ ((p7 = .pointer none ∧ n7 = 0) ∨ p7 = .pointer (some ⟨b6, 0, none⟩)))) (fun ((k, n7, l7, p7) : Nat × Nat × (List UInt8) × Value) => (lk ++ lc).length - k) (x0 := (0, n8, l8, p8)) ?h0 ?round
          case h0 =>
            exact ⟨_, _, rfl, s37, ⟨Nat.zero_le _, hi.2.1, by omega, by rw [hi4, List.take_zero]; show _ = _ ++ []; rw [List.append_nil], hi.2.2.2.2⟩⟩
          case round =>
            rintro ⟨k, n7, l7, p7⟩ _ ⟨H39, r7, rfl, s40, hk⟩
            dsimp only at *
            refine awp_seq ?_
            refine awp_regs hF ?_
            refine dvb (gyes_none rfl) (q_int rfl rfl rfl) rfl (by decide) (cok2 trivial trivial) (fun c3 => ?_) (fun c3 => ?_)
            ·
              replace c3 := of_decide_eq_true c3
              refine ⟨_, Wk.refl _ _, ?_⟩
              show awp _ _ _ _ _ _ _
              refine awp_seq ?_
              refine awp_cond_t rfl ?_
              refine awp_skip_wk ?_
              refine ⟨_, Wk.refl _ _, ?_⟩
              show awp _ _ _ _ _ _ _
              refine awp_seq ?_
              refine awp_block ?_
              refine awp_seq ?_
              refine awp_regs hF ?_
              refine dv (gyes_none rfl) (OpQ.cast (v' := .pointer (some ⟨b35, k, none⟩)) (q_index1 (i := k) Try.underlying29 Try.sizeOf27 rfl rfl (by omega) (s40.rd (j := 0) rfl)) (by rw [Nat.zero_add])) rfl (by decide) (cok2 trivial trivial) ?_
              refine dv (gyes_none rfl) (q_load (v := u32v (nth (lk ++ lc) k)) Try.isAgg27 rfl (s40.rd (j := 0) rfl) (get_nth (w := 0) (by omega))) rfl (by decide) (cok1 trivial) ?_
              refine dv (gyes_none rfl) (q_as (v := .int .u32 ((nth (lk ++ lc) k : Nat) : Int)) rfl) rfl (by decide) (cok1 trivial) ?_
              refine ⟨_, Wk.refl _ _, ?_⟩
              show awp _ _ _ _ _ _ _
              have hps := putB_size (nth (lk ++ lc) k) 4
              have hx7 : nth (lk ++ lc) k < 4294967296 := by
                have h9 := nthS_mem (show k < (lk ++ lc).length by omega)
                rcases List.mem_append.1 h9 with h9 | h9
                · exact hkw _ h9
                · exact hcw _ h9
              refine awp_regs hF ?_
              refine dv (gyes_none rfl) (q_mv (v := .int .u32 ((nth (lk ++ lc) k : Nat) : Int)) rfl) rfl (by decide) (cok1 trivial) ?_
              refine dv (gyes_none rfl) (q_convin (a := ((nth (lk ++ lc) k : Nat) : Int)) Try.underlying27 Try.underlying45 rfl (u64_in (by omega))) rfl (by decide) (cok1 trivial) ?_
              refine dv (gyes_none rfl) (q_call0 Try.call36 rfl (put_ok (nth (lk ++ lc) k) 4 (by omega) (by omega) (by omega))) rfl (by decide) (call_ok rfl) ?_
              refine x_call [] hF (by kernel_rfl) (gyes_none rfl) Try.call35 rfl (args := [.pointer (some ⟨b6, 0, none⟩), .string (putB (nth (lk ++ lc) k) 4)]) rfl (wstr_e p7 b6 r7 n7 (hk.2.2.2.2.imp (fun h => h.1) id) l7 hk.2.1 (nod2 (s40.nej (i := 3) (j := 2) rfl rfl (by decide))) (s40.getj (j := 3) rfl) (s40.getj (j := 2) rfl) (putB (nth (lk ++ lc) k) 4) (by omega)) (show _ < _ by decide) (call_ok rfl) rfl rfl (fun _ _ _ _ hd => by cases hd) ?_
              rintro _ H41 ⟨b42, rfl, hq43, ho44, hn45, h46, h47⟩
              have s48 := s40.turn2 (j9 := 3) (jl := 2) rfl rfl (by decide) hq43 ho44 hn45 h46 h47
              refine ⟨trivial, ?_⟩
              show dList _ _ _ _ _ _ _ _ _ _
              refine ⟨_, Wk.refl _ _, ?_⟩
              show awp _ _ _ _ _ _ _
              refine awp_regs hF ?_
              refine dv (gyes_none rfl) (OpQ.cast (v' := .int .i64 ((k + 1 : Nat) : Int)) (q_int rfl rfl rfl) (congrArg _ ((i64_in (by omega)).trans (by first | rfl | omega | (push_cast; rfl))))) rfl (by decide) (cok2 trivial (cconst rfl)) ?_
              refine dv (gyes_none rfl) (q_mv (v := .int .i64 ((k + 1 : Nat) : Int)) rfl) rfl (by decide) (cok1 trivial) ?_
              have hl9 : l7 ++ (putB (nth (lk ++ lc) k) 4).data.toList = bytk 4 (hdG lb lk f sh) ++ bytk 8 lb ++ bytk 4 ((lk ++ lc).take (k + 1)) := by
                rw [hk.2.2.2.1, List.append_assoc, ← bytk_snoc (show k < (lk ++ lc).length by omega)]
              have hlen9 : (l7 ++ (putB (nth (lk ++ lc) k) 4).data.toList).length = n7 + (putB (nth (lk ++ lc) k) 4).size := by rw [List.length_append, hk.2.1]; rfl
              have hb9 : n7 + (putB (nth (lk ++ lc) k) 4).size ≤ 100000 := by
                have h1 := hlen9
                rw [hl9] at h1
                simp only [List.length_append, bytk_len, List.length_take] at h1
                omega
              refine ⟨_, Wk.U [(1, .pointer (some ⟨b1, 0, none⟩)), (2, .string (⟨#[]⟩ : ByteArray)), (3, .pointer (some ⟨b6, 0, none⟩)), (48, .slice (some ⟨b35, 0, none⟩) ((lk ++ lc).length) ((lk ++ lc).length)), (49, .int .i64 (((lk ++ lc).length : Nat) : Int)), (50, .int .i64 (((k + 1) : Nat) : Int))] ⟨rfl, rfl, rfl, rfl, rfl, rfl, trivial⟩, ((k + 1), (n7 + (putB (nth (lk ++ lc) k) 4).size), (l7 ++ (putB (nth (lk ++ lc) k) 4).data.toList), (Value.pointer (some ⟨b6, 0, none⟩))), ⟨_, _, rfl, s48, ⟨by dsimp only; omega, hlen9, by dsimp only; omega, hl9, .inr rfl⟩⟩, (by omega)⟩
            ·
              replace c3 := of_decide_eq_false c3
              refine ⟨_, Wk.refl _ _, ?_⟩
              show awp _ _ _ _ _ _ _
              refine awp_seq ?_
              refine awp_cond_f rfl ?_
              refine awp_exit_wk ?_
              refine ⟨_, Wk.refl _ _, ?_⟩
              show awp _ _ _ _ _ _ _
              refine awp_seq ?_
              have hk4 : l7 = bytk 4 (hdG lb lk f sh) ++ bytk 8 lb ++ bytk 4 (lk ++ lc) := by rw [hk.2.2.2.1, List.take_of_length_le (by omega)]
              have hn7 : n7 = 16 + 8 * lb.length + 4 * (lk ++ lc).length := by rw [← hk.2.1, hk4, List.length_append, List.length_append, bytk_len, bytk_len, bytk_len]; rfl
              have hll7 : (lk ++ lc).length = lk.length + lc.length := List.length_append
              have hpv7 : p7 = .pointer (some ⟨b6, 0, none⟩) := by
                rcases hk.2.2.2.2 with h | h
                · omega
                · exact h
              refine awp_regs hF ?_
              refine x_call [] hF (by kernel_rfl) (gyes_none rfl) Try.call38 rfl (args := [.pointer (some ⟨b6, 0, none⟩)]) rfl (bstr_ok b6 r7 n7 l7 hk.2.1 (by omega) (by omega) (nod2 (s40.nej (i := 3) (j := 2) rfl rfl (by decide))) (hpv7 ▸ s40.getj (j := 3) rfl) (s40.getj (j := 2) rfl)) (show _ < _ by decide) (call_ok rfl) rfl rfl (fun _ _ _ _ hd => by cases hd) ?_
              rintro _ H49 ⟨rfl, hq50, h51, h52⟩
              have s53 := s40.turn2 (j9 := 3) (jl := 2) rfl rfl (by decide) hq50 (.inr (by simp)) (s40.nej (i := 2) (j := 3) rfl rfl (by decide)) h51 h52
              refine ⟨trivial, ?_⟩
              show dList _ _ _ _ _ _ _ _ _ _
              refine dv (gyes_none rfl) (q_as (v := .string ⟨(l7).toArray⟩) rfl) rfl (by decide) (cok1 trivial) ?_
              refine ⟨_, Wk.refl _ _, ?_⟩
              show awp _ _ _ _ _ _ _
              refine awp_ret_wk ?_
              refine ⟨_, Wk.refl _ _, ?_⟩
              repeat (with_reducible first | refine then_ret ?_ | refine blk_ret ?_ | refine then_exit ?_ | refine blk_exit ?_ | refine blk_exit' (by decide) ?_ | refine blk_normal ?_ | refine then_normal ?_ | refine retq_ret ?_ | refine retq_normal ?_ | refine ng_normal ?_ | refine ng_ret ?_ | refine ng_exit ?_)
              exact ret_none (v := .string ⟨(l7).toArray⟩) rfl s53.kp (.tmp rfl .nil) rfl rfl ⟨by show Value.string _ = _; rw [hk4]; rfl, rfl⟩

end Go.Proofs.YtponfeigjmjbmaaA


/-
  A region that draws its order, walked in another order than it is written in.
-/
namespace Go.Proofs.YtponfeigjmjbmaaA
set_option linter.unusedVariables false
open Go Go.RowKit Go.Shelf
def relab (q : List Nat) (o : Oper) : Oper := { o with after := o.after.map fun e => { e with on := q.getD e.on 0 }, guard := o.guard.map fun g => (q.getD g.1 0, g.2) }
/-- The operations in the order p; q tells where each stands then. -/
def reord (p q : List Nat) (l : List Oper) : List Oper := p.map fun i => relab q (l.getD i default)
def permOk (p q : List Nat) (l : List Oper) : Bool := p.length == l.length && q.length == l.length && (List.range l.length).all (fun i => decide (p.getD i 0 < l.length) && decide (q.getD i 0 < l.length) && p.getD (q.getD i 0) 0 == i && q.getD (p.getD i 0) 0 == i) && l.all fun o => o.after.all (fun e => decide (e.on < l.length)) && (match o.guard with | some g => decide (g.1 < l.length) | none => true)
section
variable {F : Fence} {n : Nat} {P : Program} {l : List Oper} {p q : List Nat}
structure PermP (p q : List Nat) (l : List Oper) : Prop where
  pl : p.length = l.length
  ql : q.length = l.length
  pp : ∀ i, i < l.length → p.getD i 0 < l.length
  qq : ∀ i, i < l.length → q.getD i 0 < l.length
  pq : ∀ i, i < l.length → p.getD (q.getD i 0) 0 = i
  qp : ∀ i, i < l.length → q.getD (p.getD i 0) 0 = i
  af : ∀ o ∈ l, ∀ e ∈ o.after.toList, e.on < l.length
  gd : ∀ o ∈ l, ∀ g, o.guard = some g → g.1 < l.length
end
section
variable {F : Fence} {n : Nat} {P : Program} {N0 : AHeap}
end
section
variable {H0 : AHeap} {X : Nat → Prop} {Z : Rs}
theorem St.unmark {E : List (Nat × AObj)} : ∀ (D : List Nat) {H : AHeap}, St H0 X Z H (E ++ marks D) → St H0 X Z (unmark D H) E
  | [], H, h => by rw [show marks [] = [] from rfl, List.append_nil] at h; exact h
  | d :: D, H, h => by
    have h1 : St H0 X Z H ((d, .mark) :: (E ++ marks D)) := h.perm List.perm_middle.symm
    exact St.unmark D ((h1.setAt (j := 0) rfl .none).forget 0)
theorem ret_isDs {P : Program} {N0 H : AHeap} {nt : Nat} {T : Nat → Value} {fn : Func} {Q : Value → AHeap → Prop} {vs : List Value} {v : Value} {s : ASt} {D : List Nat} {E : List (Nat × AObj)} (hs : s = ⟨nt, T, D, H⟩) (hS : St N0 X Z H (E ++ marks D)) (hr : ARes P ⟨nt, T, D, unmark D H⟩ fn.results.toList vs) (hv : retv vs = v) (hQ : Q v (unmark D H)) : Ret P N0 fn Q s := by
  subst hs hv
  exact ⟨hS.marks_nodup, .inl ⟨vs, hr, hQ⟩⟩
end
end Go.Proofs.YtponfeigjmjbmaaA


/-
  Walks of functions of the given program, and what they compute.
-/
namespace Go.Proofs.YtponfeigjmjbmaaA
set_option linter.unusedVariables false
open Go Go.RowKit Go.Shelf Go.Proofs
def numE (w : ByteArray) (sz k : Nat) : List Nat := (List.range k).map fun i => getB (w.extract (i * sz) ((i + 1) * sz))
theorem numE_len (w : ByteArray) (sz k : Nat) : (numE w sz k).length = k := by simp [numE]
theorem numE_succ (w : ByteArray) (sz k : Nat) : numE w sz k ++ [getB (w.extract (k * sz) ((k + 1) * sz))] = numE w sz (k + 1) := by simp [numE, List.range_succ]
theorem partE_size {w : ByteArray} {sz k : Nat} (h : k < w.size / sz) : (w.extract (k * sz) ((k + 1) * sz)).size = sz := by
  have h1 : (k + 1) * sz ≤ w.size / sz * sz := Nat.mul_le_mul_right _ h
  have h2 := Nat.div_mul_le_self w.size sz
  rw [size_extract (by omega), Nat.add_mul, Nat.one_mul]; omega
theorem St.turn1L {H0 : AHeap} {X : Nat → Prop} {Z : Rs} {H H' : AHeap} {F : List (Nat × AObj)} (h : St H0 X Z H F) {j b : Nat} {o o' : AObj} (hj : F[j]? = some (b, o)) (k : Kp (· ∈ [b]) H H') (h' : H'[b]? = some o') (L : List (Nat × AObj)) (hnd : (L.map (·.1)).Nodup) (hl : ∀ p ∈ L, H.length ≤ p.1) (hat : AllAt H' L) : St H0 X Z H' (L ++ F.set j (b, o')) := by
  have m9 : b ∈ F.map (·.1) := List.mem_map.2 ⟨_, List.mem_of_getElem? hj, rfl⟩
  have hlt : ∀ p ∈ F.set j (b, o'), p.1 < H.length := fun p hp => by
    rcases mem_set_cases hp with rfl | ⟨i, hi, hp⟩
    · exact lt_of_some (h.getj hj)
    · exact lt_of_some (h.get _ (List.mem_of_getElem? hp))
  refine h.turn k _ ?_ (fun p hp => ?_) (fun c hc => ?_)
  · rw [List.map_append]
    refine List.nodup_append.2 ⟨hnd, by rw [keys_set hj]; exact h.nd, fun a ha c hc => ?_⟩
    obtain ⟨p, hp, rfl⟩ := List.mem_map.1 ha
    obtain ⟨q, hq, rfl⟩ := List.mem_map.1 hc
    have := hl p hp; have := hlt q hq; omega
  · rcases List.mem_append.1 hp with hp | hp
    · exact .inr ⟨hat.mem p hp, .inl (hl p hp)⟩
    · rcases mem_set_cases hp with rfl | ⟨i, hi, hp⟩
      · exact .inr ⟨h', .inr m9⟩
      · exact .inl ⟨List.mem_of_getElem? hp, fun hm => h.ne hp hj hi (by simpa using hm)⟩
  · have hc : c = b := by simpa using hc
    rw [hc]; exact m9
set_option maxRecDepth 100000 in
set_option maxHeartbeats 4000000 in
theorem body_no {H0 : AHeap} (bt f sh : Nat) (B : ByteArray) (hB : B.size ≤ 140737488355328) (n m : Nat) (hn : 1 ≤ n ∧ n ≤ 256) (hm : 1 ≤ m ∧ m ≤ 256) (h : ¬ 16 + m * 8 + n * 4 ≤ B.size) (hbt : Rd H0 bt [.int .u32 ((f : Nat) : Int), .int .u32 ((sh : Nat) : Int), .slice none 0 0, .slice none 0 0, .slice none 0 0] 5) : ACalls Try.prog 30 [.pointer (some ⟨bt, 0, none⟩), .string B, .int .u64 ((n : Nat) : Int), .int .u64 ((m : Nat) : Int)] H0 (Rets (.tuple #[.int .u64 0, .bool false]) H0) := by
  have hF : Wd Fence.wide := .inl rfl
  have hM : Try.prog.follows .mixedOrders = true := by kernel_rfl
  have s0 := St.begin H0
  refine acalls_st Try.func30 rfl Try.ntmps30 rfl ?_
  refine awp_seq ?_
  refine awp_regs hF ?_
  refine x_new (fun b => .pointer (some ⟨b, 0, none⟩)) s0 (gyes_none rfl) (q_box (v := .pointer (some ⟨bt, 0, none⟩)) (vs := [.pointer (some ⟨bt, 0, none⟩)]) 1 rfl (Rd.live (s0.zrd hbt)) rfl) rfl (by decide) (cok1 trivial) (fun b1 H2 hb4 s3 => ?_)
  refine dv (gyes_none rfl) (q_as (v := .int .u64 0) rfl) rfl (by decide) (cok1 (cconst rfl)) ?_
  refine dv (gyes_none rfl) (q_as (v := .bool false) rfl) rfl (by decide) (cok1 (cconst rfl)) ?_
  refine ⟨_, Wk.refl _ _, ?_⟩
  show awp _ _ _ _ _ _ _
  refine awp_seq ?_
  refine awp_regs hF ?_
  refine dv (gyes_none rfl) (q_mv (v := .string B) rfl) rfl (by decide) (cok1 trivial) ?_
  refine dv (gyes_none rfl) (q_mv (v := .int .u64 ((m : Nat) : Int)) rfl) rfl (by decide) (cok1 trivial) ?_
  refine dv (gyes_none rfl) (OpQ.cast (v' := .int .u64 ((m * 8 : Nat) : Int)) (q_int rfl rfl rfl) (congrArg _ ((u64_in (by omega)).trans (by first | rfl | omega | (push_cast; rfl))))) rfl (by decide) (cok2 trivial (cconst rfl)) ?_
  refine dv (gyes_none rfl) (q_call0 Try.call44 rfl (part_ok B 16 (m * 8) (by first | assumption | omega) (by omega) (by omega))) rfl (by decide) (call_ok rfl) ?_
  refine dv (gyes_none rfl) (q_mv (v := .tuple #[.string (partV B 16 (m * 8)), .bool (decide (16 + m * 8 ≤ B.size))]) rfl) rfl (by decide) (cok1 trivial) ?_
  refine dv (gyes_none rfl) (q_extract (v := .string (partV B 16 (m * 8))) rfl rfl) rfl (by decide) (cok1 trivial) ?_
  refine dvb (gyes_none rfl) (q_extract (v := .bool (decide (16 + m * 8 ≤ B.size))) rfl rfl) rfl (by decide) (cok1 trivial) (fun c1 => ?_) (fun c1 => ?_)
  ·
    replace c1 := of_decide_eq_true c1
    refine dv (gyes_none rfl) (q_as (v := .string (partV B 16 (m * 8))) rfl) rfl (by decide) (cok1 trivial) ?_
    refine dv (gyes_none rfl) (q_as (v := .bool true) rfl) rfl (by decide) (cok1 trivial) ?_
    refine ⟨_, Wk.refl _ _, ?_⟩
    show awp _ _ _ _ _ _ _
    refine awp_seq ?_
    refine awp_regs hF ?_
    refine dv (gyes_none rfl) (q_mv (v := .int .u64 ((m : Nat) : Int)) rfl) rfl (by decide) (cok1 trivial) ?_
    refine dv (gyes_none rfl) (OpQ.cast (v' := .int .u64 ((m * 8 : Nat) : Int)) (q_int rfl rfl rfl) (congrArg _ ((u64_in (by omega)).trans (by first | rfl | omega | (push_cast; rfl))))) rfl (by decide) (cok2 trivial (cconst rfl)) ?_
    refine dv (gyes_none rfl) (OpQ.cast (v' := .int .u64 ((16 + (m * 8) : Nat) : Int)) (q_int rfl rfl rfl) (congrArg _ ((u64_in (by omega)).trans (by first | rfl | omega | (push_cast; rfl))))) rfl (by decide) (cok2 (cconst rfl) trivial) ?_
    refine dv (gyes_none rfl) (q_as (v := .int .u64 ((16 + (m * 8) : Nat) : Int)) rfl) rfl (by decide) (cok1 trivial) ?_
    refine ⟨_, Wk.refl _ _, ?_⟩
    show awp _ _ _ _ _ _ _
    refine awp_seq ?_
    refine awp_regs hF ?_
    refine dv (gyes_none rfl) (q_mv (v := .string B) rfl) rfl (by decide) (cok1 trivial) ?_
    refine dv (gyes_none rfl) (q_mv (v := .int .u64 ((16 + (m * 8) : Nat) : Int)) rfl) rfl (by decide) (cok1 trivial) ?_
    refine dv (gyes_none rfl) (q_mv (v := .int .u64 ((n : Nat) : Int)) rfl) rfl (by decide) (cok1 trivial) ?_
    refine dv (gyes_none rfl) (OpQ.cast (v' := .int .u64 ((n * 4 : Nat) : Int)) (q_int rfl rfl rfl) (congrArg _ ((u64_in (by omega)).trans (by first | rfl | omega | (push_cast; rfl))))) rfl (by decide) (cok2 trivial (cconst rfl)) ?_
    refine dv (gyes_none rfl) (q_call0 Try.call44 rfl (part_ok B (16 + (m * 8)) (n * 4) (by first | assumption | omega) (by omega) (by omega))) rfl (by decide) (call_ok rfl) ?_
    refine dv (gyes_none rfl) (q_mv (v := .tuple #[.string (partV B (16 + (m * 8)) (n * 4)), .bool (decide (16 + (m * 8) + n * 4 ≤ B.size))]) rfl) rfl (by decide) (cok1 trivial) ?_
    refine dv (gyes_none rfl) (q_extract (v := .string (partV B (16 + (m * 8)) (n * 4))) rfl rfl) rfl (by decide) (cok1 trivial) ?_
    refine dvb (gyes_none rfl) (q_extract (v := .bool (decide (16 + (m * 8) + n * 4 ≤ B.size))) rfl rfl) rfl (by decide) (cok1 trivial) (fun c2 => ?_) (fun c2 => ?_)
    ·
      replace c2 := of_decide_eq_true c2
      exfalso; omega
    ·
      replace c2 := of_decide_eq_false c2
      refine dv (gyes_none rfl) (q_as (v := .string (partV B (16 + (m * 8)) (n * 4))) rfl) rfl (by decide) (cok1 trivial) ?_
      refine dv (gyes_none rfl) (q_as (v := .bool false) rfl) rfl (by decide) (cok1 trivial) ?_
      refine ⟨_, Wk.refl _ _, ?_⟩
      show awp _ _ _ _ _ _ _
      refine awp_seq ?_
      refine awp_seq ?_
      refine awp_regs hF ?_
      refine dv (gyes_none rfl) (q_mv (v := .bool true) rfl) rfl (by decide) (cok1 trivial) ?_
      refine dv (gyes_none rfl) (q_not (b := true) rfl) rfl (by decide) (cok1 trivial) ?_
      refine dv (gyes_none rfl) (q_mv (v := .bool false) rfl) rfl (by decide) (cok1 trivial) ?_
      refine dv (gyes_some rfl rfl) (q_mv (v := .bool false) rfl) rfl (by decide) (cok1 trivial) ?_
      refine dv (gyes_some rfl rfl) (q_not (b := false) rfl) rfl (by decide) (cok1 trivial) ?_
      refine dv (gyes_none rfl) (q_pf (v := .bool true) rfl rfl) rfl (by decide) (call_ok rfl) ?_
      refine ⟨_, Wk.refl _ _, ?_⟩
      show awp _ _ _ _ _ _ _
      refine awp_cond_t rfl ?_
      refine awp_seq ?_
      refine awp_regs hF ?_
      refine dv (gyes_none rfl) (q_as (v := .int .u64 0) rfl) rfl (by decide) (cok1 (cconst rfl)) ?_
      refine dv (gyes_none rfl) (q_as (v := .bool false) rfl) rfl (by decide) (cok1 (cconst rfl)) ?_
      refine ⟨_, Wk.refl _ _, ?_⟩
      show awp _ _ _ _ _ _ _
      refine awp_ret_wk ?_
      refine ⟨_, Wk.refl _ _, ?_⟩
      repeat (with_reducible first | refine then_ret ?_ | refine blk_ret ?_ | refine then_exit ?_ | refine blk_exit ?_ | refine blk_exit' (by decide) ?_ | refine blk_normal ?_ | refine then_normal ?_ | refine retq_ret ?_ | refine retq_normal ?_ | refine ng_normal ?_ | refine ng_ret ?_ | refine ng_exit ?_)
      exact ret_none (v := .tuple #[.int .u64 0, .bool false]) rfl s3.kp (.tmp rfl (.tmp rfl .nil)) rfl rfl ⟨rfl, rfl⟩
  ·
    replace c1 := of_decide_eq_false c1
    refine dv (gyes_none rfl) (q_as (v := .string (partV B 16 (m * 8))) rfl) rfl (by decide) (cok1 trivial) ?_
    refine dv (gyes_none rfl) (q_as (v := .bool false) rfl) rfl (by decide) (cok1 trivial) ?_
    refine ⟨_, Wk.refl _ _, ?_⟩
    show awp _ _ _ _ _ _ _
    refine awp_seq ?_
    refine awp_regs hF ?_
    refine dv (gyes_none rfl) (q_mv (v := .int .u64 ((m : Nat) : Int)) rfl) rfl (by decide) (cok1 trivial) ?_
    refine dv (gyes_none rfl) (OpQ.cast (v' := .int .u64 ((m * 8 : Nat) : Int)) (q_int rfl rfl rfl) (congrArg _ ((u64_in (by omega)).trans (by first | rfl | omega | (push_cast; rfl))))) rfl (by decide) (cok2 trivial (cconst rfl)) ?_
    refine dv (gyes_none rfl) (OpQ.cast (v' := .int .u64 ((16 + (m * 8) : Nat) : Int)) (q_int rfl rfl rfl) (congrArg _ ((u64_in (by omega)).trans (by first | rfl | omega | (push_cast; rfl))))) rfl (by decide) (cok2 (cconst rfl) trivial) ?_
    refine dv (gyes_none rfl) (q_as (v := .int .u64 ((16 + (m * 8) : Nat) : Int)) rfl) rfl (by decide) (cok1 trivial) ?_
    refine ⟨_, Wk.refl _ _, ?_⟩
    show awp _ _ _ _ _ _ _
    refine awp_seq ?_
    refine awp_regs hF ?_
    refine dv (gyes_none rfl) (q_mv (v := .string B) rfl) rfl (by decide) (cok1 trivial) ?_
    refine dv (gyes_none rfl) (q_mv (v := .int .u64 ((16 + (m * 8) : Nat) : Int)) rfl) rfl (by decide) (cok1 trivial) ?_
    refine dv (gyes_none rfl) (q_mv (v := .int .u64 ((n : Nat) : Int)) rfl) rfl (by decide) (cok1 trivial) ?_
    refine dv (gyes_none rfl) (OpQ.cast (v' := .int .u64 ((n * 4 : Nat) : Int)) (q_int rfl rfl rfl) (congrArg _ ((u64_in (by omega)).trans (by first | rfl | omega | (push_cast; rfl))))) rfl (by decide) (cok2 trivial (cconst rfl)) ?_
    refine dv (gyes_none rfl) (q_call0 Try.call44 rfl (part_ok B (16 + (m * 8)) (n * 4) (by first | assumption | omega) (by omega) (by omega))) rfl (by decide) (call_ok rfl) ?_
    refine dv (gyes_none rfl) (q_mv (v := .tuple #[.string (partV B (16 + (m * 8)) (n * 4)), .bool (decide (16 + (m * 8) + n * 4 ≤ B.size))]) rfl) rfl (by decide) (cok1 trivial) ?_
    refine dv (gyes_none rfl) (q_extract (v := .string (partV B (16 + (m * 8)) (n * 4))) rfl rfl) rfl (by decide) (cok1 trivial) ?_
    refine dvb (gyes_none rfl) (q_extract (v := .bool (decide (16 + (m * 8) + n * 4 ≤ B.size))) rfl rfl) rfl (by decide) (cok1 trivial) (fun c3 => ?_) (fun c3 => ?_)
    ·
      replace c3 := of_decide_eq_true c3
      refine dv (gyes_none rfl) (q_as (v := .string (partV B (16 + (m * 8)) (n * 4))) rfl) rfl (by decide) (cok1 trivial) ?_
      refine dv (gyes_none rfl) (q_as (v := .bool true) rfl) rfl (by decide) (cok1 trivial) ?_
      refine ⟨_, Wk.refl _ _, ?_⟩
      show awp _ _ _ _ _ _ _
      refine awp_seq ?_
      refine awp_seq ?_
      refine awp_regs hF ?_
      refine dv (gyes_none rfl) (q_mv (v := .bool false) rfl) rfl (by decide) (cok1 trivial) ?_
      refine dv (gyes_none rfl) (q_not (b := false) rfl) rfl (by decide) (cok1 trivial) ?_
      refine dv (gyes_none rfl) (q_mv (v := .bool true) rfl) rfl (by decide) (cok1 trivial) ?_
      refine dno rfl (.inl rfl) rfl (by decide) ?_
      refine dno rfl (.inl rfl) rfl (by decide) ?_
      refine dv (gyes_none rfl) (q_pt (v := .bool true) rfl rfl) rfl (by decide) (call_ok rfl) ?_
      refine ⟨_, Wk.refl _ _, ?_⟩
      show awp _ _ _ _ _ _ _
      refine awp_cond_t rfl ?_
      refine awp_seq ?_
      refine awp_regs hF ?_
      refine dv (gyes_none rfl) (q_as (v := .int .u64 0) rfl) rfl (by decide) (cok1 (cconst rfl)) ?_
      refine dv (gyes_none rfl) (q_as (v := .bool false) rfl) rfl (by decide) (cok1 (cconst rfl)) ?_
      refine ⟨_, Wk.refl _ _, ?_⟩
      show awp _ _ _ _ _ _ _
      refine awp_ret_wk ?_
      refine ⟨_, Wk.refl _ _, ?_⟩
      repeat (with_reducible first | refine then_ret ?_ | refine blk_ret ?_ | refine then_exit ?_ | refine blk_exit ?_ | refine blk_exit' (by decide) ?_ | refine blk_normal ?_ | refine then_normal ?_ | refine retq_ret ?_ | refine retq_normal ?_ | refine ng_normal ?_ | refine ng_ret ?_ | refine ng_exit ?_)
      exact ret_none (v := .tuple #[.int .u64 0, .bool false]) rfl s3.kp (.tmp rfl (.tmp rfl .nil)) rfl rfl ⟨rfl, rfl⟩
    ·
      replace c3 := of_decide_eq_false c3
      refine dv (gyes_none rfl) (q_as (v := .string (partV B (16 + (m * 8)) (n * 4))) rfl) rfl (by decide) (cok1 trivial) ?_
      refine dv (gyes_none rfl) (q_as (v := .bool false) rfl) rfl (by decide) (cok1 trivial) ?_
      refine ⟨_, Wk.refl _ _, ?_⟩
      show awp _ _ _ _ _ _ _
      refine awp_seq ?_
      refine awp_seq ?_
      refine awp_regs hF ?_
      refine dv (gyes_none rfl) (q_mv (v := .bool false) rfl) rfl (by decide) (cok1 trivial) ?_
      refine dv (gyes_none rfl) (q_not (b := false) rfl) rfl (by decide) (cok1 trivial) ?_
      refine dv (gyes_none rfl) (q_mv (v := .bool true) rfl) rfl (by decide) (cok1 trivial) ?_
      refine dno rfl (.inl rfl) rfl (by decide) ?_
      refine dno rfl (.inl rfl) rfl (by decide) ?_
      refine dv (gyes_none rfl) (q_pt (v := .bool true) rfl rfl) rfl (by decide) (call_ok rfl) ?_
      refine ⟨_, Wk.refl _ _, ?_⟩
      show awp _ _ _ _ _ _ _
      refine awp_cond_t rfl ?_
      refine awp_seq ?_
      refine awp_regs hF ?_
      refine dv (gyes_none rfl) (q_as (v := .int .u64 0) rfl) rfl (by decide) (cok1 (cconst rfl)) ?_
      refine dv (gyes_none rfl) (q_as (v := .bool false) rfl) rfl (by decide) (cok1 (cconst rfl)) ?_
      refine ⟨_, Wk.refl _ _, ?_⟩
      show awp _ _ _ _ _ _ _
      refine awp_ret_wk ?_
      refine ⟨_, Wk.refl _ _, ?_⟩
      repeat (with_reducible first | refine then_ret ?_ | refine blk_ret ?_ | refine then_exit ?_ | refine blk_exit ?_ | refine blk_exit' (by decide) ?_ | refine blk_normal ?_ | refine then_normal ?_ | refine retq_ret ?_ | refine retq_normal ?_ | refine ng_normal ?_ | refine ng_ret ?_ | refine ng_exit ?_)
      exact ret_none (v := .tuple #[.int .u64 0, .bool false]) rfl s3.kp (.tmp rfl (.tmp rfl .nil)) rfl rfl ⟨rfl, rfl⟩
set_option maxRecDepth 100000 in
set_option maxHeartbeats 4000000 in
theorem body_yes {H0 : AHeap} (bt f sh : Nat) (B : ByteArray) (hB : B.size ≤ 140737488355328) (n m : Nat) (hn : 1 ≤ n ∧ n ≤ 256) (hm : 1 ≤ m ∧ m ≤ 256) (h : 16 + m * 8 + n * 4 ≤ B.size) (hbt : H0[bt]? = some (.cells true [.int .u32 ((f : Nat) : Int), .int .u32 ((sh : Nat) : Int), .slice none 0 0, .slice none 0 0, .slice none 0 0] 5)) : ACalls Try.prog 30 [.pointer (some ⟨bt, 0, none⟩), .string B, .int .u64 ((n : Nat) : Int), .int .u64 ((m : Nat) : Int)] H0 (fun v H' => v = .tuple #[.int .u64 ((16 + m * 8 + n * 4 : Nat) : Int), .bool true] ∧ Kp (· ∈ [bt]) H0 H' ∧ ∃ b1 b2, H0.length ≤ b1 ∧ H0.length ≤ b2 ∧ b1 ≠ b2 ∧ H'[bt]? = some (.cells true [.int .u32 ((f : Nat) : Int), .int .u32 ((sh : Nat) : Int), .slice (some ⟨b1, 0, none⟩) m m, .slice (some ⟨b2, 0, none⟩) n n, .slice none 0 0] 5) ∧ H'[b1]? = some (.cells true ((numE (partV B 16 (m * 8)) 8 m).map u64v) 1) ∧ H'[b2]? = some (.cells true ((numE (partV B (16 + m * 8) (n * 4)) 4 n).map u32v) 1)) := by
  have hF : Wd Fence.wide := .inl rfl
  have hM : Try.prog.follows .mixedOrders = true := by kernel_rfl
  have s0 : St H0 (· ∈ [bt]) (Off H0 [bt]) H0 [(bt, .cells true [.int .u32 ((f : Nat) : Int), .int .u32 ((sh : Nat) : Int), .slice none 0 0, .slice none 0 0, .slice none 0 0] 5)] := St.beginL [(bt, .cells true [.int .u32 ((f : Nat) : Int), .int .u32 ((sh : Nat) : Int), .slice none 0 0, .slice none 0 0, .slice none 0 0] 5)] (by simp) (allAt_mem ⟨hbt, trivial⟩)
  refine acalls_st Try.func30 rfl Try.ntmps30 rfl ?_
  refine awp_seq ?_
  refine awp_regs hF ?_
  refine x_new (fun b => .pointer (some ⟨b, 0, none⟩)) s0 (gyes_none rfl) (q_box (v := .pointer (some ⟨bt, 0, none⟩)) (vs := [.pointer (some ⟨bt, 0, none⟩)]) 1 rfl (s0.live (j := 0) rfl) rfl) rfl (by decide) (cok1 trivial) (fun b1 H2 hb4 s3 => ?_)
  refine dv (gyes_none rfl) (q_as (v := .int .u64 0) rfl) rfl (by decide) (cok1 (cconst rfl)) ?_
  refine dv (gyes_none rfl) (q_as (v := .bool false) rfl) rfl (by decide) (cok1 (cconst rfl)) ?_
  refine ⟨_, Wk.refl _ _, ?_⟩
  show awp _ _ _ _ _ _ _
  refine awp_seq ?_
  refine awp_regs hF ?_
  refine dv (gyes_none rfl) (q_mv (v := .string B) rfl) rfl (by decide) (cok1 trivial) ?_
  refine dv (gyes_none rfl) (q_mv (v := .int .u64 ((m : Nat) : Int)) rfl) rfl (by decide) (cok1 trivial) ?_
  refine dv (gyes_none rfl) (OpQ.cast (v' := .int .u64 ((m * 8 : Nat) : Int)) (q_int rfl rfl rfl) (congrArg _ ((u64_in (by omega)).trans (by first | rfl | omega | (push_cast; rfl))))) rfl (by decide) (cok2 trivial (cconst rfl)) ?_
  refine dv (gyes_none rfl) (q_call0 Try.call44 rfl (part_ok B 16 (m * 8) (by first | assumption | omega) (by omega) (by omega))) rfl (by decide) (call_ok rfl) ?_
  refine dv (gyes_none rfl) (q_mv (v := .tuple #[.string (partV B 16 (m * 8)), .bool (decide (16 + m * 8 ≤ B.size))]) rfl) rfl (by decide) (cok1 trivial) ?_
  refine dv (gyes_none rfl) (q_extract (v := .string (partV B 16 (m * 8))) rfl rfl) rfl (by decide) (cok1 trivial) ?_
  refine dvb (gyes_none rfl) (q_extract (v := .bool (decide (16 + m * 8 ≤ B.size))) rfl rfl) rfl (by decide) (cok1 trivial) (fun c1 => ?_) (fun c1 => ?_)
  ·
    replace c1 := of_decide_eq_true c1
    refine dv (gyes_none rfl) (q_as (v := .string (partV B 16 (m * 8))) rfl) rfl (by decide) (cok1 trivial) ?_
    refine dv (gyes_none rfl) (q_as (v := .bool true) rfl) rfl (by decide) (cok1 trivial) ?_
    refine ⟨_, Wk.refl _ _, ?_⟩
    show awp _ _ _ _ _ _ _
    refine awp_seq ?_
    refine awp_regs hF ?_
    refine dv (gyes_none rfl) (q_mv (v := .int .u64 ((m : Nat) : Int)) rfl) rfl (by decide) (cok1 trivial) ?_
    refine dv (gyes_none rfl) (OpQ.cast (v' := .int .u64 ((m * 8 : Nat) : Int)) (q_int rfl rfl rfl) (congrArg _ ((u64_in (by omega)).trans (by first | rfl | omega | (push_cast; rfl))))) rfl (by decide) (cok2 trivial (cconst rfl)) ?_
    refine dv (gyes_none rfl) (OpQ.cast (v' := .int .u64 ((16 + (m * 8) : Nat) : Int)) (q_int rfl rfl rfl) (congrArg _ ((u64_in (by omega)).trans (by first | rfl | omega | (push_cast; rfl))))) rfl (by decide) (cok2 (cconst rfl) trivial) ?_
    refine dv (gyes_none rfl) (q_as (v := .int .u64 ((16 + (m * 8) : Nat) : Int)) rfl) rfl (by decide) (cok1 trivial) ?_
    refine ⟨_, Wk.refl _ _, ?_⟩
    show awp _ _ _ _ _ _ _
    refine awp_seq ?_
    refine awp_regs hF ?_
    refine dv (gyes_none rfl) (q_mv (v := .string B) rfl) rfl (by decide) (cok1 trivial) ?_
    refine dv (gyes_none rfl) (q_mv (v := .int .u64 ((16 + (m * 8) : Nat) : Int)) rfl) rfl (by decide) (cok1 trivial) ?_
    refine dv (gyes_none rfl) (q_mv (v := .int .u64 ((n : Nat) : Int)) rfl) rfl (by decide) (cok1 trivial) ?_
    refine dv (gyes_none rfl) (OpQ.cast (v' := .int .u64 ((n * 4 : Nat) : Int)) (q_int rfl rfl rfl) (congrArg _ ((u64_in (by omega)).trans (by first | rfl | omega | (push_cast; rfl))))) rfl (by decide) (cok2 trivial (cconst rfl)) ?_
    refine dv (gyes_none rfl) (q_call0 Try.call44 rfl (part_ok B (16 + (m * 8)) (n * 4) (by first | assumption | omega) (by omega) (by omega))) rfl (by decide) (call_ok rfl) ?_
    refine dv (gyes_none rfl) (q_mv (v := .tuple #[.string (partV B (16 + (m * 8)) (n * 4)), .bool (decide (16 + (m * 8) + n * 4 ≤ B.size))]) rfl) rfl (by decide) (cok1 trivial) ?_
    refine dv (gyes_none rfl) (q_extract (v := .string (partV B (16 + (m * 8)) (n * 4))) rfl rfl) rfl (by decide) (cok1 trivial) ?_
    refine dvb (gyes_none rfl) (q_extract (v := .bool (decide (16 + (m * 8) + n * 4 ≤ B.size))) rfl rfl) rfl (by decide) (cok1 trivial) (fun c2 => ?_) (fun c2 => ?_)
    ·
      replace c2 := of_decide_eq_true c2
      refine dv (gyes_none rfl) (q_as (v := .string (partV B (16 + (m * 8)) (n * 4))) rfl) rfl (by decide) (cok1 trivial) ?_
      refine dv (gyes_none rfl) (q_as (v := .bool true) rfl) rfl (by decide) (cok1 trivial) ?_
      refine ⟨_, Wk.refl _ _, ?_⟩
      show awp _ _ _ _ _ _ _
      refine awp_seq ?_
      refine awp_seq ?_
      refine awp_regs hF ?_
      refine dv (gyes_none rfl) (q_mv (v := .bool true) rfl) rfl (by decide) (cok1 trivial) ?_
      refine dv (gyes_none rfl) (q_not (b := true) rfl) rfl (by decide) (cok1 trivial) ?_
      refine dv (gyes_none rfl) (q_mv (v := .bool false) rfl) rfl (by decide) (cok1 trivial) ?_
      refine dv (gyes_some rfl rfl) (q_mv (v := .bool true) rfl) rfl (by decide) (cok1 trivial) ?_
      refine dv (gyes_some rfl rfl) (q_not (b := true) rfl) rfl (by decide) (cok1 trivial) ?_
      refine dv (gyes_none rfl) (q_pf (v := .bool false) rfl rfl) rfl (by decide) (call_ok rfl) ?_
      refine ⟨_, Wk.refl _ _, ?_⟩
      show awp _ _ _ _ _ _ _
      refine awp_cond_f rfl ?_
      refine awp_skip_wk ?_
      refine ⟨_, Wk.refl _ _, ?_⟩
      show awp _ _ _ _ _ _ _
      refine awp_seq ?_
      refine awp_seq ?_
      have hw1 : (partV B 16 (m * 8)).size = m * 8 := by rw [partV_in (by omega), size_extract (by omega)]; omega
      have hw2 : (partV B (16 + m * 8) (n * 4)).size = n * 4 := by rw [partV_in (by omega), size_extract (by omega)]; omega
      refine awp_nilc s3 (j := 1) (o := 2) (sz' := 1) rfl rfl (fun b8 H5 hb7 s6 => ?_)
      refine awp_regs hF ?_
      refine dv (gyes_none rfl) (q_mv (v := .string (partV B 16 (m * 8))) rfl) rfl (by decide) (cok1 trivial) ?_
      refine x_call [] hF (by kernel_rfl) (gyes_none rfl) Try.call45 rfl (args := [.string (partV B 16 (m * 8)), .int .i64 8]) rfl (each_ok (partV B 16 (m * 8)) 8) (show _ < _ by decide) (call_ok rfl) rfl rfl (fun _ _ _ _ hd => by cases hd) ?_
      rintro _ H11 ⟨b9, b10, rfl, hn12⟩
      have s13 := s6.callL hn12
      refine ⟨trivial, ?_⟩
      show dList _ _ _ _ _ _ _ _ _ _
      refine ⟨_, Wk.refl _ _, ?_⟩
      show awp _ _ _ _ _ _ _
      refine awp_block ?_
      refine range_st s13 rfl Try.call54 (fun fn14 lp15 d16 l17 H18 hlp19 hd20 s21 => ?_)
      refine (each1_ok (H0 := H18) (partV B 16 (m * 8)) 8 (by decide) (by decide) (by omega) _ b9 b10 (nod2 (s21.nej (i := 2) (j := 3) rfl rfl (by decide))) (fun (k : Nat) (H22 : AHeap) => ∃ (bn : Nat), St H0 ((· ∈ [bt])) (Off H0 [bt]) H22 [(l17, lp15 .ready none), (d16, .mark), (b9, .cells true [.int .i64 8] 1), (b10, .cells true [.string (partV B 16 (m * 8))] 1), (bn, .cells true ((numE (partV B 16 (m * 8)) 8 k).map u64v) 1), (b1, .cells true [.pointer (some ⟨bt, 0, none⟩)] 1), (bt, .cells true [.int .u32 ((f : Nat) : Int), .int .u32 ((sh : Nat) : Int), .slice (some ⟨bn, 0, none⟩) k k, .slice none 0 0, .slice none 0 0] 5)]) (fun _ _ => False) ?h00 ?hb ?round).mono ?after
      case h00 => exact ⟨_, s21⟩
      case hb =>
        rintro k H22 ⟨bn, s23⟩
        exact ⟨s23.getj (j := 2) rfl, s23.getj (j := 3) rfl⟩
      case round =>
        rintro k H22  ⟨bn, s23⟩ hx
        have hp2 := partE_size (sz := 8) hx
        have hg2 : getB ((partV B 16 (m * 8)).extract (k * 8) ((k + 1) * 8)) < 256 ^ 8 := getB_lt (Nat.le_of_eq hp2)
        refine ylds_roundB hlp19 (s23.getj (j := 0) rfl) rfl rfl (fun l24 hF => ?_)
        refine awp_regs hF ?_
        refine dv (gyes_none rfl) (q_as (v := .string ((partV B 16 (m * 8)).extract (k * 8) ((k + 1) * 8))) rfl) rfl (by decide) (cok1 trivial) ?_
        refine ⟨_, Wk.refl _ _, ?_⟩
        refine then_normal ?_
        refine ⟨_, _, rfl, s23.getj (j := 0) rfl, ?body⟩
        case body =>
          have s25 := s23.setAt (j := 0) rfl (lp15 .busy none)
          show awp _ _ _ _ _ _ _
          refine awp_block ?_
          refine awp_regt hF hM (by kernel_rfl) (by kernel_rfl) ?_
          refine dv (gyes_none rfl) (q_load (v := .pointer (some ⟨bt, 0, none⟩)) Try.isAgg88 rfl (s25.rd (j := 5) rfl) rfl) rfl (by decide) (cok1 trivial) ?_
          refine dv (gyes_none rfl) (q_load (v := .pointer (some ⟨bt, 0, none⟩)) Try.isAgg88 rfl (s25.rd (j := 5) rfl) rfl) rfl (by decide) (cok1 trivial) ?_
          refine dv (gyes_none rfl) (q_nilCheck rfl (s25.live (j := 6) rfl)) rfl (by decide) (cok1 trivial) ?_
          refine dv (gyes_none rfl) (q_field Try.underlying31 rfl Try.sizeOf28 rfl (s25.rd (j := 6) rfl)) rfl (by decide) (cok1 trivial) ?_
          refine dv (gyes_none rfl) (q_load (v := .slice (some ⟨bn, 0, none⟩) k k) Try.isAgg28 rfl (s25.rd (j := 6) rfl) rfl) rfl (by decide) (cok1 trivial) ?_
          refine dv (gyes_none rfl) (q_mv (v := .string ((partV B 16 (m * 8)).extract (k * 8) ((k + 1) * 8))) rfl) rfl (by decide) (cok1 trivial) ?_
          refine dv (gyes_none rfl) (q_call0 Try.call46 rfl (get_ok ((partV B 16 (m * 8)).extract (k * 8) ((k + 1) * 8)) (by omega))) rfl (by decide) (cok2 trivial trivial) ?_
          refine x_new (fun b => .slice (some ⟨b, 0, none⟩) 1 1) s25 (gyes_none rfl) (q_buildSliceL (ds := [.int .u64 ((getB ((partV B 16 (m * 8)).extract (k * 8) ((k + 1) * 8)) : Nat) : Int)]) [.int .u64 ((getB ((partV B 16 (m * 8)).extract (k * 8) ((k + 1) * 8)) : Nat) : Int)] rfl Try.underlying28 Try.sizeOf45 Try.zeroValue45 rfl (by decide) (by decide) ⟨rfl, trivial⟩ (lvsC (by exact trivial) lvs0) rfl rfl) rfl (by decide) (cok1 trivial) (fun b26 H27 hb29 s28 => ?_)
          refine x_append (l := [(getB ((partV B 16 (m * 8)).extract (k * 8) ((k + 1) * 8)))]) (f := u64v) [0] hF s28 (by kernel_rfl) (j := 5) (k + 1) rfl (gyes_none rfl) Try.underlying28 Try.underlying28 Try.type45 rfl rfl (by decide) rfl rfl rfl rfl (s28.slj (l := [(getB ((partV B 16 (m * 8)).extract (k * 8) ((k + 1) * 8)))]) (f := u64v) (j := 0) rfl rfl (Nat.le_refl _)) (fun x => lc_scalar rfl) (by rw [List.length_map, numE_len, Nat.zero_add]) (by show (2 * (k + 1) + 1000) * 8 ≤ _; omega) trivial trivial (by decide) rfl rfl (vs' := (numE (partV B 16 (m * 8)) 8 (k + 1)).map u64v) (by rw [← numE_succ, List.map_append]; rfl) (fun b30 H31 hb33 s32 => ⟨?_, ?_⟩)
          · exact ⟨pend_yes rfl (gyes_none rfl) (q_load (v := .pointer (some ⟨bt, 0, none⟩)) Try.isAgg88 rfl (s32.rd (j := 6) rfl) rfl) rfl (by decide) (cok1 trivial) rfl, trivial⟩
          refine dv (gyes_none rfl) (q_nilCheck rfl (s32.live (j := 7) rfl)) rfl (by decide) (cok1 trivial) ?_
          refine dv (gyes_none rfl) (q_field Try.underlying31 rfl Try.sizeOf28 rfl (s32.rd (j := 7) rfl)) rfl (by decide) (cok1 trivial) ?_
          refine x_store1 [] hF s32 (by kernel_rfl) (gyes_none rfl) (j := 7) (v := .slice (some ⟨b30, 0, none⟩) (k + 1) (k + 1)) rfl Try.sizeOf28 rfl rfl rfl (lc_slice (s32.live (j := 5) rfl)) (Nat.le_of_ble_eq_true rfl) trivial trivial rfl rfl (F' := [(b26, .cells true [.int .u64 ((getB ((partV B 16 (m * 8)).extract (k * 8) ((k + 1) * 8)) : Nat) : Int)] 1), (l17, lp15 .busy none), (d16, .mark), (b9, .cells true [.int .i64 8] 1), (b10, .cells true [.string (partV B 16 (m * 8))] 1), (b30, .cells true ((numE (partV B 16 (m * 8)) 8 (k + 1)).map u64v) 1), (b1, .cells true [.pointer (some ⟨bt, 0, none⟩)] 1), (bt, .cells true [.int .u32 ((f : Nat) : Int), .int .u32 ((sh : Nat) : Int), .slice (some ⟨b30, 0, none⟩) (k + 1) (k + 1), .slice none 0 0, .slice none 0 0] 5)]) rfl (fun H34 s35 => ⟨?_, ?_⟩)
          · exact trivial
          refine ⟨_, Wk.refl _ _, ?_⟩
          repeat (with_reducible first | refine then_ret ?_ | refine blk_ret ?_ | refine then_exit ?_ | refine blk_exit ?_ | refine blk_exit' (by decide) ?_ | refine blk_normal ?_ | refine then_normal ?_ | refine retq_ret ?_ | refine retq_normal ?_ | refine ng_normal ?_ | refine ng_ret ?_ | refine ng_exit ?_)
          exact ⟨(s35.forget 0).getj (j := 0) rfl, (fun _ => ⟨_, ((s35.forget 0).setAt (j := 0) rfl (lp15 .ready none))⟩), (fun h => nomatch h)⟩
      case after =>
        rintro v H' ⟨rfl, hpost⟩
        replace hpost := hpost.resolve_right (fun ⟨_, _, h⟩ => h)
        obtain ⟨bn, s36⟩ := hpost
        generalize hkkk : (partV B 16 (m * 8)).size / 8 = k at *
        refine ⟨(by
            intro e he
            rcases List.mem_cons.1 he with rfl | he
            · exact s36.getj (j := 1) rfl
            · cases he), .inl ⟨s36.getj (j := 0) rfl, ?_⟩⟩
        have s38 := (s36.setAt (j := 0) rfl .none).forget 0
        refine ⟨_, Wk.refl _ _, ?_⟩
        show awp _ _ _ _ _ _ _
        refine awp_seq ?_
        refine awp_seq ?_
        have s39 : St _ _ _ _ ([(b9, .cells true [.int .i64 8] 1), (b10, .cells true [.string (partV B 16 (m * 8))] 1), (bn, .cells true ((numE (partV B 16 (m * 8)) 8 k).map u64v) 1), (b1, .cells true [.pointer (some ⟨bt, 0, none⟩)] 1), (bt, .cells true [.int .u32 ((f : Nat) : Int), .int .u32 ((sh : Nat) : Int), .slice (some ⟨bn, 0, none⟩) k k, .slice none 0 0, .slice none 0 0] 5)] ++ marks [d16]) := s38.perm (List.perm_append_comm (l₁ := [_])).symm
        refine awp_nilc s39 (j := 4) (o := 3) (sz' := 1) rfl rfl (fun b43 H40 hb42 s41 => ?_)
        have s44 : St _ _ _ _ ([(b43, .cells true [] 1), (b9, .cells true [.int .i64 8] 1), (b10, .cells true [.string (partV B 16 (m * 8))] 1), (bn, .cells true ((numE (partV B 16 (m * 8)) 8 k).map u64v) 1), (b1, .cells true [.pointer (some ⟨bt, 0, none⟩)] 1), (bt, .cells true [.int .u32 ((f : Nat) : Int), .int .u32 ((sh : Nat) : Int), .slice (some ⟨bn, 0, none⟩) k k, .slice (some ⟨b43, 0, none⟩) 0 0, .slice none 0 0] 5)] ++ marks [d16]) := s41
        refine awp_regs hF ?_
        refine dv (gyes_none rfl) (q_mv (v := .string (partV B (16 + (m * 8)) (n * 4))) rfl) rfl (by decide) (cok1 trivial) ?_
        refine x_call [] hF (by kernel_rfl) (gyes_none rfl) Try.call45 rfl (args := [.string (partV B (16 + (m * 8)) (n * 4)), .int .i64 4]) rfl (each_ok (partV B (16 + (m * 8)) (n * 4)) 4) (show _ < _ by decide) (call_ok rfl) rfl rfl (by
            rintro _ _ ⟨_, _, rfl, hn⟩ d hd
            rw [(hn.1).get d (lt_of_some (s44.marks_at d hd)) (fun h => h)]; exact s44.marks_at d hd) ?_
        rintro _ H47 ⟨b45, b46, rfl, hn48⟩
        have s49 := s44.callL hn48
        refine ⟨trivial, ?_⟩
        show dList _ _ _ _ _ _ _ _ _ _
        refine ⟨_, Wk.refl _ _, ?_⟩
        show awp _ _ _ _ _ _ _
        refine awp_block ?_
        refine range_st s49 rfl Try.call54 (fun fn50 lp51 d52 l53 H54 hlp55 hd56 s57 => ?_)
        refine (each1_ok (H0 := H54) (partV B (16 + m * 8) (n * 4)) 4 (by decide) (by decide) (by omega) _ b45 b46 (nod2 (s57.nej (i := 2) (j := 3) rfl rfl (by decide))) (fun (q : Nat) (H58 : AHeap) => ∃ (bq : Nat), St H0 ((· ∈ [bt])) (Off H0 [bt]) H58 ([(l53, lp51 .ready none), (d52, .mark), (b45, .cells true [.int .i64 4] 1), (b46, .cells true [.string (partV B (16 + (m * 8)) (n * 4))] 1), (bq, .cells true ((numE (partV B (16 + m * 8) (n * 4)) 4 q).map u32v) 1), (b9, .cells true [.int .i64 8] 1), (b10, .cells true [.string (partV B 16 (m * 8))] 1), (bn, .cells true ((numE (partV B 16 (m * 8)) 8 k).map u64v) 1), (b1, .cells true [.pointer (some ⟨bt, 0, none⟩)] 1), (bt, .cells true [.int .u32 ((f : Nat) : Int), .int .u32 ((sh : Nat) : Int), .slice (some ⟨bn, 0, none⟩) k k, .slice (some ⟨bq, 0, none⟩) q q, .slice none 0 0] 5)] ++ marks [d16])) (fun _ _ => False) ?h00 ?hb ?round).mono ?after
        case h00 => exact ⟨_, s57⟩
        case hb =>
          rintro q H58 ⟨bq, s59⟩
          exact ⟨s59.getj (j := 2) rfl, s59.getj (j := 3) rfl⟩
        case round =>
          rintro q H58  ⟨bq, s59⟩ hx
          have hp2 := partE_size (sz := 4) hx
          have hg2 : getB ((partV B (16 + m * 8) (n * 4)).extract (q * 4) ((q + 1) * 4)) < 256 ^ 4 := getB_lt (Nat.le_of_eq hp2)
          refine ylds_roundB hlp55 (s59.getj (j := 0) rfl) rfl rfl (fun l60 hF => ?_)
          refine awp_regs hF ?_
          refine dv (gyes_none rfl) (q_as (v := .string ((partV B (16 + m * 8) (n * 4)).extract (q * 4) ((q + 1) * 4))) rfl) rfl (by decide) (cok1 trivial) ?_
          refine ⟨_, Wk.refl _ _, ?_⟩
          refine then_normal ?_
          refine ⟨_, _, rfl, s59.getj (j := 0) rfl, ?body⟩
          case body =>
            have s61 := s59.setAt (j := 0) rfl (lp51 .busy none)
            show awp _ _ _ _ _ _ _
            refine awp_block ?_
            refine awp_regt hF hM (by kernel_rfl) (by kernel_rfl) ?_
            refine dv (gyes_none rfl) (q_load (v := .pointer (some ⟨bt, 0, none⟩)) Try.isAgg88 rfl (s61.rd (j := 8) rfl) rfl) rfl (by decide) (cok1 trivial) ?_
            refine dv (gyes_none rfl) (q_load (v := .pointer (some ⟨bt, 0, none⟩)) Try.isAgg88 rfl (s61.rd (j := 8) rfl) rfl) rfl (by decide) (cok1 trivial) ?_
            refine dv (gyes_none rfl) (q_nilCheck rfl (s61.live (j := 9) rfl)) rfl (by decide) (cok1 trivial) ?_
            refine dv (gyes_none rfl) (q_field Try.underlying31 rfl Try.sizeOf29 rfl (s61.rd (j := 9) rfl)) rfl (by decide) (cok1 trivial) ?_
            refine dv (gyes_none rfl) (q_load (v := .slice (some ⟨bq, 0, none⟩) q q) Try.isAgg29 rfl (s61.rd (j := 9) rfl) rfl) rfl (by decide) (cok1 trivial) ?_
            refine dv (gyes_none rfl) (q_mv (v := .string ((partV B (16 + m * 8) (n * 4)).extract (q * 4) ((q + 1) * 4))) rfl) rfl (by decide) (cok1 trivial) ?_
            refine dv (gyes_none rfl) (q_call0 Try.call46 rfl (get_ok ((partV B (16 + m * 8) (n * 4)).extract (q * 4) ((q + 1) * 4)) (by omega))) rfl (by decide) (cok2 trivial trivial) ?_
            refine dv (gyes_none rfl) (q_convin (a := ((getB ((partV B (16 + m * 8) (n * 4)).extract (q * 4) ((q + 1) * 4)) : Nat) : Int)) Try.underlying45 Try.underlying27 rfl (u32_in (by omega))) rfl (by decide) (cok1 trivial) ?_
            refine x_new (fun b => .slice (some ⟨b, 0, none⟩) 1 1) s61 (gyes_none rfl) (q_buildSliceL (ds := [.int .u32 ((getB ((partV B (16 + m * 8) (n * 4)).extract (q * 4) ((q + 1) * 4)) : Nat) : Int)]) [.int .u32 ((getB ((partV B (16 + m * 8) (n * 4)).extract (q * 4) ((q + 1) * 4)) : Nat) : Int)] rfl Try.underlying29 Try.sizeOf27 Try.zeroValue27 rfl (by decide) (by decide) ⟨rfl, trivial⟩ (lvsC (by exact trivial) lvs0) rfl rfl) rfl (by decide) (cok1 trivial) (fun b62 H63 hb65 s64 => ?_)
            refine x_append (l := [(getB ((partV B (16 + m * 8) (n * 4)).extract (q * 4) ((q + 1) * 4)))]) (f := u32v) [0] hF s64 (by kernel_rfl) (j := 5) (q + 1) rfl (gyes_none rfl) Try.underlying29 Try.underlying29 Try.type27 rfl rfl (by decide) rfl rfl rfl rfl (s64.slj (l := [(getB ((partV B (16 + m * 8) (n * 4)).extract (q * 4) ((q + 1) * 4)))]) (f := u32v) (j := 0) rfl rfl (Nat.le_refl _)) (fun x => lc_scalar rfl) (by rw [List.length_map, numE_len, Nat.zero_add]) (by show (2 * (q + 1) + 1000) * 4 ≤ _; omega) trivial trivial (by decide) rfl rfl (vs' := (numE (partV B (16 + m * 8) (n * 4)) 4 (q + 1)).map u32v) (by rw [← numE_succ, List.map_append]; rfl) (fun b66 H67 hb69 s68 => ⟨?_, ?_⟩)
            · exact ⟨pend_yes rfl (gyes_none rfl) (q_load (v := .pointer (some ⟨bt, 0, none⟩)) Try.isAgg88 rfl (s68.rd (j := 9) rfl) rfl) rfl (by decide) (cok1 trivial) rfl, trivial⟩
            refine dv (gyes_none rfl) (q_nilCheck rfl (s68.live (j := 10) rfl)) rfl (by decide) (cok1 trivial) ?_
            refine dv (gyes_none rfl) (q_field Try.underlying31 rfl Try.sizeOf29 rfl (s68.rd (j := 10) rfl)) rfl (by decide) (cok1 trivial) ?_
            refine x_store1 [] hF s68 (by kernel_rfl) (gyes_none rfl) (j := 10) (v := .slice (some ⟨b66, 0, none⟩) (q + 1) (q + 1)) rfl Try.sizeOf29 rfl rfl rfl (lc_slice (s68.live (j := 5) rfl)) (Nat.le_of_ble_eq_true rfl) trivial trivial rfl rfl (F' := ([(b62, .cells true [.int .u32 ((getB ((partV B (16 + m * 8) (n * 4)).extract (q * 4) ((q + 1) * 4)) : Nat) : Int)] 1), (l53, lp51 .busy none), (d52, .mark), (b45, .cells true [.int .i64 4] 1), (b46, .cells true [.string (partV B (16 + (m * 8)) (n * 4))] 1), (b66, .cells true ((numE (partV B (16 + m * 8) (n * 4)) 4 (q + 1)).map u32v) 1), (b9, .cells true [.int .i64 8] 1), (b10, .cells true [.string (partV B 16 (m * 8))] 1), (bn, .cells true ((numE (partV B 16 (m * 8)) 8 k).map u64v) 1), (b1, .cells true [.pointer (some ⟨bt, 0, none⟩)] 1), (bt, .cells true [.int .u32 ((f : Nat) : Int), .int .u32 ((sh : Nat) : Int), .slice (some ⟨bn, 0, none⟩) k k, .slice (some ⟨b66, 0, none⟩) (q + 1) (q + 1), .slice none 0 0] 5)] ++ marks [d16])) rfl (fun H70 s71 => ⟨?_, ?_⟩)
            · exact trivial
            refine ⟨_, Wk.refl _ _, ?_⟩
            repeat (with_reducible first | refine then_ret ?_ | refine blk_ret ?_ | refine then_exit ?_ | refine blk_exit ?_ | refine blk_exit' (by decide) ?_ | refine blk_normal ?_ | refine then_normal ?_ | refine retq_ret ?_ | refine retq_normal ?_ | refine ng_normal ?_ | refine ng_ret ?_ | refine ng_exit ?_)
            exact ⟨(s71.forget 0).getj (j := 0) rfl, (fun _ => ⟨_, ((s71.forget 0).setAt (j := 0) rfl (lp51 .ready none))⟩), (fun h => nomatch h)⟩
        case after =>
          rintro v H' ⟨rfl, hpost⟩
          replace hpost := hpost.resolve_right (fun ⟨_, _, h⟩ => h)
          obtain ⟨bq, s72⟩ := hpost
          generalize hkkq : (partV B (16 + m * 8) (n * 4)).size / 4 = q at *
          refine ⟨(by
              intro e he
              rcases List.mem_cons.1 he with rfl | he
              · exact s72.getj (j := 1) rfl
              · exact ((s72.forget 0).mark1).marks_at e (List.mem_cons_of_mem _ he)), .inl ⟨s72.getj (j := 0) rfl, ?_⟩⟩
          have s74 := (s72.setAt (j := 0) rfl .none).forget 0
          have s74 := s74.mark1
          refine ⟨_, Wk.refl _ _, ?_⟩
          show awp _ _ _ _ _ _ _
          refine awp_seq ?_
          refine awp_regs hF ?_
          refine dv (gyes_none rfl) (q_mv (v := .int .u64 ((16 + (m * 8) : Nat) : Int)) rfl) rfl (by decide) (cok1 trivial) ?_
          refine dv (gyes_none rfl) (q_mv (v := .int .u64 ((n : Nat) : Int)) rfl) rfl (by decide) (cok1 trivial) ?_
          refine dv (gyes_none rfl) (OpQ.cast (v' := .int .u64 ((n * 4 : Nat) : Int)) (q_int rfl rfl rfl) (congrArg _ ((u64_in (by omega)).trans (by first | rfl | omega | (push_cast; rfl))))) rfl (by decide) (cok2 trivial (cconst rfl)) ?_
          refine dv (gyes_none rfl) (OpQ.cast (v' := .int .u64 ((16 + (m * 8) + (n * 4) : Nat) : Int)) (q_int rfl rfl rfl) (congrArg _ ((u64_in (by omega)).trans (by first | rfl | omega | (push_cast; rfl))))) rfl (by decide) (cok2 trivial trivial) ?_
          refine dv (gyes_none rfl) (q_as (v := .int .u64 ((16 + (m * 8) + (n * 4) : Nat) : Int)) rfl) rfl (by decide) (cok1 trivial) ?_
          refine dv (gyes_none rfl) (q_as (v := .bool true) rfl) rfl (by decide) (cok1 (cconst rfl)) ?_
          refine ⟨_, Wk.refl _ _, ?_⟩
          show awp _ _ _ _ _ _ _
          refine awp_ret_wk ?_
          obtain rfl : k = m := by omega
          obtain rfl : q = n := by omega
          have s75 := St.unmark _ s74
          refine ⟨_, Wk.refl _ _, ?_⟩
          repeat (with_reducible first | refine then_ret ?_ | refine blk_ret ?_ | refine then_exit ?_ | refine blk_exit ?_ | refine blk_exit' (by decide) ?_ | refine blk_normal ?_ | refine then_normal ?_ | refine retq_ret ?_ | refine retq_normal ?_ | refine ng_normal ?_ | refine ng_ret ?_ | refine ng_exit ?_)
          refine ret_isDs rfl s74 (.tmp rfl (.tmp rfl .nil)) rfl ?_
          exact ⟨rfl, s75.kp, _, _, (s75.own _ (List.mem_of_getElem? (i := 5) rfl)).resolve_right (nin1 (s75.nej (i := 5) (j := 7) rfl rfl (by decide))), (s75.own _ (List.mem_of_getElem? (i := 2) rfl)).resolve_right (nin1 (s75.nej (i := 2) (j := 7) rfl rfl (by decide))), s75.nej (i := 5) (j := 2) rfl rfl (by decide), s75.getj (j := 7) rfl, s75.getj (j := 5) rfl, s75.getj (j := 2) rfl⟩
    ·
      replace c2 := of_decide_eq_false c2
      exfalso; omega
  ·
    replace c1 := of_decide_eq_false c1
    exfalso; omega

end Go.Proofs.YtponfeigjmjbmaaA


/-
  Walks of functions of the given program, and what they compute.
-/
namespace Go.Proofs.YtponfeigjmjbmaaA
set_option linter.unusedVariables false
open Go Go.RowKit Go.Shelf Go.Proofs
def maxL (l : List Nat) : Nat := l.foldl max 0
theorem maxL_succ {l : List Nat} {i : Nat} (h : i < l.length) : max (maxL (l.take i)) (nth l i) = maxL (l.take (i + 1)) := by
  rw [List.take_succ_eq_append_getElem h, maxL, maxL, List.foldl_append, nth_eq h]; rfl
def chStop (B : ByteArray) (f last a j : Nat) : Bool := decide (256 ≤ f + j ∨ B.size < a + 4 * j + 4 ∨ (last ≤ f + j ∧ atV B (a + 4 * j) 4 % 2 = 1))
def chJ (B : ByteArray) (f last a : Nat) : Nat := firstK (chStop B f last a) 257
def chC (B : ByteArray) (f last a : Nat) : Nat := if 256 ≤ f + chJ B f last a then 6 else if B.size < a + 4 * chJ B f last a + 4 then 2 else 0
def chL (B : ByteArray) (a k : Nat) : List Nat := (List.range k).map fun j => atV B (a + 4 * j) 4
theorem chL_len (B : ByteArray) (a k : Nat) : (chL B a k).length = k := by simp [chL]
theorem chL_succ (B : ByteArray) (a k : Nat) : chL B a k ++ [atV B (a + 4 * k) 4] = chL B a (k + 1) := by simp [chL, List.range_succ]
theorem atV_lt4 (B : ByteArray) (i : Nat) : atV B i 4 < 4294967296 := atV_lt B i 4
theorem chJ_of {B : ByteArray} {f last a j : Nat} (h1 : chStop B f last a j = true) (hj : j < 257) (hn : ∀ i, i < j → chStop B f last a i = false) : chJ B f last a = j := firstK_yes hj h1 hn
theorem lt_succ_casesN {p : Nat → Prop} {i : Nat} (h : ∀ j, j < i → p j) (hi : p i) : ∀ j, j < i + 1 → p j := fun j hj => by
  by_cases e : j = i
  · subst e; exact hi
  · exact h j (by omega)
set_option maxRecDepth 100000 in
set_option maxHeartbeats 4000000 in
theorem max_ok {H0 : AHeap} (v : Value) (l : List Nat) (hl : Sl u32v H0 v l) (h0 : 0 < l.length) (hn : l.length ≤ 1000000) : ACalls Try.prog 47 [v] H0 (Rets (.int .u32 ((maxL l : Nat) : Int)) H0) := by
  have hF : Wd Fence.wide := .inl rfl
  have hM : Try.prog.follows .mixedOrders = true := by kernel_rfl
  have s0 := St.begin H0
  refine acalls_st Try.func47 rfl Try.ntmps47 rfl ?_
  refine awp_seq ?_
  refine awp_regs hF ?_
  refine dv (gyes_none rfl) (q_as (v := .int .u32 0) rfl) rfl (by decide) (cok1 (cconst rfl)) ?_
  refine ⟨_, Wk.refl _ _, ?_⟩
  show awp _ _ _ _ _ _ _
  refine awp_seq ?_
  refine awp_seq ?_
  refine awp_regs hF ?_
  refine dv (gyes_none rfl) (q_mv (v := v) rfl) rfl (by decide) (cok1 trivial) ?_
  refine dv (gyes_none rfl) (q_len_sl (l := l) Try.underlying29 (s0.sl hl) rfl) rfl (by decide) (cok1 trivial) ?_
  refine dv (gyes_none rfl) (OpQ.cast (v' := .bool false) (q_int rfl rfl rfl) (congrArg Value.bool (decide_eq_false (by omega)))) rfl (by decide) (cok2 trivial (cconst rfl)) ?_
  refine ⟨_, Wk.refl _ _, ?_⟩
  show awp _ _ _ _ _ _ _
  refine awp_cond_f rfl ?_
  refine awp_skip_wk ?_
  refine ⟨_, Wk.refl _ _, ?_⟩
  show awp _ _ _ _ _ _ _
  refine awp_seq ?_
  refine awp_regs hF ?_
  refine dv (gyes_none rfl) (q_mv (v := v) rfl) rfl (by decide) (cok1 trivial) ?_
  refine dv (gyes_none rfl) (q_index_sl (l := l) (i := 0) Try.underlying29 Try.sizeOf27 (s0.sl hl) rfl rfl (by omega)) rfl (by decide) (cok2 trivial (cconst rfl)) ?_
  refine dv (gyes_none rfl) (q_load_sl (l := l) (i := 0) Try.isAgg27 (s0.sl hl) rfl (by omega)) rfl (by decide) (cok1 trivial) ?_
  refine dv (gyes_none rfl) (q_as (v := .int .u32 ((nth l 0 : Nat) : Int)) rfl) rfl (by decide) (cok1 trivial) ?_
  refine ⟨_, Wk.refl _ _, ?_⟩
  show awp _ _ _ _ _ _ _
  refine awp_seq ?_
  refine awp_seq ?_
  refine awp_regs hF ?_
  refine dv (gyes_none rfl) (q_as (v := .int .i64 1) rfl) rfl (by decide) (cok1 (cconst rfl)) ?_
  refine ⟨_, Wk.refl _ _, ?_⟩
  show awp _ _ _ _ _ _ _
  refine awp_block ?_
  refine awp_wk (Wk.U [(0, v), (3, .int .u32 (((nth l 0) : Nat) : Int)), (4, .int .i64 1)] ⟨rfl, rfl, rfl, trivial⟩) ?_
  refine awp_loop (fun ((i, m) : Nat × Nat) st => ∃ (H1 : AHeap), st = ⟨25, U [(0, v), (3, .int .u32 ((m : Nat) : Int)), (4, .int .i64 ((i : Nat) : Int))], [], H1⟩ ∧ St H0 (none0) (Rd H0) H1 [] ∧ (1 ≤ i ∧ i ≤ l.length ∧ m = maxL (l.take i))) (fun ((i, m) : Nat × Nat) => l.length - i) (x0 := (1, (nth l 0))) ?h0 ?round
  case h0 =>
    exact ⟨_, rfl, s0, ⟨Nat.le_refl _, h0, by rw [show (1 : Nat) = 0 + 1 from rfl, ← maxL_succ h0]; show _ = max 0 _; omega⟩⟩
  case round =>
    rintro ⟨i, m⟩ _ ⟨H1, rfl, s2, hm⟩
    dsimp only at *
    refine awp_seq ?_
    refine awp_seq ?_
    refine awp_regs hF ?_
    refine dv (gyes_none rfl) (q_mv (v := .int .i64 ((i : Nat) : Int)) rfl) rfl (by decide) (cok1 trivial) ?_
    refine dv (gyes_none rfl) (q_mv (v := v) rfl) rfl (by decide) (cok1 trivial) ?_
    refine dv (gyes_none rfl) (q_len_sl (l := l) Try.underlying29 (s2.sl hl) rfl) rfl (by decide) (cok1 trivial) ?_
    refine dvb (gyes_none rfl) (q_int rfl rfl rfl) rfl (by decide) (cok2 trivial trivial) (fun c1 => ?_) (fun c1 => ?_)
    ·
      replace c1 := of_decide_eq_true c1
      refine ⟨_, Wk.refl _ _, ?_⟩
      show awp _ _ _ _ _ _ _
      refine awp_cond_t rfl ?_
      refine awp_skip_wk ?_
      refine ⟨_, Wk.refl _ _, ?_⟩
      show awp _ _ _ _ _ _ _
      refine awp_seq ?_
      refine awp_block ?_
      refine awp_regs hF ?_
      refine dv (gyes_none rfl) (q_mv (v := .int .u32 ((m : Nat) : Int)) rfl) rfl (by decide) (cok1 trivial) ?_
      refine dv (gyes_none rfl) (q_mv (v := v) rfl) rfl (by decide) (cok1 trivial) ?_
      refine dv (gyes_none rfl) (q_mv (v := .int .i64 ((i : Nat) : Int)) rfl) rfl (by decide) (cok1 trivial) ?_
      refine dv (gyes_none rfl) (q_index_sl (l := l) (i := i) Try.underlying29 Try.sizeOf27 (s2.sl hl) rfl rfl (by omega)) rfl (by decide) (cok2 trivial trivial) ?_
      refine dv (gyes_none rfl) (q_load_sl (l := l) (i := i) Try.isAgg27 (s2.sl hl) rfl (by omega)) rfl (by decide) (cok1 trivial) ?_
      refine dv (gyes_none rfl) (OpQ.cast (v' := .int .u32 ((max m (nth l i) : Nat) : Int)) (q_max rfl rfl) (by congr 1; split <;> omega)) rfl (by decide) (cok2 trivial trivial) ?_
      refine dv (gyes_none rfl) (q_as (v := .int .u32 ((max m (nth l i) : Nat) : Int)) rfl) rfl (by decide) (cok1 trivial) ?_
      refine ⟨_, Wk.refl _ _, ?_⟩
      show awp _ _ _ _ _ _ _
      refine awp_regs hF ?_
      refine dv (gyes_none rfl) (q_mv (v := .int .i64 ((i : Nat) : Int)) rfl) rfl (by decide) (cok1 trivial) ?_
      refine dv (gyes_none rfl) (OpQ.cast (v' := .int .i64 ((i + 1 : Nat) : Int)) (q_int rfl rfl rfl) (congrArg _ ((i64_in (by omega)).trans (by first | rfl | omega | (push_cast; rfl))))) rfl (by decide) (cok2 trivial (cconst rfl)) ?_
      refine dv (gyes_none rfl) (q_as (v := .int .i64 ((i + 1 : Nat) : Int)) rfl) rfl (by decide) (cok1 trivial) ?_
      refine ⟨_, Wk.U [(0, v), (3, .int .u32 (((max m (nth l i)) : Nat) : Int)), (4, .int .i64 (((i + 1) : Nat) : Int))] ⟨rfl, rfl, rfl, trivial⟩, ((i + 1), (max m (nth l i))), ⟨_, rfl, s2, ⟨by dsimp only; omega, by dsimp only; omega, by dsimp only; rw [hm.2.2]; exact maxL_succ (by omega)⟩⟩, (by omega)⟩
    ·
      replace c1 := of_decide_eq_false c1
      refine ⟨_, Wk.refl _ _, ?_⟩
      show awp _ _ _ _ _ _ _
      refine awp_cond_f rfl ?_
      refine awp_exit_wk ?_
      refine ⟨_, Wk.refl _ _, ?_⟩
      show awp _ _ _ _ _ _ _
      refine awp_seq ?_
      refine awp_regs hF ?_
      refine dv (gyes_none rfl) (q_mv (v := .int .u32 ((m : Nat) : Int)) rfl) rfl (by decide) (cok1 trivial) ?_
      refine dv (gyes_none rfl) (q_as (v := .int .u32 ((m : Nat) : Int)) rfl) rfl (by decide) (cok1 trivial) ?_
      refine ⟨_, Wk.refl _ _, ?_⟩
      show awp _ _ _ _ _ _ _
      refine awp_ret_wk ?_
      refine ⟨_, Wk.refl _ _, ?_⟩
      repeat (with_reducible first | refine then_ret ?_ | refine blk_ret ?_ | refine then_exit ?_ | refine blk_exit ?_ | refine blk_exit' (by decide) ?_ | refine blk_normal ?_ | refine then_normal ?_ | refine retq_ret ?_ | refine retq_normal ?_ | refine ng_normal ?_ | refine ng_ret ?_ | refine ng_exit ?_)
      exact ret_none (v := .int .u32 ((m : Nat) : Int)) rfl s2.kp (.tmp rfl .nil) rfl rfl ⟨by rw [hm.2.2, List.take_of_length_le (by omega)], rfl⟩
set_option maxRecDepth 100000 in
set_option maxHeartbeats 4000000 in
theorem chains_zero {H0 : AHeap} (bt f sh : Nat) (vb vk : Value) (lb lk : List Nat) (B : ByteArray) (a : Nat) (hB : B.size ≤ 140737488355328) (ha : a ≤ 100000) (hf : f ≤ 256) (hk0 : 0 < lk.length) (hkl : lk.length ≤ 1000) (hVB : SlZ u64v (Off H0 [bt]) vb lb) (hVK : SlZ u32v (Off H0 [bt]) vk lk) (hkw : ∀ x ∈ lk, x < 4294967296) (hbt : H0[bt]? = some (.cells true [.int .u32 ((f : Nat) : Int), .int .u32 ((sh : Nat) : Int), vb, vk, .slice none 0 0] 5)) (hz : maxL lk = 0) : ACalls Try.prog 32 [.pointer (some ⟨bt, 0, none⟩), .string B, .int .u64 ((a : Nat) : Int)] H0 (fun v H' => v = .int .i64 0 ∧ Kp (· ∈ [bt]) H0 H' ∧ H'[bt]? = some (.cells true [.int .u32 ((f : Nat) : Int), .int .u32 ((sh : Nat) : Int), vb, vk, .slice none 0 0] 5)) := by
  have hF : Wd Fence.wide := .inl rfl
  have hM : Try.prog.follows .mixedOrders = true := by kernel_rfl
  have s0 : St H0 (· ∈ [bt]) (Off H0 [bt]) H0 [(bt, .cells true [.int .u32 ((f : Nat) : Int), .int .u32 ((sh : Nat) : Int), vb, vk, .slice none 0 0] 5)] := St.beginL [(bt, .cells true [.int .u32 ((f : Nat) : Int), .int .u32 ((sh : Nat) : Int), vb, vk, .slice none 0 0] 5)] (by simp) (allAt_mem ⟨hbt, trivial⟩)
  refine acalls_st Try.func32 rfl Try.ntmps32 rfl ?_
  refine awp_seq ?_
  refine awp_regs hF ?_
  refine dv (gyes_none rfl) (q_as (v := .int .i64 0) rfl) rfl (by decide) (cok1 (cconst rfl)) ?_
  refine ⟨_, Wk.refl _ _, ?_⟩
  show awp _ _ _ _ _ _ _
  refine awp_seq ?_
  refine awp_regs hF ?_
  refine dv (gyes_none rfl) (q_mv (v := .pointer (some ⟨bt, 0, none⟩)) rfl) rfl (by decide) (cok1 trivial) ?_
  refine dv (gyes_none rfl) (q_nilCheck rfl (s0.live (j := 0) rfl)) rfl (by decide) (cok1 trivial) ?_
  refine dv (gyes_none rfl) (q_field Try.underlying31 rfl Try.sizeOf29 rfl (s0.rd (j := 0) rfl)) rfl (by decide) (cok1 trivial) ?_
  refine dv (gyes_none rfl) (q_load (v := vk) Try.isAgg29 rfl (s0.rd (j := 0) rfl) rfl) rfl (by decide) (cok1 trivial) ?_
  refine dv (gyes_none rfl) (q_call0 Try.call47 rfl (max_ok _ lk (s0.sl hVK) hk0 (by omega))) rfl (by decide) (cok2 trivial trivial) ?_
  refine dv (gyes_none rfl) (q_as (v := .int .u32 ((maxL lk : Nat) : Int)) rfl) rfl (by decide) (cok1 trivial) ?_
  refine ⟨_, Wk.refl _ _, ?_⟩
  show awp _ _ _ _ _ _ _
  refine awp_seq ?_
  refine awp_seq ?_
  refine awp_regs hF ?_
  refine dv (gyes_none rfl) (q_mv (v := .int .u32 ((maxL lk : Nat) : Int)) rfl) rfl (by decide) (cok1 trivial) ?_
  refine dv (gyes_none rfl) (OpQ.cast (v' := .bool true) (q_int rfl rfl rfl) (congrArg Value.bool (beq_iff_eq.2 (by rw [hz]; rfl)))) rfl (by decide) (cok2 trivial (cconst rfl)) ?_
  refine ⟨_, Wk.refl _ _, ?_⟩
  show awp _ _ _ _ _ _ _
  refine awp_cond_t rfl ?_
  refine awp_seq ?_
  refine awp_regs hF ?_
  refine dv (gyes_none rfl) (q_as (v := .int .i64 0) rfl) rfl (by decide) (cok1 (cconst rfl)) ?_
  refine ⟨_, Wk.refl _ _, ?_⟩
  show awp _ _ _ _ _ _ _
  refine awp_ret_wk ?_
  refine ⟨_, Wk.refl _ _, ?_⟩
  repeat (with_reducible first | refine then_ret ?_ | refine blk_ret ?_ | refine then_exit ?_ | refine blk_exit ?_ | refine blk_exit' (by decide) ?_ | refine blk_normal ?_ | refine then_normal ?_ | refine retq_ret ?_ | refine retq_normal ?_ | refine ng_normal ?_ | refine ng_ret ?_ | refine ng_exit ?_)
  refine ret_is (v := .int .i64 0) rfl (.tmp rfl .nil) rfl ?_
  exact ⟨rfl, s0.kp, s0.getj (j := 0) rfl⟩
set_option maxRecDepth 100000 in
set_option maxHeartbeats 4000000 in
theorem chains_ok {H0 : AHeap} (bt f sh : Nat) (vb vk : Value) (lb lk : List Nat) (B : ByteArray) (a : Nat) (hB : B.size ≤ 140737488355328) (ha : a ≤ 100000) (hf : f ≤ 256) (hk0 : 0 < lk.length) (hkl : lk.length ≤ 1000) (hVB : SlZ u64v (Off H0 [bt]) vb lb) (hVK : SlZ u32v (Off H0 [bt]) vk lk) (hkw : ∀ x ∈ lk, x < 4294967296) (hbt : H0[bt]? = some (.cells true [.int .u32 ((f : Nat) : Int), .int .u32 ((sh : Nat) : Int), vb, vk, .slice none 0 0] 5)) (hz : ¬ maxL lk = 0) (hmx : maxL lk < 4294967296) : ACalls Try.prog 32 [.pointer (some ⟨bt, 0, none⟩), .string B, .int .u64 ((a : Nat) : Int)] H0 (fun v H' => v = .int .i64 ((chC B f (maxL lk) a : Nat) : Int) ∧ Kp (· ∈ [bt]) H0 H' ∧ ∃ b3 k, H0.length ≤ b3 ∧ H'[bt]? = some (.cells true [.int .u32 ((f : Nat) : Int), .int .u32 ((sh : Nat) : Int), vb, vk, .slice (some ⟨b3, 0, none⟩) k k] 5) ∧ H'[b3]? = some (.cells true ((chL B a k).map u32v) 1) ∧ (chC B f (maxL lk) a = 0 → k = chJ B f (maxL lk) a + 1)) := by
  have hF : Wd Fence.wide := .inl rfl
  have hM : Try.prog.follows .mixedOrders = true := by kernel_rfl
  have s0 : St H0 (· ∈ [bt]) (Off H0 [bt]) H0 [(bt, .cells true [.int .u32 ((f : Nat) : Int), .int .u32 ((sh : Nat) : Int), vb, vk, .slice none 0 0] 5)] := St.beginL [(bt, .cells true [.int .u32 ((f : Nat) : Int), .int .u32 ((sh : Nat) : Int), vb, vk, .slice none 0 0] 5)] (by simp) (allAt_mem ⟨hbt, trivial⟩)
  refine acalls_st Try.func32 rfl Try.ntmps32 rfl ?_
  refine awp_seq ?_
  refine awp_regs hF ?_
  refine dv (gyes_none rfl) (q_as (v := .int .i64 0) rfl) rfl (by decide) (cok1 (cconst rfl)) ?_
  refine ⟨_, Wk.refl _ _, ?_⟩
  show awp _ _ _ _ _ _ _
  refine awp_seq ?_
  refine awp_regs hF ?_
  refine dv (gyes_none rfl) (q_mv (v := .pointer (some ⟨bt, 0, none⟩)) rfl) rfl (by decide) (cok1 trivial) ?_
  refine dv (gyes_none rfl) (q_nilCheck rfl (s0.live (j := 0) rfl)) rfl (by decide) (cok1 trivial) ?_
  refine dv (gyes_none rfl) (q_field Try.underlying31 rfl Try.sizeOf29 rfl (s0.rd (j := 0) rfl)) rfl (by decide) (cok1 trivial) ?_
  refine dv (gyes_none rfl) (q_load (v := vk) Try.isAgg29 rfl (s0.rd (j := 0) rfl) rfl) rfl (by decide) (cok1 trivial) ?_
  refine dv (gyes_none rfl) (q_call0 Try.call47 rfl (max_ok _ lk (s0.sl hVK) hk0 (by omega))) rfl (by decide) (cok2 trivial trivial) ?_
  refine dv (gyes_none rfl) (q_as (v := .int .u32 ((maxL lk : Nat) : Int)) rfl) rfl (by decide) (cok1 trivial) ?_
  refine ⟨_, Wk.refl _ _, ?_⟩
  show awp _ _ _ _ _ _ _
  refine awp_seq ?_
  refine awp_seq ?_
  refine awp_regs hF ?_
  refine dv (gyes_none rfl) (q_mv (v := .int .u32 ((maxL lk : Nat) : Int)) rfl) rfl (by decide) (cok1 trivial) ?_
  refine dv (gyes_none rfl) (OpQ.cast (v' := .bool false) (q_int rfl rfl rfl) (congrArg Value.bool (beq_eq_false_iff_ne.2 (by omega)))) rfl (by decide) (cok2 trivial (cconst rfl)) ?_
  refine ⟨_, Wk.refl _ _, ?_⟩
  show awp _ _ _ _ _ _ _
  refine awp_cond_f rfl ?_
  refine awp_skip_wk ?_
  refine ⟨_, Wk.refl _ _, ?_⟩
  show awp _ _ _ _ _ _ _
  refine awp_seq ?_
  refine awp_regs hF ?_
  refine dv (gyes_none rfl) (q_mv (v := .pointer (some ⟨bt, 0, none⟩)) rfl) rfl (by decide) (cok1 trivial) ?_
  refine dv (gyes_none rfl) (q_nilCheck rfl (s0.live (j := 0) rfl)) rfl (by decide) (cok1 trivial) ?_
  refine dv (gyes_none rfl) (q_field Try.underlying31 rfl Try.sizeOf27 rfl (s0.rd (j := 0) rfl)) rfl (by decide) (cok1 trivial) ?_
  refine dv (gyes_none rfl) (q_load (v := .int .u32 ((f : Nat) : Int)) Try.isAgg27 rfl (s0.rd (j := 0) rfl) rfl) rfl (by decide) (cok1 trivial) ?_
  refine dv (gyes_none rfl) (q_as (v := .int .u32 ((f : Nat) : Int)) rfl) rfl (by decide) (cok1 trivial) ?_
  refine ⟨_, Wk.refl _ _, ?_⟩
  show awp _ _ _ _ _ _ _
  refine awp_block ?_
  refine awp_nilc s0 (j := 0) (o := 4) (sz' := 1) rfl rfl (fun b1 H2 hb4 s3 => ?_)
  refine awp_wk (Wk.U [(0, .pointer (some ⟨bt, 0, none⟩)), (1, .string B), (2, .int .u64 ((a : Nat) : Int)), (7, .int .u32 ((maxL lk : Nat) : Int)), (8, .int .u32 ((f + 0 : Nat) : Int))] ⟨rfl, rfl, rfl, rfl, rfl, trivial⟩) ?_
  refine awp_loop (fun (j : Nat) st => ∃ (H5 : AHeap) (b3 : Nat), st = ⟨62, U [(0, .pointer (some ⟨bt, 0, none⟩)), (1, .string B), (2, .int .u64 ((a : Nat) : Int)), (7, .int .u32 ((maxL lk : Nat) : Int)), (8, .int .u32 ((f + j : Nat) : Int))], [], H5⟩ ∧ St H0 ((· ∈ [bt])) (Off H0 [bt]) H5 [(b3, .cells true ((chL B a j).map u32v) 1), (bt, .cells true [.int .u32 ((f : Nat) : Int), .int .u32 ((sh : Nat) : Int), vb, vk, .slice (some ⟨b3, 0, none⟩) j j] 5)] ∧ (f + j ≤ 256 ∧ ∀ i, i < j → chStop B f (maxL lk) a i = false)) (fun (j : Nat) => 257 - j) (x0 := (0)) ?h0 ?round
  case h0 =>
    exact ⟨_, _, rfl, s3, ⟨by omega, fun i h => absurd h (Nat.not_lt_zero _)⟩⟩
  case round =>
    rintro j _ ⟨H5, b3, rfl, s6, hj⟩
    have h4 := atV_lt4 B (a + 4 * j)
    refine awp_seq ?_
    refine awp_block ?_
    refine awp_seq ?_
    refine awp_seq ?_
    refine awp_regs hF ?_
    refine dv (gyes_none rfl) (q_mv (v := .int .u32 ((f + j : Nat) : Int)) rfl) rfl (by decide) (cok1 trivial) ?_
    refine dvb (gyes_none rfl) (q_int rfl rfl rfl) rfl (by decide) (cok2 trivial (cconst rfl)) (fun c1 => ?_) (fun c1 => ?_)
    ·
      replace c1 := of_decide_eq_true c1
      refine ⟨_, Wk.refl _ _, ?_⟩
      show awp _ _ _ _ _ _ _
      refine awp_cond_t rfl ?_
      refine awp_seq ?_
      refine awp_regs hF ?_
      refine dv (gyes_none rfl) (q_as (v := .int .i64 6) rfl) rfl (by decide) (cok1 (cconst rfl)) ?_
      refine ⟨_, Wk.refl _ _, ?_⟩
      show awp _ _ _ _ _ _ _
      refine awp_ret_wk ?_
      have hJ : chJ B f (maxL lk) a = j := chJ_of (decide_eq_true (.inl (by omega))) (by omega) hj.2
      have hC : chC B f (maxL lk) a = 6 := by unfold chC; rw [hJ, if_pos (by omega)]
      refine ⟨_, Wk.refl _ _, ?_⟩
      repeat (with_reducible first | refine then_ret ?_ | refine blk_ret ?_ | refine then_exit ?_ | refine blk_exit ?_ | refine blk_exit' (by decide) ?_ | refine blk_normal ?_ | refine then_normal ?_ | refine retq_ret ?_ | refine retq_normal ?_ | refine ng_normal ?_ | refine ng_ret ?_ | refine ng_exit ?_)
      refine ret_is (v := .int .i64 6) rfl (.tmp rfl .nil) rfl ?_
      exact ⟨by rw [hC]; rfl, s6.kp, _, _, (s6.own _ (List.mem_of_getElem? (i := 0) rfl)).resolve_right (nin1 (s6.nej (i := 0) (j := 1) rfl rfl (by decide))), s6.getj (j := 1) rfl, s6.getj (j := 0) rfl, (fun h => by rw [hC] at h; exact nomatch h)⟩
    ·
      replace c1 := of_decide_eq_false c1
      refine ⟨_, Wk.refl _ _, ?_⟩
      show awp _ _ _ _ _ _ _
      refine awp_cond_f rfl ?_
      refine awp_skip_wk ?_
      refine ⟨_, Wk.refl _ _, ?_⟩
      show awp _ _ _ _ _ _ _
      refine awp_seq ?_
      refine awp_regs hF ?_
      refine dv (gyes_none rfl) (q_mv (v := .string B) rfl) rfl (by decide) (cok1 trivial) ?_
      refine dv (gyes_none rfl) (q_mv (v := .int .u64 ((a : Nat) : Int)) rfl) rfl (by decide) (cok1 trivial) ?_
      refine dv (gyes_none rfl) (q_mv (v := .int .u32 ((f + j : Nat) : Int)) rfl) rfl (by decide) (cok1 trivial) ?_
      refine dv (gyes_none rfl) (q_mv (v := .pointer (some ⟨bt, 0, none⟩)) rfl) rfl (by decide) (cok1 trivial) ?_
      refine dv (gyes_none rfl) (q_nilCheck rfl (s6.live (j := 1) rfl)) rfl (by decide) (cok1 trivial) ?_
      refine dv (gyes_none rfl) (q_field Try.underlying31 rfl Try.sizeOf27 rfl (s6.rd (j := 1) rfl)) rfl (by decide) (cok1 trivial) ?_
      refine dv (gyes_none rfl) (q_load (v := .int .u32 ((f : Nat) : Int)) Try.isAgg27 rfl (s6.rd (j := 1) rfl) rfl) rfl (by decide) (cok1 trivial) ?_
      refine dv (gyes_none rfl) (OpQ.cast (v' := .int .u32 (((f + j) - f : Nat) : Int)) (q_int rfl rfl rfl) (congrArg _ ((u32_in (by omega)).trans (by omega)))) rfl (by decide) (cok2 trivial trivial) ?_
      refine dv (gyes_none rfl) (q_convin (a := (((f + j) - f : Nat) : Int)) Try.underlying27 Try.underlying45 rfl (u64_in (by omega))) rfl (by decide) (cok1 trivial) ?_
      refine dv (gyes_none rfl) (OpQ.cast (v' := .int .u64 ((((f + j) - f) * 4 : Nat) : Int)) (q_int rfl rfl rfl) (congrArg _ ((u64_in (by omega)).trans (by first | rfl | omega | (push_cast; rfl))))) rfl (by decide) (cok2 trivial (cconst rfl)) ?_
      refine dv (gyes_none rfl) (OpQ.cast (v' := .int .u64 ((a + (((f + j) - f) * 4) : Nat) : Int)) (q_int rfl rfl rfl) (congrArg _ ((u64_in (by omega)).trans (by first | rfl | omega | (push_cast; rfl))))) rfl (by decide) (cok2 trivial trivial) ?_
      refine dv (gyes_none rfl) (q_call0 Try.call43 rfl (ACalls.castV (v' := .tuple #[.int .u64 ((atV B (a + 4 * j) 4 : Nat) : Int), .bool (decide (a + 4 * j + 4 ≤ B.size))]) (at_ok B (a + (((f + j) - f) * 4)) 4 hB (by omega) (by omega) (by omega)) (by rw [show a + (((f + j) - f) * 4) = a + 4 * j by omega]))) rfl (by decide) (call_ok rfl) ?_
      refine dv (gyes_none rfl) (q_mv (v := .tuple #[.int .u64 ((atV B (a + 4 * j) 4 : Nat) : Int), .bool (decide (a + 4 * j + 4 ≤ B.size))]) rfl) rfl (by decide) (cok1 trivial) ?_
      refine dv (gyes_none rfl) (q_extract (v := .int .u64 ((atV B (a + 4 * j) 4 : Nat) : Int)) rfl rfl) rfl (by decide) (cok1 trivial) ?_
      refine dvb (gyes_none rfl) (q_extract (v := .bool (decide (a + 4 * j + 4 ≤ B.size))) rfl rfl) rfl (by decide) (cok1 trivial) (fun c2 => ?_) (fun c2 => ?_)
      ·
        replace c2 := of_decide_eq_true c2
        refine dv (gyes_none rfl) (q_as (v := .int .u64 ((atV B (a + 4 * j) 4 : Nat) : Int)) rfl) rfl (by decide) (cok1 trivial) ?_
        refine dv (gyes_none rfl) (q_as (v := .bool true) rfl) rfl (by decide) (cok1 trivial) ?_
        refine ⟨_, Wk.refl _ _, ?_⟩
        show awp _ _ _ _ _ _ _
        refine awp_seq ?_
        refine awp_seq ?_
        refine awp_regs hF ?_
        refine dv (gyes_none rfl) (q_mv (v := .bool true) rfl) rfl (by decide) (cok1 trivial) ?_
        refine dv (gyes_none rfl) (q_not (b := true) rfl) rfl (by decide) (cok1 trivial) ?_
        refine ⟨_, Wk.refl _ _, ?_⟩
        show awp _ _ _ _ _ _ _
        refine awp_cond_f rfl ?_
        refine awp_skip_wk ?_
        refine ⟨_, Wk.refl _ _, ?_⟩
        show awp _ _ _ _ _ _ _
        refine awp_seq ?_
        refine awp_regs hF ?_
        refine dv (gyes_none rfl) (q_mv (v := .pointer (some ⟨bt, 0, none⟩)) rfl) rfl (by decide) (cok1 trivial) ?_
        refine dv (gyes_none rfl) (q_mv (v := .pointer (some ⟨bt, 0, none⟩)) rfl) rfl (by decide) (cok1 trivial) ?_
        refine dv (gyes_none rfl) (q_nilCheck rfl (s6.live (j := 1) rfl)) rfl (by decide) (cok1 trivial) ?_
        refine dv (gyes_none rfl) (q_field Try.underlying31 rfl Try.sizeOf29 rfl (s6.rd (j := 1) rfl)) rfl (by decide) (cok1 trivial) ?_
        refine dv (gyes_none rfl) (q_load (v := .slice (some ⟨b3, 0, none⟩) j j) Try.isAgg29 rfl (s6.rd (j := 1) rfl) rfl) rfl (by decide) (cok1 trivial) ?_
        refine dv (gyes_none rfl) (q_mv (v := .int .u64 ((atV B (a + 4 * j) 4 : Nat) : Int)) rfl) rfl (by decide) (cok1 trivial) ?_
        refine dv (gyes_none rfl) (q_convin (a := ((atV B (a + 4 * j) 4 : Nat) : Int)) Try.underlying45 Try.underlying27 rfl (u32_in (by omega))) rfl (by decide) (cok1 trivial) ?_
        refine x_new (fun b => .slice (some ⟨b, 0, none⟩) 1 1) s6 (gyes_none rfl) (q_buildSliceL (ds := [.int .u32 ((atV B (a + 4 * j) 4 : Nat) : Int)]) [.int .u32 ((atV B (a + 4 * j) 4 : Nat) : Int)] rfl Try.underlying29 Try.sizeOf27 Try.zeroValue27 rfl (by decide) (by decide) ⟨rfl, trivial⟩ (lvsC (by exact trivial) lvs0) rfl rfl) rfl (by decide) (cok1 trivial) (fun b7 H8 hb10 s9 => ?_)
        refine x_append (l := [(atV B (a + 4 * j) 4)]) (f := u32v) [] hF s9 (by kernel_rfl) (j := 1) (j + 1) rfl (gyes_none rfl) Try.underlying29 Try.underlying29 Try.type27 rfl rfl (by decide) rfl rfl rfl rfl (s9.slj (l := [(atV B (a + 4 * j) 4)]) (f := u32v) (j := 0) rfl rfl (Nat.le_refl _)) (fun x => lc_scalar rfl) (by rw [List.length_map, chL_len, Nat.zero_add]) (by show (2 * (j + 1) + 1000) * 4 ≤ _; omega) trivial trivial (by decide) rfl rfl (vs' := (chL B a (j + 1)).map u32v) (by rw [← chL_succ, List.map_append]; rfl) (fun b11 H12 hb14 s13 => ⟨?_, ?_⟩)
        · exact trivial
        refine dv (gyes_none rfl) (q_nilCheck rfl (s13.live (j := 2) rfl)) rfl (by decide) (cok1 trivial) ?_
        refine dv (gyes_none rfl) (q_field Try.underlying31 rfl Try.sizeOf29 rfl (s13.rd (j := 2) rfl)) rfl (by decide) (cok1 trivial) ?_
        refine x_store1 [] hF s13 (by kernel_rfl) (gyes_none rfl) (j := 2) (v := .slice (some ⟨b11, 0, none⟩) (j + 1) (j + 1)) rfl Try.sizeOf29 rfl rfl rfl (lc_slice (s13.live (j := 1) rfl)) (Nat.le_of_ble_eq_true rfl) trivial trivial rfl rfl (F' := [(b7, .cells true [.int .u32 ((atV B (a + 4 * j) 4 : Nat) : Int)] 1), (b11, .cells true ((chL B a (j + 1)).map u32v) 1), (bt, .cells true [.int .u32 ((f : Nat) : Int), .int .u32 ((sh : Nat) : Int), vb, vk, .slice (some ⟨b11, 0, none⟩) (j + 1) (j + 1)] 5)]) rfl (fun H15 s16 => ⟨?_, ?_⟩)
        · exact trivial
        refine ⟨_, Wk.refl _ _, ?_⟩
        show awp _ _ _ _ _ _ _
        refine awp_seq ?_
        refine awp_regs hF ?_
        refine dv (gyes_none rfl) (q_mv (v := .int .u32 ((f + j : Nat) : Int)) rfl) rfl (by decide) (cok1 trivial) ?_
        refine dv (gyes_none rfl) (q_mv (v := .int .u32 ((maxL lk : Nat) : Int)) rfl) rfl (by decide) (cok1 trivial) ?_
        refine dvb (gyes_none rfl) (q_int rfl rfl rfl) rfl (by decide) (cok2 trivial trivial) (fun c3 => ?_) (fun c3 => ?_)
        ·
          replace c3 := of_decide_eq_true c3
          refine dv (gyes_none rfl) (q_mv (v := .bool true) rfl) rfl (by decide) (cok1 trivial) ?_
          refine dv (gyes_some rfl rfl) (q_mv (v := .int .u64 ((atV B (a + 4 * j) 4 : Nat) : Int)) rfl) rfl (by decide) (cok1 trivial) ?_
          refine dv (gyes_some rfl rfl) (OpQ.cast (v' := .int .u64 ((atV B (a + 4 * j) 4 % 2 : Nat) : Int)) (q_andN (a := (atV B (a + 4 * j) 4)) (b := 1) rfl rfl rfl (by show _ < 18446744073709551616; omega) (by decide)) (congrArg _ (congrArg _ (Nat.and_one_is_mod _)))) rfl (by decide) (cok2 trivial (cconst rfl)) ?_
          refine dvb (gyes_some rfl rfl) (q_int rfl rfl rfl) rfl (by decide) (cok2 trivial (cconst rfl)) (fun c4 => ?_) (fun c4 => ?_)
          ·
            replace c4 := eq_of_beq c4
            refine dv (gyes_none rfl) (q_pt (v := .bool true) rfl rfl) rfl (by decide) (call_ok rfl) ?_
            refine ⟨_, Wk.refl _ _, ?_⟩
            show awp _ _ _ _ _ _ _
            refine awp_cond_t rfl ?_
            refine awp_seq ?_
            refine awp_regs hF ?_
            refine dv (gyes_none rfl) (q_as (v := .int .i64 0) rfl) rfl (by decide) (cok1 (cconst rfl)) ?_
            refine ⟨_, Wk.refl _ _, ?_⟩
            show awp _ _ _ _ _ _ _
            refine awp_ret_wk ?_
            have hJ : chJ B f (maxL lk) a = j := chJ_of (decide_eq_true (.inr (.inr ⟨by omega, by omega⟩))) (by omega) hj.2
            have hC : chC B f (maxL lk) a = 0 := by unfold chC; rw [hJ, if_neg (by omega), if_neg (by omega)]
            refine ⟨_, Wk.refl _ _, ?_⟩
            repeat (with_reducible first | refine then_ret ?_ | refine blk_ret ?_ | refine then_exit ?_ | refine blk_exit ?_ | refine blk_exit' (by decide) ?_ | refine blk_normal ?_ | refine then_normal ?_ | refine retq_ret ?_ | refine retq_normal ?_ | refine ng_normal ?_ | refine ng_ret ?_ | refine ng_exit ?_)
            refine ret_is (v := .int .i64 0) rfl (.tmp rfl .nil) rfl ?_
            exact ⟨by rw [hC]; rfl, s16.kp, _, _, (s16.own _ (List.mem_of_getElem? (i := 1) rfl)).resolve_right (nin1 (s16.nej (i := 1) (j := 2) rfl rfl (by decide))), s16.getj (j := 2) rfl, s16.getj (j := 1) rfl, (fun _ => by rw [hJ])⟩
          ·
            replace c4 := ne_of_beq_false c4
            refine dv (gyes_none rfl) (q_pt (v := .bool false) rfl rfl) rfl (by decide) (call_ok rfl) ?_
            refine ⟨_, Wk.refl _ _, ?_⟩
            show awp _ _ _ _ _ _ _
            refine awp_cond_f rfl ?_
            refine awp_skip_wk ?_
            refine ⟨_, Wk.refl _ _, ?_⟩
            show awp _ _ _ _ _ _ _
            refine awp_regs hF ?_
            refine dv (gyes_none rfl) (q_mv (v := .int .u32 ((f + j : Nat) : Int)) rfl) rfl (by decide) (cok1 trivial) ?_
            refine dv (gyes_none rfl) (OpQ.cast (v' := .int .u32 ((f + j + 1 : Nat) : Int)) (q_int rfl rfl rfl) (congrArg _ ((u32_in (by omega)).trans (by first | rfl | omega | (push_cast; rfl))))) rfl (by decide) (cok2 trivial (cconst rfl)) ?_
            refine dv (gyes_none rfl) (q_as (v := .int .u32 ((f + j + 1 : Nat) : Int)) rfl) rfl (by decide) (cok1 trivial) ?_
            have hns : chStop B f (maxL lk) a j = false := decide_eq_false (by omega)
            refine ⟨_, Wk.U [(0, .pointer (some ⟨bt, 0, none⟩)), (1, .string B), (2, .int .u64 ((a : Nat) : Int)), (7, .int .u32 ((maxL lk : Nat) : Int)), (8, .int .u32 ((f + (j + 1) : Nat) : Int))] ⟨rfl, rfl, rfl, rfl, rfl, trivial⟩, (j + 1), ⟨_, _, rfl, (s16.sub (.cons _ (.cons_cons _ (.cons_cons _ (.refl _))))), ⟨by omega, lt_succ_casesN hj.2 hns⟩⟩, (by omega)⟩
        ·
          replace c3 := of_decide_eq_false c3
          refine dv (gyes_none rfl) (q_mv (v := .bool false) rfl) rfl (by decide) (cok1 trivial) ?_
          refine dno rfl (.inl rfl) rfl (by decide) ?_
          refine dno rfl (.inl rfl) rfl (by decide) ?_
          refine dno rfl (.inl rfl) rfl (by decide) ?_
          refine dv (gyes_none rfl) (q_pf (v := .bool false) rfl rfl) rfl (by decide) (call_ok rfl) ?_
          refine ⟨_, Wk.refl _ _, ?_⟩
          show awp _ _ _ _ _ _ _
          refine awp_cond_f rfl ?_
          refine awp_skip_wk ?_
          refine ⟨_, Wk.refl _ _, ?_⟩
          show awp _ _ _ _ _ _ _
          refine awp_regs hF ?_
          refine dv (gyes_none rfl) (q_mv (v := .int .u32 ((f + j : Nat) : Int)) rfl) rfl (by decide) (cok1 trivial) ?_
          refine dv (gyes_none rfl) (OpQ.cast (v' := .int .u32 ((f + j + 1 : Nat) : Int)) (q_int rfl rfl rfl) (congrArg _ ((u32_in (by omega)).trans (by first | rfl | omega | (push_cast; rfl))))) rfl (by decide) (cok2 trivial (cconst rfl)) ?_
          refine dv (gyes_none rfl) (q_as (v := .int .u32 ((f + j + 1 : Nat) : Int)) rfl) rfl (by decide) (cok1 trivial) ?_
          have hns : chStop B f (maxL lk) a j = false := decide_eq_false (by omega)
          refine ⟨_, Wk.U [(0, .pointer (some ⟨bt, 0, none⟩)), (1, .string B), (2, .int .u64 ((a : Nat) : Int)), (7, .int .u32 ((maxL lk : Nat) : Int)), (8, .int .u32 ((f + (j + 1) : Nat) : Int))] ⟨rfl, rfl, rfl, rfl, rfl, trivial⟩, (j + 1), ⟨_, _, rfl, (s16.sub (.cons _ (.cons_cons _ (.cons_cons _ (.refl _))))), ⟨by omega, lt_succ_casesN hj.2 hns⟩⟩, (by omega)⟩
      ·
        replace c2 := of_decide_eq_false c2
        refine dv (gyes_none rfl) (q_as (v := .int .u64 ((atV B (a + 4 * j) 4 : Nat) : Int)) rfl) rfl (by decide) (cok1 trivial) ?_
        refine dv (gyes_none rfl) (q_as (v := .bool false) rfl) rfl (by decide) (cok1 trivial) ?_
        refine ⟨_, Wk.refl _ _, ?_⟩
        show awp _ _ _ _ _ _ _
        refine awp_seq ?_
        refine awp_seq ?_
        refine awp_regs hF ?_
        refine dv (gyes_none rfl) (q_mv (v := .bool false) rfl) rfl (by decide) (cok1 trivial) ?_
        refine dv (gyes_none rfl) (q_not (b := false) rfl) rfl (by decide) (cok1 trivial) ?_
        refine ⟨_, Wk.refl _ _, ?_⟩
        show awp _ _ _ _ _ _ _
        refine awp_cond_t rfl ?_
        refine awp_seq ?_
        refine awp_regs hF ?_
        refine dv (gyes_none rfl) (q_as (v := .int .i64 2) rfl) rfl (by decide) (cok1 (cconst rfl)) ?_
        refine ⟨_, Wk.refl _ _, ?_⟩
        show awp _ _ _ _ _ _ _
        refine awp_ret_wk ?_
        have hJ : chJ B f (maxL lk) a = j := chJ_of (decide_eq_true (.inr (.inl (by omega)))) (by omega) hj.2
        have hC : chC B f (maxL lk) a = 2 := by unfold chC; rw [hJ, if_neg (by omega), if_pos (by omega)]
        refine ⟨_, Wk.refl _ _, ?_⟩
        repeat (with_reducible first | refine then_ret ?_ | refine blk_ret ?_ | refine then_exit ?_ | refine blk_exit ?_ | refine blk_exit' (by decide) ?_ | refine blk_normal ?_ | refine then_normal ?_ | refine retq_ret ?_ | refine retq_normal ?_ | refine ng_normal ?_ | refine ng_ret ?_ | refine ng_exit ?_)
        refine ret_is (v := .int .i64 2) rfl (.tmp rfl .nil) rfl ?_
        exact ⟨by rw [hC]; rfl, s6.kp, _, _, (s6.own _ (List.mem_of_getElem? (i := 0) rfl)).resolve_right (nin1 (s6.nej (i := 0) (j := 1) rfl rfl (by decide))), s6.getj (j := 1) rfl, s6.getj (j := 0) rfl, (fun h => by rw [hC] at h; exact nomatch h)⟩

end Go.Proofs.YtponfeigjmjbmaaA

