/-
  append.
-/
import Derived.Test.YtbjlabokijchpaaA14
import Derived.Deep.AppendSrc
namespace Go.Proofs.YtbjlabokijchpaaA
set_option linter.unusedVariables false
open Go Go.RowKit Go.Shelf
def kill (ρ : Ren) (b : Nat) : Ren := fun c => if c = b then .dead else ρ c
theorem kill_mono (ρ : Ren) (b : Nat) : ∀ c, ρ c ≠ .none → kill ρ b c = ρ c ∨ kill ρ b c = .dead := fun c _ => by
  unfold kill; by_cases h : c = b
  · exact .inr (if_pos h)
  · exact .inl (if_neg h)
/-- A block of which no more is to be known. -/
theorem kill_rel {ρ : Ren} {H : AHeap} {w : World} (hh : HRel ρ H w) {b : Nat} {l : Loc} (hl : ρ b = .at l) (hg : ∀ vs sz, H[b]? ≠ some (.glob vs sz)) : HRel (kill ρ b) (H.set b .dead) w := by
  obtain ⟨o1, q1, q2, q3⟩ := hh.rel b l hl
  have hb : b < H.length := (List.getElem?_eq_some_iff.1 q1).1
  have e1 : ∀ c, c ≠ b → kill ρ b c = ρ c := fun c h => if_neg h
  have e2 : kill ρ b b = .dead := if_pos rfl
  have hne : ∀ c m, kill ρ b c = .at m → c ≠ b := fun c m h e => by rw [e, e2] at h; cases h
  have hwr' : ∀ c, wr (H.set b .dead) c → wr H c := fun c ⟨o2, h1, h2⟩ => by
    by_cases e1 : c = b
    · subst e1; rw [List.getElem?_set, if_pos rfl, if_pos hb] at h1; cases h1; simp [AObj.wr] at h2
    · rw [List.getElem?_set, if_neg (Ne.symm e1)] at h1; exact ⟨o2, h1, h2⟩
  refine ⟨fun c hc => ?_, fun c m hm => ?_, fun c d m m' hcd hc hd hw => ?_, fun g vs sz hg' => ?_, fun c hc => ?_⟩
  · simp only [List.length_set] at hc
    rw [e1 c (by omega)]; exact hh.bound c hc
  · have := hne c m hm
    rw [e1 c this] at hm
    obtain ⟨o2, r1, r2, r3⟩ := hh.rel c m hm
    exact ⟨o2, by rw [List.getElem?_set, if_neg (Ne.symm this)]; exact r1, r2, r3.mono (kill_mono ρ b) rfl⟩
  · have h1 := hne c m hc
    have h2 := hne d m' hd
    rw [e1 c h1] at hc
    rw [e1 d h2] at hd
    exact hh.inj c d m m' hcd hc hd (hwr' c hw)
  · by_cases e3 : g = b
    · subst e3; rw [List.getElem?_set, if_pos rfl, if_pos hb] at hg'; cases hg'
    · rw [List.getElem?_set, if_neg (Ne.symm e3)] at hg'
      obtain ⟨m, h1, h2⟩ := hh.glob g vs sz hg'
      exact ⟨m, (e1 g e3).trans h1, h2⟩
  · by_cases e3 : c = b
    · subst e3; rw [List.getElem?_set, if_pos rfl, if_pos hb]
    · rw [e1 c e3] at hc
      rw [List.getElem?_set, if_neg (Ne.symm e3)]; exact hh.isdead c hc
/-- A new name for a place that no name stands for. -/
theorem new_at {ρ : Ren} {H : AHeap} {w w1 : World} (hh : HRel ρ H w) {o : AObj} (hw : o.wr = true) (l : Loc) (hsz : w.heap.size ≤ w1.heap.size) (hl : l.blk < w1.heap.size) (hfree : ∀ c m, ρ c = .at m → m.blk ≠ l.blk) (hsame : ∀ c m, ρ c = .at m → w1.heap[m.blk]? = w.heap[m.blk]?)
    (hO : ∀ ρ', (∀ b, ρ b ≠ .none → ρ' b = ρ b ∨ ρ' b = .dead) → ORel ρ' l w1 o) :
    ∃ ρ', ρ' H.length = .at l ∧ (∀ b, b ≠ H.length → ρ' b = ρ b) ∧ (∀ b, ρ b ≠ .none → ρ' b = ρ b ∨ ρ' b = .dead) ∧ HRel ρ' (H ++ [o]) w1 := by
  obtain ⟨ρ', hρ⟩ : ∃ ρ' : Ren, ρ' = fun b => if b = H.length then .at l else ρ b := ⟨_, rfl⟩
  have e1 : ρ' H.length = .at l := by rw [hρ]; exact if_pos rfl
  have e2 : ∀ b, b ≠ H.length → ρ' b = ρ b := fun b hb => by rw [hρ]; exact if_neg hb
  have hm : ∀ b, ρ b ≠ .none → ρ' b = ρ b ∨ ρ' b = .dead := fun b hb => .inl (e2 b (fun h => hb (by rw [h]; exact hh.bound _ (Nat.le_refl _))))
  refine ⟨ρ', e1, e2, hm, ⟨fun b hb => ?_, fun b m hb => ?_, fun b c m m' hne hb hc hwr => ?_, fun g vs sz hg => ?_, fun b hb => ?_⟩⟩
  · simp only [List.length_append, List.length_cons, List.length_nil] at hb
    rw [e2 b (by omega)]; exact hh.bound b (by omega)
  · by_cases h : b = H.length
    · subst h
      rw [e1] at hb; cases hb
      exact ⟨o, by simp, hl, hO ρ' hm⟩
    · rw [e2 b h] at hb
      obtain ⟨o', h1, h2, h3⟩ := hh.rel b m hb
      have hlt : b < H.length := (List.getElem?_eq_some_iff.1 h1).1
      exact ⟨o', by rw [List.getElem?_append_left hlt]; exact h1, by omega, h3.mono hm (hsame b m hb)⟩
  · by_cases h : b = H.length <;> by_cases h' : c = H.length
    · omega
    · subst h
      rw [e1] at hb; cases hb
      rw [e2 c h'] at hc
      exact (hfree c m' hc).symm
    · subst h'
      rw [e1] at hc; cases hc
      rw [e2 b h] at hb
      exact hfree b m hb
    · rw [e2 b h] at hb
      rw [e2 c h'] at hc
      refine hh.inj b c m m' hne hb hc ?_
      obtain ⟨o', h1, h2⟩ := hwr
      have hlt : b < H.length := by
        obtain ⟨o2, h3, _⟩ := hh.rel b m hb
        exact (List.getElem?_eq_some_iff.1 h3).1
      rw [List.getElem?_append_left hlt] at h1
      exact ⟨o', h1, h2⟩
  · by_cases h : g < H.length
    · rw [List.getElem?_append_left h] at hg
      obtain ⟨m, h1, h2, h3⟩ := hh.glob g vs sz hg
      exact ⟨m, by rw [e2 g (by omega)]; exact h1, h2, h3⟩
    · rw [List.getElem?_append_right (by omega)] at hg
      have := List.mem_of_getElem? hg
      simp at this
      subst this
      simp [AObj.wr] at hw
  · by_cases h : b = H.length
    · subst h; rw [e1] at hb; cases hb
    · rw [e2 b h] at hb
      have := hh.isdead b hb
      rw [List.getElem?_append_left (List.getElem?_eq_some_iff.1 this).1]; exact this
/-- A new name that stands for nil. -/
theorem null_new {ρ : Ren} {H : AHeap} {w : World} (hh : HRel ρ H w) {o : AObj} (hg : ∀ vs sz, o ≠ .glob vs sz) :
    ∃ ρ', ρ' H.length = .null ∧ (∀ b, b ≠ H.length → ρ' b = ρ b) ∧ (∀ b, ρ b ≠ .none → ρ' b = ρ b ∨ ρ' b = .dead) ∧ HRel ρ' (H ++ [o]) w := by
  obtain ⟨ρ', hρ⟩ : ∃ ρ' : Ren, ρ' = fun b => if b = H.length then .null else ρ b := ⟨_, rfl⟩
  have e1 : ρ' H.length = .null := by rw [hρ]; exact if_pos rfl
  have e2 : ∀ b, b ≠ H.length → ρ' b = ρ b := fun b hb => by rw [hρ]; exact if_neg hb
  have hm : ∀ b, ρ b ≠ .none → ρ' b = ρ b ∨ ρ' b = .dead := fun b hb => .inl (e2 b (fun h => hb (by rw [h]; exact hh.bound _ (Nat.le_refl _))))
  have hat : ∀ b m, ρ' b = .at m → b ≠ H.length ∧ ρ b = .at m := fun b m h => by
    have hne : b ≠ H.length := fun e => by rw [e, e1] at h; cases h
    exact ⟨hne, by rw [← e2 b hne]; exact h⟩
  have hlt : ∀ b m, ρ b = .at m → b < H.length := fun b m h => by
    obtain ⟨_, h1, _⟩ := hh.rel b m h
    exact (List.getElem?_eq_some_iff.1 h1).1
  refine ⟨ρ', e1, e2, hm, ⟨fun b hb => ?_, fun b m hb => ?_, fun b c m m' hne hb hc hwr => ?_, fun g vs sz hg' => ?_, fun b hb => ?_⟩⟩
  · simp only [List.length_append, List.length_cons, List.length_nil] at hb
    rw [e2 b (by omega)]; exact hh.bound b (by omega)
  · obtain ⟨hne, hb⟩ := hat b m hb
    obtain ⟨o', h1, h2, h3⟩ := hh.rel b m hb
    exact ⟨o', by rw [List.getElem?_append_left (hlt b m hb)]; exact h1, h2, h3.mono hm rfl⟩
  · obtain ⟨_, hb⟩ := hat b m hb
    obtain ⟨_, hc⟩ := hat c m' hc
    refine hh.inj b c m m' hne hb hc ?_
    obtain ⟨o', h1, h2⟩ := hwr
    rw [List.getElem?_append_left (hlt b m hb)] at h1
    exact ⟨o', h1, h2⟩
  · by_cases h : g < H.length
    · rw [List.getElem?_append_left h] at hg'
      obtain ⟨m, h1, h2, h3⟩ := hh.glob g vs sz hg'
      exact ⟨m, by rw [e2 g (by omega)]; exact h1, h2, h3⟩
    · rw [List.getElem?_append_right (by omega)] at hg'
      have := List.mem_of_getElem? hg'
      simp at this
      exact absurd this.symm (hg vs sz)
  · have hne : b ≠ H.length := fun e => by rw [e, e1] at hb; cases hb
    rw [e2 b hne] at hb
    have := hh.isdead b hb
    rw [List.getElem?_append_left (List.getElem?_eq_some_iff.1 this).1]; exact this
/-- What is said of a name that stands for nil matters not. -/
theorem null_rel {ρ : Ren} {H : AHeap} {w : World} (hh : HRel ρ H w) {b : Nat} (hl : ρ b = .null) (hg : ∀ vs sz, H[b]? ≠ some (.glob vs sz)) {o : AObj} (ho : ∀ vs sz, o ≠ .glob vs sz) : HRel ρ (H.set b o) w := by
  have hne : ∀ c m, ρ c = .at m → c ≠ b := fun c m h e => by rw [e, hl] at h; cases h
  refine ⟨fun c hc => hh.bound c (by simpa using hc), fun c m hm => ?_, fun c d m m' hcd hc hd hw => ?_, fun g vs sz hg' => ?_, fun c hc => ?_⟩
  · obtain ⟨o2, r1, r2, r3⟩ := hh.rel c m hm
    exact ⟨o2, by rw [List.getElem?_set, if_neg (Ne.symm (hne c m hm))]; exact r1, r2, r3⟩
  · refine hh.inj c d m m' hcd hc hd ?_
    obtain ⟨o2, h1, h2⟩ := hw
    rw [List.getElem?_set, if_neg (Ne.symm (hne c m hc))] at h1
    exact ⟨o2, h1, h2⟩
  · by_cases e3 : b = g
    · subst e3
      rw [List.getElem?_set, if_pos rfl] at hg'
      split at hg'
      · cases hg'; exact absurd rfl (ho vs sz)
      · cases hg'
    · rw [List.getElem?_set, if_neg e3] at hg'
      exact hh.glob g vs sz hg'
  · have hne : b ≠ c := fun e => by rw [← e, hl] at hc; cases hc
    rw [List.getElem?_set, if_neg hne]; exact hh.isdead c hc
theorem growBy_le (n : Nat) : ∀ (r c : Nat), Builtin.growBy n r c ≤ max c (n + (n + 768) / 4)
  | 0, c => Nat.le_max_left _ _
  | r + 1, c => by
    unfold Builtin.growBy
    split
    · exact Nat.le_max_left _ _
    · have := growBy_le n r (c + (c + 768) / 4)
      omega
theorem nextcap_le {n o : Nat} (h : o < n) : Builtin.nextslicecap n o ≤ 2 * n + 1000 := by
  unfold Builtin.nextslicecap
  split
  · omega
  · split
    · omega
    · have := growBy_le n 4 o
      omega
section
variable {P : Program}
theorem first_zero (w : World) (m : Nat) (a : Option Addr) : (Builtin.firstCells m 0 (.slice a 0 0)).run P w = .ok #[] w := by
  cases a with
  | none => rfl
  | some a =>
    show (loadCells a (0 * m)).run P w = _
    rw [Nat.zero_mul]
    exact run_loadCells (P := P) w a 0 (fun _ => undef) (fun j hj => by omega)
theorem run_first {ρ : Ren} {H : AHeap} {w : World} (hh : HRel ρ H w) {b o n c m k : Nat} {v' : Value} {vs : List Value} {sz : Nat} (hR : Rd H b vs sz) (hv : VRel ρ (.slice (some ⟨b, o, none⟩) n c) v') (hk : o + k * m ≤ vs.length) (hkn : k ≤ n) :
    ∃ us : Array Value, (Builtin.firstCells m k v').run P w = .ok us w ∧ LRel ρ ((vs.drop o).take (k * m)) us.toList ∧ (Builtin.lenOf v').run P w = .ok n w := by
  rcases vrel_slice hh hv hR.live with ⟨l, o', c', hl, h2, h3, h4, h5, h6⟩ | ⟨e1, e2, _, a, e3⟩
  case inr =>
    obtain rfl : k = 0 := by omega
    refine ⟨#[], ?_, by rw [Nat.zero_mul]; simpa using LRel.nil ρ, by rw [e3, e1]; rfl⟩
    rw [e3]
    exact first_zero w m a
  obtain ⟨_, cs, E, fr, h7, h8, h9, h10⟩ := hR.get hh hl
  subst h2
  by_cases hk0 : k * m = 0
  · refine ⟨#[], ?_, by rw [hk0]; simpa using LRel.nil ρ, rfl⟩
    show (loadCells _ (k * m)).run P w = _
    rw [hk0]
    exact run_loadCells (P := P) w _ 0 (fun _ => undef) (fun j hj => by omega)
  · have ho : o' = l.base + o := by
      rcases h5 with h | h
      · exact h
      · have : k = 0 := by omega
        subst this; simp at hk0
    refine ⟨((List.range (k * m)).map fun j => cs.getD (o' + j) undef).toArray, run_load_cells h7 (by omega), ⟨by simp; omega, fun i hi => ?_⟩, rfl⟩
    have hi' : i < k * m := by simp at hi; omega
    have := h10 (o + i) (by omega)
    have e1 : ((vs.drop o).take (k * m)).getD i undef = vs.getD (o + i) undef := by
      simp only [List.getD_eq_getElem?_getD, List.getElem?_take, List.getElem?_drop, if_pos hi']
    have e2 : (((List.range (k * m)).map fun j => cs.getD (o' + j) undef).toArray.toList).getD i undef = cs.getD (l.base + (o + i)) undef := by
      simp [hi', ho, Nat.add_assoc, List.getD_eq_getElem?_getD]
    rw [e1, e2]
    exact this
/-- What is appended, as the kit tells it. -/
theorem src_of {ρ : Ren} {H : AHeap} {w : World} (hh : HRel ρ H w) {b o n c m : Nat} {v' : Value} {vs : List Value} {sz : Nat} {tx e' : TypeId} (hk : P.underlying tx = some (.slice e')) (hR : Rd H b vs sz) (hv : VRel ρ (.slice (some ⟨b, o, none⟩) n c) v') (hl : o + n * m ≤ vs.length)
    (hc : ∀ u ∈ (vs.drop o).take (n * m), Lc H u) : ∃ us, Src P m tx v' n us w ∧ LRel ρ ((vs.drop o).take (n * m)) us := by
  obtain ⟨us, h1, h2, h3⟩ := run_first (P := P) hh hR hv hl (Nat.le_refl _)
  obtain ⟨us', h1', h2', h3'⟩ := run_first (P := P) (hh.drawn (w.drawn + 1)) hR hv hl (Nat.le_refl _)
  have hsame : us' = us := by
    rcases vrel_slice hh hv hR.live with ⟨l, o', c', hl', e2, _⟩ | ⟨e1, _, _, a, e2⟩
    case inr =>
      have hz : ((vs.drop o).take (n * m)).length = 0 := by rw [e1, Nat.zero_mul]; simp
      have z1 := h2.1
      have z2 := h2'.1
      have y1 : us.toList = [] := List.length_eq_zero_iff.1 (by omega)
      have y2 : us'.toList = [] := List.length_eq_zero_iff.1 (by omega)
      exact Array.toList_inj.1 (y2.trans y1.symm)
    subst e2
    have hw : ∀ (a : Addr) (k : Nat) (x y : Array Value), (loadCells a k).run P w = .ok x w → (loadCells a k).run P { w with drawn := w.drawn + 1 } = .ok y { w with drawn := w.drawn + 1 } → x = y := by
      intro a k x y hx hy
      have key : ∀ (k i : Nat) (acc : Array Value) (x y : Array Value), (loadCellsFrom a i k acc).run P w = .ok x w → (loadCellsFrom a i k acc).run P { w with drawn := w.drawn + 1 } = .ok y { w with drawn := w.drawn + 1 } → x = y := by
        intro k
        induction k with
        | zero => intro i acc x y hx hy; simp [loadCellsFrom] at hx hy; rw [← hx, ← hy]
        | succ k ih =>
          intro i acc x y hx hy
          simp only [loadCellsFrom, Sem.run_bind, run_load] at hx hy
          have hcell : World.cell? { w with drawn := w.drawn + 1 } (a.add i) = w.cell? (a.add i) := rfl
          rw [hcell] at hy
          cases hcc : w.cell? (a.add i) with
          | some v => rw [hcc] at hx hy; exact ih _ _ _ _ hx hy
          | none =>
            rw [hcc] at hx hy
            have hfar : World.farLoad P { w with drawn := w.drawn + 1 } (a.add i) (Mode.plain == .atomic) = w.farLoad P (a.add i) (Mode.plain == .atomic) := rfl
            simp only [hfar] at hy
            cases hf : w.farLoad P (a.add i) (Mode.plain == .atomic) with
            | ok r => rw [hf] at hx hy; exact ih _ _ _ _ hx hy
            | error e => rw [hf] at hx; cases hx
      exact key k 0 #[] x y hx hy
    exact (hw _ _ _ _ h1 h1').symm
  subst hsame
  refine ⟨us'.toList, ⟨.inl ⟨e', hk⟩, fun w' => ?_, by simpa using h1, by simpa using h1', by have := h2.1; simp at this; simp; omega, fun u hu => ?_⟩, h2⟩
  · rcases vrel_slice hh hv hR.live with ⟨l, o', c', hl', e2, _⟩ | ⟨e1, _, _, a, e2⟩
    · subst e2; rfl
    · subst e2; rw [e1]; rfl
  · obtain ⟨i, hi, rfl⟩ := List.mem_iff_getElem.1 hu
    have hi' : i < ((vs.drop o).take (n * m)).length := by have := h2.1; omega
    have h4 := h2.2 i hi'
    rw [List.getD_eq_getElem?_getD, List.getD_eq_getElem?_getD, List.getElem?_eq_getElem hi', List.getElem?_eq_getElem hi] at h4
    exact vrel_one hh h4 (hc _ (List.getElem_mem hi'))
theorem append_zero (w : World) {sT yT el : TypeId} {ty : TypeId} {i : TypeInfo} {y : Value} {ns : List Value} (hu : P.underlying sT = some (.slice el)) (hi : P.info? el = some i) (hS : Src P i.size yT y 0 ns w) (hns : ns = []) (ba : Option Addr) :
    (Builtin.append_ #[sT, yT] ty #[.slice ba 0 0, y]).run P w = .ok (.slice ba 0 0) w := by
  subst hns
  have hc := hS.cells
  cases ba with
  | none => rcases hS.kind with ⟨e', hk⟩ | hk <;> simp [Builtin.append_, run_underlying hu, run_underlying hk, sizeOf, typeInfo, hi, hS.len, hc]
  | some a => rcases hS.kind with ⟨e', hk⟩ | hk <;> simp [Builtin.append_, run_underlying hu, run_underlying hk, sizeOf, typeInfo, hi, hS.len, hc, storeCells]
variable {F : Fence} {nn : Nat} {N0 : AHeap} {s : ASt} {dst : Option Tmp} {ty : TypeId} {pos : String} {af : Array Edge} {g : Option (Nat × Bool)}
theorem frozen_world {w : World} {b : Nat} {cs : Array Value} {E : TypeId} {fr : Nat × Nat} (h : w.heap[b]? = some (.cells cs E fr)) {l : Loc} (hf : frozenFree fr l) {i : Nat} (h1 : l.base ≤ i) (h2 : i < l.lim) : w.frozen? ⟨b, i, none⟩ = false := by
  have h3 := hf i h1 h2
  cases h5 : w.frozen? ⟨b, i, none⟩ with
  | false => rfl
  | true =>
    unfold World.frozen? at h5
    rw [h] at h5
    obtain ⟨lo, hi⟩ := fr
    simp only [Bool.and_eq_true, decide_eq_true_eq] at h5
    exact absurd h5 h3
theorem DRel.dead {ρ ρ' : Ren} {H H' : AHeap} (hk : ∀ d l, ρ d = .at l → H[d]? = some .mark → ρ' d = .at l ∧ H'[d]? = some .mark) : ∀ (D : List Nat) (ds : List Deferred), DRel ρ H D ds → DRel ρ' H' D ds := DRel.fr hk
theorem wr_app {H : AHeap} {o : AObj} {b : Nat} (hb : b < H.length) : wr (H ++ [o]) b ↔ wr H b := by
  unfold wr
  rw [List.getElem?_append_left hb]
/-- append to a slice of one's own: its block is dead behind it; the new one has a name of its own. -/
theorem o_appendG {K : ASt → Prop} (hF : Wd F) {x y : Operand} {sT yT el : TypeId} {i : TypeInfo} {z : Value} {b o n c m sz : Nat} {vs xs : List Value} (hu : P.underlying sT = some (.slice el)) (hi : P.info? el = some i) (hiz : i.zero = some z) (hsz : i.size = sz) (hpos : 0 < i.bytes) (hzs : z.cells.size = sz)
    (hx : ev s.T x = .slice (some ⟨b, o, none⟩) n c) (hy0 : ∀ ρ w v', HRel ρ s.H w → VRel ρ (ev s.T y) v' → ∃ ns, Src P sz yT v' m ns w ∧ LRel ρ xs ns) (hH : s.H[b]? = some (.cells true vs sz)) (htail : o + n * sz = vs.length) (hxs : xs.length = m * sz)
    (hbig : (2 * (n + m) + 1000) * i.bytes ≤ 281474976710656) (hcx : cOk s.H x) (hcy : cOk s.H y) (hd : dOk s.nt dst)
    (hk : K (ASt.put { s with H := s.H.set b .dead ++ [.cells true (vs.drop o ++ xs) sz] } dst (.slice (some ⟨s.H.length, 0, none⟩) (n + m) (n + m)))) :
    OpOk F nn P N0 ⟨dst, .call { callee := .builtin .append, args := #[x, y], argTypes := #[sT, yT] }, ty, pos, af, g⟩ K s := by
  intro ρ a w hs'
  have hh := hs'.heap
  have h1 := ev_rel hh hs'.tmps hcx
  have h2 := ev_rel hh hs'.tmps hcy
  rw [hx] at h1
  subst hsz
  obtain ⟨ns, hS, hN⟩ := hy0 ρ w _ hh h2
  rcases vrel_slice hh h1 (by rw [hH]; simp) with ⟨l, o', c', hl, e1, k1, k2, k3, k4⟩ | ⟨e1, e2, e3, ba, e4⟩
  case inr =>
    subst e1 e2
    have hb : b < s.H.length := (List.getElem?_eq_some_iff.1 hH).1
    have hnull := null_rel (o := .dead) hh e3 (fun vs' sz' h => by rw [hH] at h; cases h) (by simp)
    have hd0 : vs.drop o = [] := by rw [List.drop_eq_nil_iff]; omega
    have hNl : ns.length = m * i.size := hS.newsLen
    have hlt : ∀ c m', ρ c = .at m' → m'.blk < w.heap.size := fun c m' h => by
      obtain ⟨_, _, h7, _⟩ := hh.rel c m' h
      exact h7
    have fin : ∀ (w' : World) (ρ' : Ren) (v' : Value), w'.os = w.os → w'.tape = w.tape → w'.output = w.output → w.heap.size ≤ w'.heap.size → (∀ k, k < w.heap.size → w'.heap[k]? = w.heap[k]?) → (∀ c, c ≠ s.H.length → ρ' c = ρ c) → HRel ρ' (s.H.set b .dead ++ [.cells true (vs.drop o ++ xs) i.size]) w' →
        (∀ l', ρ' s.H.length = .at l' → w.heap.size ≤ l'.blk) → VRel ρ' (.slice (some ⟨s.H.length, 0, none⟩) (0 + m) (0 + m)) v' →
        ∃ s' ρ', K s' ∧ SRel N0 ρ' s' (a.put dst v') w' ∧ Fr N0.length ρ s.H w ρ' s'.H w' := by
      intro w' ρ' v' p1 p2 p3 p4 p5 r2 r4 p9 p11
      have hm : ∀ c, ρ c ≠ .none → ρ' c = ρ c ∨ ρ' c = .dead := fun c hc => .inl (r2 c (fun e => hc (by rw [e]; exact hh.bound _ (Nat.le_refl _))))
      have hold : ∀ c, c < s.H.length → ρ' c = ρ c := fun c hc => r2 c (by omega)
      have hs1 : SRel N0 ρ' { s with H := s.H.set b .dead ++ [.cells true (vs.drop o ++ xs) i.size] } a w' := by
        refine ⟨r4, hs'.tmps.mono hm, DRel.dead (fun d m' h3 h4 => ?_) _ _ hs'.defers, by have := hs'.len; simp; omega, hs'.entry.of fun c hc => .inl (hold c (by have := hs'.len; omega))⟩
        have hdl := (List.getElem?_eq_some_iff.1 h4).1
        have hne : d ≠ b := fun e => by rw [e, hH] at h4; cases h4
        exact ⟨(hold d hdl).trans h3, by rw [List.getElem?_append_left (by simpa using hdl), List.getElem?_set, if_neg (Ne.symm hne)]; exact h4⟩
      refine ⟨_, ρ', hk, hs1.put hd p11, ?_⟩
      rw [ASt.put_H]
      refine ⟨p1, p2, p3, p4, fun k hk' _ => p5 k hk', fun c hc => .inl (hold c (by have := hs'.len; omega)), fun c m' hc hw => ?_⟩
      by_cases e : c = s.H.length
      · subst e; exact .inr (p9 m' hc)
      · rw [r2 c e] at hc
        have hcl : c < s.H.length := by
          obtain ⟨_, h7, _⟩ := hh.rel c m' hc
          exact (List.getElem?_eq_some_iff.1 h7).1
        obtain ⟨o3, h7, h8⟩ := hw
        have hne : c ≠ b := fun e => by rw [e, e3] at hc; cases hc
        rw [List.getElem?_append_left (by simpa using hcl), List.getElem?_set, if_neg (Ne.symm hne)] at h7
        exact .inl ⟨c, m', hc, rfl, o3, h7, h8⟩
    refine ⟨fun f _ => hF.fn f, ?_⟩
    rw [Oper.semAt_eq _ _ _ (by simp)]
    have hexec : ∀ (v : Value) (w' : World), (Builtin.append_ #[sT, yT] ty #[a.eval x, a.eval y]).run P w = .ok v w' → (execOp a.eval ⟨dst, .call { callee := .builtin .append, args := #[x, y], argTypes := #[sT, yT] }, ty, pos, af, g⟩).run P w = .ok (.value v) w' :=
      fun v w' h => run_builtin (us := #[a.eval x, a.eval y]) (by simp) (run_v h)
    by_cases hm0 : m = 0
    · subst hm0
      have hns : ns = [] := List.length_eq_zero_iff.1 (by rw [hNl, Nat.zero_mul])
      have hx0 : xs = [] := List.length_eq_zero_iff.1 (by rw [hxs, Nat.zero_mul])
      have hr : (Builtin.append_ #[sT, yT] ty #[a.eval x, a.eval y]).run P w = .ok (.slice ba 0 0) w := by
        rw [e4]
        exact append_zero w hu hi hS hns ba
      rw [hexec _ _ hr]
      obtain ⟨ρ', r1, r2, r3, r4⟩ := null_new hnull (o := .cells true (vs.drop o ++ xs) i.size) (by simp)
      simp only [List.length_set] at r1 r2
      exact fin w ρ' _ rfl rfl rfl (Nat.le_refl _) (fun _ _ => rfl) r2 r4 (fun l' h => by rw [r1] at h; cases h) (.empty r1)
    · have hnb : m ≤ (2 * (0 + m) + 1000) * i.bytes := Nat.le_trans (by omega) (Nat.le_mul_of_pos_right _ hpos)
      have hr := run_append_grow_src (P := P) w sT yT ty el i z hu hi hiz ba 0 0 [] (first_zero _ _ _) (a.eval y) m ns hS (by omega) (by omega) (by have := Nat.mul_le_mul_right i.bytes (nextcap_le (n := 0 + m) (o := 0) (by omega)); omega)
      rw [← e4] at hr
      rw [hexec _ _ hr]
      have hcap := grownCap_ge w (0 + m) 0 el
      generalize hnew : ((([] : List Value) ++ ns).toArray ++ Builtin.zeroCells z.cells (grownCap w (0 + m) 0 el - (0 + m))) = row
      have hrow : row.size = m * i.size + (grownCap w (0 + m) 0 el - (0 + m)) * z.cells.size := by
        rw [← hnew]; simp [size_zeroCells, hNl]
      have hsame : ∀ k, k < w.heap.size → (w.drew.alloc (.cells row el)).heap[k]? = w.heap[k]? := fun k hk' => Below.heap_alloc w.drew _ k hk'
      obtain ⟨ρ', r1, r2, r3, r4⟩ := new_at (w1 := w.drew.alloc (.cells row el)) (o := .cells true (vs.drop o ++ xs) i.size) hnull rfl ⟨w.heap.size, 0, row.size, i.size⟩ (by simp [World.size_alloc]) (by simp [World.size_alloc]) (fun c m' h => by have := hlt c m' h; show m'.blk ≠ w.heap.size; omega) (fun c m' h => hsame _ (hlt c m' h)) (fun ρ' hm => by
        refine ⟨rfl, row, el, (0, 0), World.alloc_heap_new w.drew _, ?_, Nat.le_refl _, ?_, fun _ => frozen_none _⟩
        · show 0 + _ ≤ row.size
          rw [hd0, List.nil_append, hxs, hrow]; omega
        · intro p hp
          rw [hd0, List.nil_append] at hp ⊢
          have e5 : row.getD (0 + p) undef = ns.getD p undef := by
            rw [← hnew, Nat.zero_add, Array.getD_eq_getD_getElem?, List.getD_eq_getElem?_getD, Array.getElem?_append_left (by simp; omega)]
            simp
          show VRel ρ' _ (row.getD (0 + p) undef)
          rw [e5]
          exact (hN.2 p (by omega)).mono hm)
      simp only [List.length_set] at r1 r2
      refine fin _ ρ' _ rfl rfl rfl (by simp [World.size_alloc]) (fun k hk' => hsame k hk') r2 r4 (fun l' h => by rw [r1] at h; cases h; exact Nat.le_refl _) (.slice r1 (Nat.le_refl _) hcap (.inl rfl) ?_)
      show 0 + 0 + grownCap w (0 + m) 0 el * i.size ≤ row.size
      rw [hrow, hzs, ← Nat.add_mul, Nat.zero_add]
      exact Nat.mul_le_mul_right _ (by omega)
  obtain ⟨o1, q1, q2, q3⟩ := hh.rel b l hl
  rw [hH] at q1; cases q1
  obtain ⟨q4, cs, E, fr, q5, q6, q7, q8, q9⟩ := q3
  have hb : b < s.H.length := (List.getElem?_eq_some_iff.1 hH).1
  have hwr : wr s.H b := ⟨_, hH, rfl⟩
  have hkill := kill_rel hh hl (fun vs' sz' h => by rw [hH] at h; cases h)
  have hNl : ns.length = m * i.size := hS.newsLen
  have hnb : n + m ≤ (2 * (n + m) + 1000) * i.bytes := Nat.le_trans (by omega) (Nat.le_mul_of_pos_right _ hpos)
  have kb : ∀ c m', kill ρ b c = .at m' → c ≠ b ∧ ρ c = .at m' := fun c m' h => by
    unfold kill at h
    by_cases e : c = b
    · rw [if_pos e] at h; cases h
    · rw [if_neg e] at h; exact ⟨e, h⟩
  -- how all is, with the new name
  have fin : ∀ (w' : World) (l' : Loc) (v' : Value), w'.os = w.os → w'.tape = w.tape → w'.output = w.output → w.heap.size ≤ w'.heap.size → l'.blk < w'.heap.size → (∀ c m', kill ρ b c = .at m' → m'.blk ≠ l'.blk) → (∀ c m', kill ρ b c = .at m' → w'.heap[m'.blk]? = w.heap[m'.blk]?) →
      (∀ k, k < w.heap.size → ¬ Owned ρ s.H k → w'.heap[k]? = w.heap[k]?) → (Owned ρ s.H l'.blk ∨ w.heap.size ≤ l'.blk) →
      (∀ ρ', (∀ c, kill ρ b c ≠ .none → ρ' c = kill ρ b c ∨ ρ' c = .dead) → ORel ρ' l' w' (.cells true (vs.drop o ++ xs) i.size)) →
      (∀ ρ', ρ' s.H.length = .at l' → VRel ρ' (.slice (some ⟨s.H.length, 0, none⟩) (n + m) (n + m)) v') →
      ∃ s' ρ', K s' ∧ SRel N0 ρ' s' (a.put dst v') w' ∧ Fr N0.length ρ s.H w ρ' s'.H w' := by
    intro w' l' v' p1 p2 p3 p4 p5 p6 p7 p8 p9 p10 p11
    obtain ⟨ρ', r1, r2, r3, r4⟩ := new_at (o := .cells true (vs.drop o ++ xs) i.size) hkill rfl l' p4 p5 p6 p7 p10
    simp only [List.length_set] at r1 r2
    have hm : ∀ c, ρ c ≠ .none → ρ' c = ρ c ∨ ρ' c = .dead := fun c hc => by
      have hcl : c < s.H.length := by
        by_cases e : c < s.H.length
        · exact e
        · exact absurd (hh.bound c (by omega)) hc
      rw [r2 c (by omega)]
      exact kill_mono ρ b c hc
    have holdA : ∀ c, c < s.H.length → ρ' c = ρ c ∨ (ρ' c = .dead ∧ ∃ l, ρ c = .at l) := fun c hc => by
      rw [r2 c (by omega)]
      unfold kill
      by_cases e : c = b
      · rw [if_pos e]; exact .inr ⟨rfl, l, by rw [e, hl]⟩
      · rw [if_neg e]; exact .inl rfl
    have hold : ∀ c, c < s.H.length → ρ' c = ρ c ∨ (ρ' c = .dead ∧ ρ c ≠ .none) := fun c hc => by
      rcases holdA c hc with e | ⟨e, l', hl'⟩
      · exact .inl e
      · exact .inr ⟨e, by rw [hl']; simp⟩
    have hs1 : SRel N0 ρ' { s with H := s.H.set b .dead ++ [.cells true (vs.drop o ++ xs) i.size] } a w' := by
      refine ⟨r4, hs'.tmps.mono hm, DRel.dead (fun d m' h3 h4 => ?_) _ _ hs'.defers, by have := hs'.len; simp; omega, hs'.entry.of fun c hc => hold c (by have := hs'.len; omega)⟩
      have hdl := (List.getElem?_eq_some_iff.1 h4).1
      have hne : d ≠ b := fun e => by rw [e, hH] at h4; cases h4
      refine ⟨?_, ?_⟩
      · rw [r2 d (by omega)]; unfold kill; rw [if_neg hne]; exact h3
      · rw [List.getElem?_append_left (by simpa using hdl), List.getElem?_set, if_neg (Ne.symm hne)]; exact h4
    refine ⟨_, ρ', hk, hs1.put hd (p11 ρ' r1), ?_⟩
    rw [ASt.put_H]
    refine ⟨p1, p2, p3, p4, p8, fun c hc => holdA c (by have := hs'.len; omega), fun c m' hc hw => ?_⟩
    by_cases e : c = s.H.length
    · subst e
      rw [r1] at hc; cases hc
      exact p9
    · rw [r2 c e] at hc
      obtain ⟨h5, h6⟩ := kb c m' hc
      refine .inl ⟨c, m', h6, rfl, ?_⟩
      have hcl : c < s.H.length := by
        obtain ⟨_, h7, _⟩ := hh.rel c m' h6
        exact (List.getElem?_eq_some_iff.1 h7).1
      obtain ⟨o3, h7, h8⟩ := hw
      rw [List.getElem?_append_left (by simpa using hcl), List.getElem?_set, if_neg (Ne.symm h5)] at h7
      exact ⟨o3, h7, h8⟩
  refine ⟨fun f _ => hF.fn f, ?_⟩
  rw [Oper.semAt_eq _ _ _ (by simp)]
  have hexec : ∀ (v : Value) (w' : World), (Builtin.append_ #[sT, yT] ty #[a.eval x, a.eval y]).run P w = .ok v w' → (execOp a.eval ⟨dst, .call { callee := .builtin .append, args := #[x, y], argTypes := #[sT, yT] }, ty, pos, af, g⟩).run P w = .ok (.value v) w' :=
    fun v w' h => run_builtin (us := #[a.eval x, a.eval y]) (by simp) (run_v h)
  by_cases hroom : n + m ≤ c'
  · -- in place
    have hr : (Builtin.append_ #[sT, yT] ty #[a.eval x, a.eval y]).run P w = .ok (.slice (some ⟨l.blk, o', none⟩) (n + m) c') (w.setCells l.blk (o' + n * i.size) ns) := by
      rw [e1]
      have hmm : (n + m) * i.size ≤ c' * i.size := Nat.mul_le_mul_right _ hroom
      rw [Nat.add_mul] at hmm
      rw [q4] at k4
      refine run_append_room_src w sT yT ty el i hu hi l.blk o' n c' (a.eval y) m ns hS hroom (fun j hj => ?_) (fun j hj => ?_)
      · have : o' = l.base + o := by
          rcases k3 with h | h
          · exact h
          · have : m = 0 := by omega
            rw [hNl, this] at hj; simp at hj
        rw [cell_at q5 (by omega)]; rfl
      · have : o' = l.base + o := by
          rcases k3 with h | h
          · exact h
          · have : m = 0 := by omega
            rw [hNl, this] at hj; simp at hj
        exact frozen_world q5 (q9 rfl) (by omega) (by omega)
    rw [hexec _ _ hr]
    obtain ⟨s1, s2, s3, s4⟩ := size_setCells l.blk ns (o' + n * i.size) w
    have hother : ∀ k, k ≠ l.blk → (w.setCells l.blk (o' + n * i.size) ns).heap[k]? = w.heap[k]? := fun k hk' => other_setCells _ _ hk' _ _ _
    have hfree : ∀ c m', kill ρ b c = .at m' → m'.blk ≠ l.blk := fun c m' h => by
      obtain ⟨h5, h6⟩ := kb c m' h
      exact (hh.inj b c l m' (Ne.symm h5) hl h6 hwr).symm
    refine fin _ ⟨l.blk, l.base + o, l.lim, i.size⟩ _ s2 s3 s4 (by omega) (by show l.blk < _; omega) hfree (fun c m' h => hother _ (hfree c m' h)) (fun k hk' ho => hother k (fun e => ho ⟨b, l, hl, e.symm, hwr⟩)) (.inl ⟨b, l, hl, rfl, hwr⟩) (fun ρ' hm => ?_) (fun ρ' hρ => ?_)
    · refine ⟨rfl, ?_⟩
      by_cases hm0 : m = 0
      · have hns : ns = [] := List.length_eq_zero_iff.1 (by rw [hNl, hm0, Nat.zero_mul])
        subst hns
        refine ⟨cs, E, fr, q5, ?_, q7, ?_, fun _ => fun p hp1 hp2 => q9 rfl p (by show l.base ≤ p; have : l.base + o ≤ p := hp1; omega) hp2⟩
        · show l.base + o + _ ≤ l.lim
          have hx0 : xs = [] := List.length_eq_zero_iff.1 (by rw [hxs, hm0, Nat.zero_mul])
          rw [hx0]; simp; omega
        · intro p hp
          have hx0 : xs = [] := List.length_eq_zero_iff.1 (by rw [hxs, hm0, Nat.zero_mul])
          subst hx0
          simp only [List.append_nil, List.length_drop] at hp ⊢
          have := (q8 (o + p) (by omega)).mono (kill_mono ρ b)
          have := this.mono hm
          simpa [List.getD_eq_getElem?_getD, List.getElem?_drop, Nat.add_assoc] using this
      · have ho' : o' = l.base + o := by
          rcases k3 with h | h
          · exact h
          · omega
        have hmm : (n + m) * i.size ≤ c' * i.size := Nat.mul_le_mul_right _ hroom
        rw [Nat.add_mul] at hmm
        rw [q4] at k4
        obtain ⟨cs', p1, p2, p3⟩ := heap_setCells l.blk ns (o' + n * i.size) w cs E fr q5 (by omega)
        have htk := hxs
        refine ⟨cs', E, fr, p1, ?_, by rw [p2]; exact q7, ?_, fun _ => fun p hp1 hp2 => q9 rfl p (by show l.base ≤ p; have : l.base + o ≤ p := hp1; omega) hp2⟩
        · show l.base + o + _ ≤ l.lim
          rw [List.length_append, htk, List.length_drop]; omega
        · intro p hp
          rw [List.length_append, htk, List.length_drop] at hp
          show VRel ρ' _ (cs'.getD (l.base + o + p) undef)
          rw [p3]
          by_cases hp2 : p < n * i.size
          · rw [if_neg (by omega)]
            have := ((q8 (o + p) (by omega)).mono (kill_mono ρ b)).mono hm
            rw [List.getD_eq_getElem?_getD, List.getElem?_append_left (by simp; omega), List.getElem?_drop, ← List.getD_eq_getElem?_getD, Nat.add_assoc]
            exact this
          · rw [if_pos (by omega)]
            have := ((hN.2 (p - n * i.size) (by omega)).mono (kill_mono ρ b)).mono hm
            rw [List.getD_eq_getElem?_getD, List.getElem?_append_right (by simp; omega), ← List.getD_eq_getElem?_getD]
            rw [show p - (vs.drop o).length = p - n * i.size by simp; omega, show l.base + o + p - (o' + n * i.size) = p - n * i.size by omega]
            exact this
    · refine VRel.slice (l := ⟨l.blk, l.base + o, l.lim, i.size⟩) hρ (Nat.le_refl _) hroom ?_ (by show l.base + o + 0 + c' * i.size ≤ l.lim; rw [q4] at k4; omega)
      show o' = l.base + o + 0 ∨ c' = 0
      omega
  · -- a new row
    have hgt : c' < n + m := by omega
    have hold : (Builtin.firstCells i.size n (.slice (some ⟨l.blk, o', none⟩) n c')).run P w.drew = .ok (((List.range (n * i.size)).map fun j => cs.getD (o' + j) undef)).toArray w.drew := by
      by_cases h0 : n * i.size = 0
      · show (loadCells _ (n * i.size)).run P w.drew = _
        rw [h0]
        exact run_loadCells (P := P) w.drew _ 0 (fun j => cs.getD (o' + j) undef) (fun j hj => by omega)
      · have ho' : o' = l.base + o := by
          rcases k3 with h | h
          · exact h
          · have : n = 0 := by omega
            rw [this, Nat.zero_mul] at h0; exact absurd rfl h0
        exact run_load_cells (w := w.drew) q5 (by omega)
    have hr := run_append_grow_src (P := P) w sT yT ty el i z hu hi hiz (some ⟨l.blk, o', none⟩) n c' _ hold (a.eval y) m ns hS hgt (by have := hnb; omega) (by have := Nat.mul_le_mul_right i.bytes (nextcap_le hgt); omega)
    rw [← e1] at hr
    rw [hexec _ _ hr]
    have htk := hxs
    have hcap := grownCap_ge w (n + m) c' el
    generalize hnew : ((((List.range (n * i.size)).map fun j => cs.getD (o' + j) undef) ++ ns).toArray ++ Builtin.zeroCells z.cells (grownCap w (n + m) c' el - (n + m))) = row
    have hrow : row.size = n * i.size + m * i.size + (grownCap w (n + m) c' el - (n + m)) * z.cells.size := by
      rw [← hnew]; simp [size_zeroCells, hNl]
    have hsame : ∀ k, k < w.heap.size → (w.drew.alloc (.cells row el)).heap[k]? = w.heap[k]? := fun k hk' => Below.heap_alloc w.drew _ k hk'
    have hlt : ∀ c m', kill ρ b c = .at m' → m'.blk < w.heap.size := fun c m' h => by
      obtain ⟨_, h6⟩ := kb c m' h
      obtain ⟨_, _, h7, _⟩ := hh.rel c m' h6
      exact h7
    have hzc : i.size ≤ z.cells.size ∨ z.cells.size < i.size := by omega
    refine fin _ ⟨w.heap.size, 0, row.size, i.size⟩ _ rfl rfl rfl (by simp [World.size_alloc]) (by simp [World.size_alloc]) (fun c m' h => by have := hlt c m' h; show m'.blk ≠ w.heap.size; omega) (fun c m' h => hsame _ (hlt c m' h)) (fun k hk' _ => hsame k hk') (.inr (Nat.le_refl _)) (fun ρ' hm => ?_) (fun ρ' hρ => ?_)
    · refine ⟨rfl, row, el, (0, 0), World.alloc_heap_new w.drew _, ?_, Nat.le_refl _, ?_, fun _ => frozen_none _⟩
      · show 0 + _ ≤ row.size
        rw [List.length_append, htk, List.length_drop, hrow]; omega
      · intro p hp
        rw [List.length_append, htk, List.length_drop] at hp
        have e3 : row.getD (0 + p) undef = (((List.range (n * i.size)).map fun j => cs.getD (o' + j) undef) ++ ns).getD p undef := by
          rw [← hnew, Nat.zero_add, Array.getD_eq_getD_getElem?, List.getD_eq_getElem?_getD, Array.getElem?_append_left (by simp; omega)]
          simp
        show VRel ρ' _ (row.getD (0 + p) undef)
        rw [e3]
        by_cases hp2 : p < n * i.size
        · have ho' : o' = l.base + o := by
            rcases k3 with h | h
            · exact h
            · have : n = 0 := by omega
              rw [this, Nat.zero_mul] at hp2; omega
          have := ((q8 (o + p) (by omega)).mono (kill_mono ρ b)).mono hm
          rw [List.getD_eq_getElem?_getD (l := vs.drop o ++ _), List.getElem?_append_left (by simp; omega), List.getElem?_drop]
          rw [List.getD_eq_getElem?_getD (l := _ ++ ns), List.getElem?_append_left (by simp; omega)]
          simpa [List.getD_eq_getElem?_getD, hp2, ho', Nat.add_assoc] using this
        · have := ((hN.2 (p - n * i.size) (by omega)).mono (kill_mono ρ b)).mono hm
          rw [List.getD_eq_getElem?_getD, List.getElem?_append_right (by simp; omega), ← List.getD_eq_getElem?_getD]
          rw [List.getD_eq_getElem?_getD (l := _ ++ ns), List.getElem?_append_right (by simp; omega), ← List.getD_eq_getElem?_getD]
          rw [show p - (vs.drop o).length = p - n * i.size by simp; omega]
          simpa using this
    · refine .slice hρ (Nat.le_refl _) hcap (.inl rfl) ?_
      show 0 + 0 + grownCap w (n + m) c' el * i.size ≤ row.size
      rw [hrow, hzs, ← Nat.add_mul, ← Nat.add_mul, Nat.zero_add]
      exact Nat.mul_le_mul_right _ (by omega)
theorem o_append {K : ASt → Prop} (hF : Wd F) {x y : Operand} {sT yT el e' : TypeId} {i : TypeInfo} {z : Value} {b o n c b2 o2 m c2 sz : Nat} {vs us : List Value} {sz2 : Nat} (hu : P.underlying sT = some (.slice el)) (hy : P.underlying yT = some (.slice e')) (hi : P.info? el = some i) (hiz : i.zero = some z) (hsz : i.size = sz) (hpos : 0 < i.bytes) (hzs : z.cells.size = sz)
    (hx : ev s.T x = .slice (some ⟨b, o, none⟩) n c) (hyv : ev s.T y = .slice (some ⟨b2, o2, none⟩) m c2) (hH : s.H[b]? = some (.cells true vs sz)) (hR : Rd s.H b2 us sz2) (htail : o + n * sz = vs.length) (hsrc : o2 + m * sz ≤ us.length)
    (hbig : (2 * (n + m) + 1000) * i.bytes ≤ 281474976710656) (hc : ∀ u ∈ (us.drop o2).take (m * sz), Lc s.H u) (hcx : cOk s.H x) (hcy : cOk s.H y) (hd : dOk s.nt dst)
    (hk : K (ASt.put { s with H := s.H.set b .dead ++ [.cells true (vs.drop o ++ (us.drop o2).take (m * sz)) sz] } dst (.slice (some ⟨s.H.length, 0, none⟩) (n + m) (n + m)))) :
    OpOk F nn P N0 ⟨dst, .call { callee := .builtin .append, args := #[x, y], argTypes := #[sT, yT] }, ty, pos, af, g⟩ K s :=
  o_appendG hF hu hi hiz hsz hpos hzs hx (fun ρ w v' hh hv => by rw [hyv] at hv; exact src_of hh hy hR hv hsrc hc) hH htail (by simp; omega) hbig hcx hcy hd hk
/-- append to nil: a new block. It is quiet. -/
theorem q_append_nil {T : Nat → Value} {H : AHeap} {x y : Operand} {sT yT el e' : TypeId} {i : TypeInfo} {z : Value} {b2 o2 m c2 sz : Nat} {us : List Value} {sz2 : Nat} (hu : P.underlying sT = some (.slice el)) (hy : P.underlying yT = some (.slice e')) (hi : P.info? el = some i) (hiz : i.zero = some z) (hsz : i.size = sz) (hpos : 0 < i.bytes) (hzs : z.cells.size = sz)
    (hx : ev T x = .slice none 0 0) (hyv : ev T y = .slice (some ⟨b2, o2, none⟩) m c2) (hR : Rd H b2 us sz2) (hm : 0 < m) (hsrc : o2 + m * sz ≤ us.length) (hbig : (2 * m + 1000) * i.bytes ≤ 281474976710656) (hc : ∀ u ∈ (us.drop o2).take (m * sz), Lc H u) {N : Nat} (hN0 : H.length = N) :
    OpQ P ⟨dst, .call { callee := .builtin .append, args := #[x, y], argTypes := #[sT, yT] }, ty, pos, af, g⟩ T H (.slice (some ⟨N, 0, none⟩) m m) [.cells true ((us.drop o2).take (m * sz)) sz] := by
  subst hN0
  refine ⟨by simp, by simp [AObj.wr], fun ρ e w hh he => ?_⟩
  have h1 := he x (by simp [Op.operands, Call.operands])
  have h2 := he y (by simp [Op.operands, Call.operands])
  rw [hx] at h1
  rw [hyv] at h2
  subst hsz
  have e1 := h1.scalar_eq rfl
  obtain ⟨ns, hS, hN⟩ := src_of (P := P) (m := i.size) hh hy hR h2 hsrc hc
  have hNl : ns.length = m * i.size := hS.newsLen
  have hnb : m ≤ (2 * m + 1000) * i.bytes := Nat.le_trans (by omega) (Nat.le_mul_of_pos_right _ hpos)
  have hr := run_append_grow_src (P := P) w sT yT ty el i z hu hi hiz none 0 0 [] (by rfl) (e y) m ns hS (by omega) (by omega) (by rw [Nat.zero_add]; have := Nat.mul_le_mul_right i.bytes (nextcap_le hm); omega)
  simp only [Nat.zero_add] at hr
  rw [← e1] at hr
  have hexec : (execOp e ⟨dst, .call { callee := .builtin .append, args := #[x, y], argTypes := #[sT, yT] }, ty, pos, af, g⟩).run P w = _ := run_builtin (us := #[e x, e y]) (by simp) (run_v hr)
  rw [hexec]
  have htk : ((us.drop o2).take (m * i.size)).length = m * i.size := by have := hN.1; omega
  have hcap := grownCap_ge w m 0 el
  obtain ⟨ρ', k1, k2, k3, k4⟩ := new_cells (w1 := w.drew.alloc (.cells (([] ++ ns).toArray ++ Builtin.zeroCells z.cells (grownCap w m 0 el - m)) el)) (E := el) (fr := (0, 0)) (hh.drawn (w.drawn + 1)) i.size (vs := (us.drop o2).take (m * i.size)) (cs := ([] ++ ns).toArray ++ Builtin.zeroCells z.cells (grownCap w m 0 el - m))
    (fun p hp => by
      have := hN.2 p hp
      have hp' : p < ns.length := by have := hN.1; omega
      have e3 : (([] ++ ns).toArray ++ Builtin.zeroCells z.cells (grownCap w m 0 el - m)).getD (0 + p) undef = ns.getD p undef := by
        rw [Nat.zero_add, Array.getD_eq_getD_getElem?, List.getD_eq_getElem?_getD, Array.getElem?_append_left (by simpa using hp')]
        simp
      rw [e3]; exact this) (by simp [hNl]; omega) (frozen_none _) rfl rfl rfl rfl
  refine ⟨ρ', .slice k1 (Nat.le_refl _) (by omega) (.inl rfl) ?_, k3, ⟨k4.os, k4.tape, k4.output, k4.size, k4.keep, k4.old, k4.fresh⟩⟩
  show 0 + 0 + grownCap w m 0 el * i.size ≤ _
  simp only [List.nil_append, Array.size_append, List.size_toArray, hNl, size_zeroCells, hzs]
  rw [← Nat.add_mul]
  simp only [Nat.zero_add]
  exact Nat.mul_le_mul_right _ (by omega)
end
end Go.Proofs.YtbjlabokijchpaaA
