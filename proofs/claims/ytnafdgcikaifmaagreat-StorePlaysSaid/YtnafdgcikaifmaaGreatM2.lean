/-
  Walks over abstract states: texts of one claim, merged.
-/
import Derived.Test.YtnafdgcikaifmaaGreatM1
import Derived.Deep.AppendSrc
import Derived.Below
import Derived.Laws.BitsLemmas
import Derived.MapKept
import Derived.Scope
import Derived.Lib.AppendZerosOnto
import Derived.Lib.UnsafeStr
import Derived.Lib.Builder
import Derived.Laws.Externs
import Derived.Test.YtnafdgcikaifmaaGreatProg
import Derived.KernelRfl
/-
  append.
-/
namespace Go.Proofs.YtnafdgcikaifmaaGreatA
set_option linter.unusedVariables false
open Go Go.RowKit Go.Shelf
def kill (ρ : Ren) (b : Nat) : Ren := fun c => if c = b then .dead else ρ c
theorem kill_mono (ρ : Ren) (b : Nat) : ∀ c, ρ c ≠ .none → kill ρ b c = ρ c ∨ kill ρ b c = .dead := fun c _ => by
  unfold kill; by_cases h : c = b
  · exact .inr (if_pos h)
  · exact .inl (if_neg h)
/-- A block of which no more is to be known. -/
theorem kill_rel {ρ : Ren} {H : AHeap} {w : World} (hh : HRel ρ H w) {b : Nat} {l : Loc} (hl : ρ b = .at l) (hg : ∀ vs sz, H[b]? ≠ some (.glob vs sz)) : HRel (kill ρ b) (H.set b .dead) w := by
  obtain ⟨o1, q1, q2, q3⟩ := hh.rel b l hl
  have hb : b < H.length := (List.getElem?_eq_some_iff.1 q1).1
  have e1 : ∀ c, c ≠ b → kill ρ b c = ρ c := fun c h => if_neg h
  have e2 : kill ρ b b = .dead := if_pos rfl
  have hne : ∀ c m, kill ρ b c = .at m → c ≠ b := fun c m h e => by rw [e, e2] at h; cases h
  have hwr' : ∀ c, wr (H.set b .dead) c → wr H c := fun c ⟨o2, h1, h2⟩ => by
    by_cases e1 : c = b
    · subst e1; rw [List.getElem?_set, if_pos rfl, if_pos hb] at h1; cases h1; simp [AObj.wr] at h2
    · rw [List.getElem?_set, if_neg (Ne.symm e1)] at h1; exact ⟨o2, h1, h2⟩
  refine ⟨fun c hc => ?_, fun c m hm => ?_, fun c d m m' hcd hc hd hw => ?_, fun g vs sz hg' => ?_, fun c hc => ?_⟩
  · simp only [List.length_set] at hc
    rw [e1 c (by omega)]; exact hh.bound c hc
  · have := hne c m hm
    rw [e1 c this] at hm
    obtain ⟨o2, r1, r2, r3⟩ := hh.rel c m hm
    exact ⟨o2, by rw [List.getElem?_set, if_neg (Ne.symm this)]; exact r1, r2, r3.mono (kill_mono ρ b) rfl⟩
  · have h1 := hne c m hc
    have h2 := hne d m' hd
    rw [e1 c h1] at hc
    rw [e1 d h2] at hd
    exact hh.inj c d m m' hcd hc hd (hwr' c hw)
  · by_cases e3 : g = b
    · subst e3; rw [List.getElem?_set, if_pos rfl, if_pos hb] at hg'; cases hg'
    · rw [List.getElem?_set, if_neg (Ne.symm e3)] at hg'
      obtain ⟨m, h1, h2⟩ := hh.glob g vs sz hg'
      exact ⟨m, (e1 g e3).trans h1, h2⟩
  · by_cases e3 : c = b
    · subst e3; rw [List.getElem?_set, if_pos rfl, if_pos hb]
    · rw [e1 c e3] at hc
      rw [List.getElem?_set, if_neg (Ne.symm e3)]; exact hh.isdead c hc
/-- A new name for a place that no name stands for. -/
theorem new_at {ρ : Ren} {H : AHeap} {w w1 : World} (hh : HRel ρ H w) {o : AObj} (hw : o.wr = true) (l : Loc) (hsz : w.heap.size ≤ w1.heap.size) (hl : l.blk < w1.heap.size) (hfree : ∀ c m, ρ c = .at m → m.blk ≠ l.blk) (hsame : ∀ c m, ρ c = .at m → w1.heap[m.blk]? = w.heap[m.blk]?)
    (hO : ∀ ρ', (∀ b, ρ b ≠ .none → ρ' b = ρ b ∨ ρ' b = .dead) → ORel ρ' l w1 o) :
    ∃ ρ', ρ' H.length = .at l ∧ (∀ b, b ≠ H.length → ρ' b = ρ b) ∧ (∀ b, ρ b ≠ .none → ρ' b = ρ b ∨ ρ' b = .dead) ∧ HRel ρ' (H ++ [o]) w1 := by
  obtain ⟨ρ', hρ⟩ : ∃ ρ' : Ren, ρ' = fun b => if b = H.length then .at l else ρ b := ⟨_, rfl⟩
  have e1 : ρ' H.length = .at l := by rw [hρ]; exact if_pos rfl
  have e2 : ∀ b, b ≠ H.length → ρ' b = ρ b := fun b hb => by rw [hρ]; exact if_neg hb
  have hm : ∀ b, ρ b ≠ .none → ρ' b = ρ b ∨ ρ' b = .dead := fun b hb => .inl (e2 b (fun h => hb (by rw [h]; exact hh.bound _ (Nat.le_refl _))))
  refine ⟨ρ', e1, e2, hm, ⟨fun b hb => ?_, fun b m hb => ?_, fun b c m m' hne hb hc hwr => ?_, fun g vs sz hg => ?_, fun b hb => ?_⟩⟩
  · simp only [List.length_append, List.length_cons, List.length_nil] at hb
    rw [e2 b (by omega)]; exact hh.bound b (by omega)
  · by_cases h : b = H.length
    · subst h
      rw [e1] at hb; cases hb
      exact ⟨o, by simp, hl, hO ρ' hm⟩
    · rw [e2 b h] at hb
      obtain ⟨o', h1, h2, h3⟩ := hh.rel b m hb
      have hlt : b < H.length := (List.getElem?_eq_some_iff.1 h1).1
      exact ⟨o', by rw [List.getElem?_append_left hlt]; exact h1, by omega, h3.mono hm (hsame b m hb)⟩
  · by_cases h : b = H.length <;> by_cases h' : c = H.length
    · omega
    · subst h
      rw [e1] at hb; cases hb
      rw [e2 c h'] at hc
      exact (hfree c m' hc).symm
    · subst h'
      rw [e1] at hc; cases hc
      rw [e2 b h] at hb
      exact hfree b m hb
    · rw [e2 b h] at hb
      rw [e2 c h'] at hc
      refine hh.inj b c m m' hne hb hc ?_
      obtain ⟨o', h1, h2⟩ := hwr
      have hlt : b < H.length := by
        obtain ⟨o2, h3, _⟩ := hh.rel b m hb
        exact (List.getElem?_eq_some_iff.1 h3).1
      rw [List.getElem?_append_left hlt] at h1
      exact ⟨o', h1, h2⟩
  · by_cases h : g < H.length
    · rw [List.getElem?_append_left h] at hg
      obtain ⟨m, h1, h2, h3⟩ := hh.glob g vs sz hg
      exact ⟨m, by rw [e2 g (by omega)]; exact h1, h2, h3⟩
    · rw [List.getElem?_append_right (by omega)] at hg
      have := List.mem_of_getElem? hg
      simp at this
      subst this
      simp [AObj.wr] at hw
  · by_cases h : b = H.length
    · subst h; rw [e1] at hb; cases hb
    · rw [e2 b h] at hb
      have := hh.isdead b hb
      rw [List.getElem?_append_left (List.getElem?_eq_some_iff.1 this).1]; exact this
/-- A new name that stands for nil. -/
theorem null_new {ρ : Ren} {H : AHeap} {w : World} (hh : HRel ρ H w) {o : AObj} (hg : ∀ vs sz, o ≠ .glob vs sz) :
    ∃ ρ', ρ' H.length = .null ∧ (∀ b, b ≠ H.length → ρ' b = ρ b) ∧ (∀ b, ρ b ≠ .none → ρ' b = ρ b ∨ ρ' b = .dead) ∧ HRel ρ' (H ++ [o]) w := by
  obtain ⟨ρ', hρ⟩ : ∃ ρ' : Ren, ρ' = fun b => if b = H.length then .null else ρ b := ⟨_, rfl⟩
  have e1 : ρ' H.length = .null := by rw [hρ]; exact if_pos rfl
  have e2 : ∀ b, b ≠ H.length → ρ' b = ρ b := fun b hb => by rw [hρ]; exact if_neg hb
  have hm : ∀ b, ρ b ≠ .none → ρ' b = ρ b ∨ ρ' b = .dead := fun b hb => .inl (e2 b (fun h => hb (by rw [h]; exact hh.bound _ (Nat.le_refl _))))
  have hat : ∀ b m, ρ' b = .at m → b ≠ H.length ∧ ρ b = .at m := fun b m h => by
    have hne : b ≠ H.length := fun e => by rw [e, e1] at h; cases h
    exact ⟨hne, by rw [← e2 b hne]; exact h⟩
  have hlt : ∀ b m, ρ b = .at m → b < H.length := fun b m h => by
    obtain ⟨_, h1, _⟩ := hh.rel b m h
    exact (List.getElem?_eq_some_iff.1 h1).1
  refine ⟨ρ', e1, e2, hm, ⟨fun b hb => ?_, fun b m hb => ?_, fun b c m m' hne hb hc hwr => ?_, fun g vs sz hg' => ?_, fun b hb => ?_⟩⟩
  · simp only [List.length_append, List.length_cons, List.length_nil] at hb
    rw [e2 b (by omega)]; exact hh.bound b (by omega)
  · obtain ⟨hne, hb⟩ := hat b m hb
    obtain ⟨o', h1, h2, h3⟩ := hh.rel b m hb
    exact ⟨o', by rw [List.getElem?_append_left (hlt b m hb)]; exact h1, h2, h3.mono hm rfl⟩
  · obtain ⟨_, hb⟩ := hat b m hb
    obtain ⟨_, hc⟩ := hat c m' hc
    refine hh.inj b c m m' hne hb hc ?_
    obtain ⟨o', h1, h2⟩ := hwr
    rw [List.getElem?_append_left (hlt b m hb)] at h1
    exact ⟨o', h1, h2⟩
  · by_cases h : g < H.length
    · rw [List.getElem?_append_left h] at hg'
      obtain ⟨m, h1, h2, h3⟩ := hh.glob g vs sz hg'
      exact ⟨m, by rw [e2 g (by omega)]; exact h1, h2, h3⟩
    · rw [List.getElem?_append_right (by omega)] at hg'
      have := List.mem_of_getElem? hg'
      simp at this
      exact absurd this.symm (hg vs sz)
  · have hne : b ≠ H.length := fun e => by rw [e, e1] at hb; cases hb
    rw [e2 b hne] at hb
    have := hh.isdead b hb
    rw [List.getElem?_append_left (List.getElem?_eq_some_iff.1 this).1]; exact this
/-- What is said of a name that stands for nil matters not. -/
theorem null_rel {ρ : Ren} {H : AHeap} {w : World} (hh : HRel ρ H w) {b : Nat} (hl : ρ b = .null) (hg : ∀ vs sz, H[b]? ≠ some (.glob vs sz)) {o : AObj} (ho : ∀ vs sz, o ≠ .glob vs sz) : HRel ρ (H.set b o) w := by
  have hne : ∀ c m, ρ c = .at m → c ≠ b := fun c m h e => by rw [e, hl] at h; cases h
  refine ⟨fun c hc => hh.bound c (by simpa using hc), fun c m hm => ?_, fun c d m m' hcd hc hd hw => ?_, fun g vs sz hg' => ?_, fun c hc => ?_⟩
  · obtain ⟨o2, r1, r2, r3⟩ := hh.rel c m hm
    exact ⟨o2, by rw [List.getElem?_set, if_neg (Ne.symm (hne c m hm))]; exact r1, r2, r3⟩
  · refine hh.inj c d m m' hcd hc hd ?_
    obtain ⟨o2, h1, h2⟩ := hw
    rw [List.getElem?_set, if_neg (Ne.symm (hne c m hc))] at h1
    exact ⟨o2, h1, h2⟩
  · by_cases e3 : b = g
    · subst e3
      rw [List.getElem?_set, if_pos rfl] at hg'
      split at hg'
      · cases hg'; exact absurd rfl (ho vs sz)
      · cases hg'
    · rw [List.getElem?_set, if_neg e3] at hg'
      exact hh.glob g vs sz hg'
  · have hne : b ≠ c := fun e => by rw [← e, hl] at hc; cases hc
    rw [List.getElem?_set, if_neg hne]; exact hh.isdead c hc
theorem growBy_le (n : Nat) : ∀ (r c : Nat), Builtin.growBy n r c ≤ max c (n + (n + 768) / 4)
  | 0, c => Nat.le_max_left _ _
  | r + 1, c => by
    unfold Builtin.growBy
    split
    · exact Nat.le_max_left _ _
    · have := growBy_le n r (c + (c + 768) / 4)
      omega
theorem nextcap_le {n o : Nat} (h : o < n) : Builtin.nextslicecap n o ≤ 2 * n + 1000 := by
  unfold Builtin.nextslicecap
  split
  · omega
  · split
    · omega
    · have := growBy_le n 4 o
      omega
section
variable {P : Program}
theorem first_zero (w : World) (m : Nat) (a : Option Addr) : (Builtin.firstCells m 0 (.slice a 0 0)).run P w = .ok #[] w := by
  cases a with
  | none => rfl
  | some a =>
    show (loadCells a (0 * m)).run P w = _
    rw [Nat.zero_mul]
    exact run_loadCells (P := P) w a 0 (fun _ => undef) (fun j hj => by omega)
theorem run_first {ρ : Ren} {H : AHeap} {w : World} (hh : HRel ρ H w) {b o n c m k : Nat} {v' : Value} {vs : List Value} {sz : Nat} (hR : Rd H b vs sz) (hv : VRel ρ (.slice (some ⟨b, o, none⟩) n c) v') (hk : o + k * m ≤ vs.length) (hkn : k ≤ n) :
    ∃ us : Array Value, (Builtin.firstCells m k v').run P w = .ok us w ∧ LRel ρ ((vs.drop o).take (k * m)) us.toList ∧ (Builtin.lenOf v').run P w = .ok n w := by
  rcases vrel_slice hh hv hR.live with ⟨l, o', c', hl, h2, h3, h4, h5, h6⟩ | ⟨e1, e2, _, a, e3⟩
  case inr =>
    obtain rfl : k = 0 := by omega
    refine ⟨#[], ?_, by rw [Nat.zero_mul]; simpa using LRel.nil ρ, by rw [e3, e1]; rfl⟩
    rw [e3]
    exact first_zero w m a
  obtain ⟨_, cs, E, fr, h7, h8, h9, h10⟩ := hR.get hh hl
  subst h2
  by_cases hk0 : k * m = 0
  · refine ⟨#[], ?_, by rw [hk0]; simpa using LRel.nil ρ, rfl⟩
    show (loadCells _ (k * m)).run P w = _
    rw [hk0]
    exact run_loadCells (P := P) w _ 0 (fun _ => undef) (fun j hj => by omega)
  · have ho : o' = l.base + o := by
      rcases h5 with h | h
      · exact h
      · have : k = 0 := by omega
        subst this; simp at hk0
    refine ⟨((List.range (k * m)).map fun j => cs.getD (o' + j) undef).toArray, run_load_cells h7 (by omega), ⟨by simp; omega, fun i hi => ?_⟩, rfl⟩
    have hi' : i < k * m := by simp at hi; omega
    have := h10 (o + i) (by omega)
    have e1 : ((vs.drop o).take (k * m)).getD i undef = vs.getD (o + i) undef := by
      simp only [List.getD_eq_getElem?_getD, List.getElem?_take, List.getElem?_drop, if_pos hi']
    have e2 : (((List.range (k * m)).map fun j => cs.getD (o' + j) undef).toArray.toList).getD i undef = cs.getD (l.base + (o + i)) undef := by
      simp [hi', ho, Nat.add_assoc, List.getD_eq_getElem?_getD]
    rw [e1, e2]
    exact this
/-- What is appended, as the kit tells it. -/
theorem src_of {ρ : Ren} {H : AHeap} {w : World} (hh : HRel ρ H w) {b o n c m : Nat} {v' : Value} {vs : List Value} {sz : Nat} {tx e' : TypeId} (hk : P.underlying tx = some (.slice e')) (hR : Rd H b vs sz) (hv : VRel ρ (.slice (some ⟨b, o, none⟩) n c) v') (hl : o + n * m ≤ vs.length)
    (hc : ∀ u ∈ (vs.drop o).take (n * m), Lc H u) : ∃ us, Src P m tx v' n us w ∧ LRel ρ ((vs.drop o).take (n * m)) us := by
  obtain ⟨us, h1, h2, h3⟩ := run_first (P := P) hh hR hv hl (Nat.le_refl _)
  obtain ⟨us', h1', h2', h3'⟩ := run_first (P := P) (hh.drawn (w.drawn + 1)) hR hv hl (Nat.le_refl _)
  have hsame : us' = us := by
    rcases vrel_slice hh hv hR.live with ⟨l, o', c', hl', e2, _⟩ | ⟨e1, _, _, a, e2⟩
    case inr =>
      have hz : ((vs.drop o).take (n * m)).length = 0 := by rw [e1, Nat.zero_mul]; simp
      have z1 := h2.1
      have z2 := h2'.1
      have y1 : us.toList = [] := List.length_eq_zero_iff.1 (by omega)
      have y2 : us'.toList = [] := List.length_eq_zero_iff.1 (by omega)
      exact Array.toList_inj.1 (y2.trans y1.symm)
    subst e2
    have hw : ∀ (a : Addr) (k : Nat) (x y : Array Value), (loadCells a k).run P w = .ok x w → (loadCells a k).run P { w with drawn := w.drawn + 1 } = .ok y { w with drawn := w.drawn + 1 } → x = y := by
      intro a k x y hx hy
      have key : ∀ (k i : Nat) (acc : Array Value) (x y : Array Value), (loadCellsFrom a i k acc).run P w = .ok x w → (loadCellsFrom a i k acc).run P { w with drawn := w.drawn + 1 } = .ok y { w with drawn := w.drawn + 1 } → x = y := by
        intro k
        induction k with
        | zero => intro i acc x y hx hy; simp [loadCellsFrom] at hx hy; rw [← hx, ← hy]
        | succ k ih =>
          intro i acc x y hx hy
          simp only [loadCellsFrom, Sem.run_bind, run_load] at hx hy
          have hcell : World.cell? { w with drawn := w.drawn + 1 } (a.add i) = w.cell? (a.add i) := rfl
          rw [hcell] at hy
          cases hcc : w.cell? (a.add i) with
          | some v => rw [hcc] at hx hy; exact ih _ _ _ _ hx hy
          | none =>
            rw [hcc] at hx hy
            have hfar : World.farLoad P { w with drawn := w.drawn + 1 } (a.add i) (Mode.plain == .atomic) = w.farLoad P (a.add i) (Mode.plain == .atomic) := rfl
            simp only [hfar] at hy
            cases hf : w.farLoad P (a.add i) (Mode.plain == .atomic) with
            | ok r => rw [hf] at hx hy; exact ih _ _ _ _ hx hy
            | error e => rw [hf] at hx; cases hx
      exact key k 0 #[] x y hx hy
    exact (hw _ _ _ _ h1 h1').symm
  subst hsame
  refine ⟨us'.toList, ⟨.inl ⟨e', hk⟩, fun w' => ?_, by simpa using h1, by simpa using h1', by have := h2.1; simp at this; simp; omega, fun u hu => ?_⟩, h2⟩
  · rcases vrel_slice hh hv hR.live with ⟨l, o', c', hl', e2, _⟩ | ⟨e1, _, _, a, e2⟩
    · subst e2; rfl
    · subst e2; rw [e1]; rfl
  · obtain ⟨i, hi, rfl⟩ := List.mem_iff_getElem.1 hu
    have hi' : i < ((vs.drop o).take (n * m)).length := by have := h2.1; omega
    have h4 := h2.2 i hi'
    rw [List.getD_eq_getElem?_getD, List.getD_eq_getElem?_getD, List.getElem?_eq_getElem hi', List.getElem?_eq_getElem hi] at h4
    exact vrel_one hh h4 (hc _ (List.getElem_mem hi'))
theorem append_zero (w : World) {sT yT el : TypeId} {ty : TypeId} {i : TypeInfo} {y : Value} {ns : List Value} (hu : P.underlying sT = some (.slice el)) (hi : P.info? el = some i) (hS : Src P i.size yT y 0 ns w) (hns : ns = []) (ba : Option Addr) :
    (Builtin.append_ #[sT, yT] ty #[.slice ba 0 0, y]).run P w = .ok (.slice ba 0 0) w := by
  subst hns
  have hc := hS.cells
  cases ba with
  | none => rcases hS.kind with ⟨e', hk⟩ | hk <;> simp [Builtin.append_, run_underlying hu, run_underlying hk, sizeOf, typeInfo, hi, hS.len, hc]
  | some a => rcases hS.kind with ⟨e', hk⟩ | hk <;> simp [Builtin.append_, run_underlying hu, run_underlying hk, sizeOf, typeInfo, hi, hS.len, hc, storeCells]
variable {F : Fence} {nn : Nat} {N0 : AHeap} {s : ASt} {dst : Option Tmp} {ty : TypeId} {pos : String} {af : Array Edge} {g : Option (Nat × Bool)}
theorem frozen_world {w : World} {b : Nat} {cs : Array Value} {E : TypeId} {fr : Nat × Nat} (h : w.heap[b]? = some (.cells cs E fr)) {l : Loc} (hf : frozenFree fr l) {i : Nat} (h1 : l.base ≤ i) (h2 : i < l.lim) : w.frozen? ⟨b, i, none⟩ = false := by
  have h3 := hf i h1 h2
  cases h5 : w.frozen? ⟨b, i, none⟩ with
  | false => rfl
  | true =>
    unfold World.frozen? at h5
    rw [h] at h5
    obtain ⟨lo, hi⟩ := fr
    simp only [Bool.and_eq_true, decide_eq_true_eq] at h5
    exact absurd h5 h3
theorem DRel.dead {ρ ρ' : Ren} {H H' : AHeap} (hk : ∀ d l, ρ d = .at l → H[d]? = some .mark → ρ' d = .at l ∧ H'[d]? = some .mark) : ∀ (D : List Nat) (ds : List Deferred), DRel ρ H D ds → DRel ρ' H' D ds := DRel.fr hk
/-- append to a slice of one's own: its block is dead behind it; the new one has a name of its own. -/
theorem o_appendG {K : ASt → Prop} (hF : Wd F) {x y : Operand} {sT yT el : TypeId} {i : TypeInfo} {z : Value} {b o n c m sz : Nat} {vs xs : List Value} (hu : P.underlying sT = some (.slice el)) (hi : P.info? el = some i) (hiz : i.zero = some z) (hsz : i.size = sz) (hpos : 0 < i.bytes) (hzs : z.cells.size = sz)
    (hx : ev s.T x = .slice (some ⟨b, o, none⟩) n c) (hy0 : ∀ ρ w v', HRel ρ s.H w → VRel ρ (ev s.T y) v' → ∃ ns, Src P sz yT v' m ns w ∧ LRel ρ xs ns) (hH : s.H[b]? = some (.cells true vs sz)) (htail : o + n * sz = vs.length) (hxs : xs.length = m * sz)
    (hbig : (2 * (n + m) + 1000) * i.bytes ≤ 281474976710656) (hcx : cOk s.H x) (hcy : cOk s.H y) (hd : dOk s.nt dst)
    (hk : K (ASt.put { s with H := s.H.set b .dead ++ [.cells true (vs.drop o ++ xs) sz] } dst (.slice (some ⟨s.H.length, 0, none⟩) (n + m) (n + m)))) :
    OpOk F nn P N0 ⟨dst, .call { callee := .builtin .append, args := #[x, y], argTypes := #[sT, yT] }, ty, pos, af, g⟩ K s := by
  intro ρ a w hs'
  have hh := hs'.heap
  have h1 := ev_rel hh hs'.tmps hcx
  have h2 := ev_rel hh hs'.tmps hcy
  rw [hx] at h1
  subst hsz
  obtain ⟨ns, hS, hN⟩ := hy0 ρ w _ hh h2
  rcases vrel_slice hh h1 (by rw [hH]; simp) with ⟨l, o', c', hl, e1, k1, k2, k3, k4⟩ | ⟨e1, e2, e3, ba, e4⟩
  case inr =>
    subst e1 e2
    have hb : b < s.H.length := (List.getElem?_eq_some_iff.1 hH).1
    have hnull := null_rel (o := .dead) hh e3 (fun vs' sz' h => by rw [hH] at h; cases h) (by simp)
    have hd0 : vs.drop o = [] := by rw [List.drop_eq_nil_iff]; omega
    have hNl : ns.length = m * i.size := hS.newsLen
    have hlt : ∀ c m', ρ c = .at m' → m'.blk < w.heap.size := fun c m' h => by
      obtain ⟨_, _, h7, _⟩ := hh.rel c m' h
      exact h7
    have fin : ∀ (w' : World) (ρ' : Ren) (v' : Value), w'.os = w.os → w'.tape = w.tape → w'.output = w.output → w.heap.size ≤ w'.heap.size → (∀ k, k < w.heap.size → w'.heap[k]? = w.heap[k]?) → (∀ c, c ≠ s.H.length → ρ' c = ρ c) → HRel ρ' (s.H.set b .dead ++ [.cells true (vs.drop o ++ xs) i.size]) w' →
        (∀ l', ρ' s.H.length = .at l' → w.heap.size ≤ l'.blk) → VRel ρ' (.slice (some ⟨s.H.length, 0, none⟩) (0 + m) (0 + m)) v' →
        ∃ s' ρ', K s' ∧ SRel N0 ρ' s' (a.put dst v') w' ∧ Fr N0.length ρ s.H w ρ' s'.H w' := by
      intro w' ρ' v' p1 p2 p3 p4 p5 r2 r4 p9 p11
      have hm : ∀ c, ρ c ≠ .none → ρ' c = ρ c ∨ ρ' c = .dead := fun c hc => .inl (r2 c (fun e => hc (by rw [e]; exact hh.bound _ (Nat.le_refl _))))
      have hold : ∀ c, c < s.H.length → ρ' c = ρ c := fun c hc => r2 c (by omega)
      have hs1 : SRel N0 ρ' { s with H := s.H.set b .dead ++ [.cells true (vs.drop o ++ xs) i.size] } a w' := by
        refine ⟨r4, hs'.tmps.mono hm, DRel.dead (fun d m' h3 h4 => ?_) _ _ hs'.defers, by have := hs'.len; simp; omega, hs'.entry.of fun c hc => .inl (hold c (by have := hs'.len; omega))⟩
        have hdl := (List.getElem?_eq_some_iff.1 h4).1
        have hne : d ≠ b := fun e => by rw [e, hH] at h4; cases h4
        exact ⟨(hold d hdl).trans h3, by rw [List.getElem?_append_left (by simpa using hdl), List.getElem?_set, if_neg (Ne.symm hne)]; exact h4⟩
      refine ⟨_, ρ', hk, hs1.put hd p11, ?_⟩
      rw [ASt.put_H]
      refine ⟨p1, p2, p3, p4, fun k hk' _ => p5 k hk', fun c hc => .inl (hold c (by have := hs'.len; omega)), fun c m' hc hw => ?_⟩
      by_cases e : c = s.H.length
      · subst e; exact .inr (p9 m' hc)
      · rw [r2 c e] at hc
        have hcl : c < s.H.length := by
          obtain ⟨_, h7, _⟩ := hh.rel c m' hc
          exact (List.getElem?_eq_some_iff.1 h7).1
        obtain ⟨o3, h7, h8⟩ := hw
        have hne : c ≠ b := fun e => by rw [e, e3] at hc; cases hc
        rw [List.getElem?_append_left (by simpa using hcl), List.getElem?_set, if_neg (Ne.symm hne)] at h7
        exact .inl ⟨c, m', hc, rfl, o3, h7, h8⟩
    refine ⟨fun f _ => hF.fn f, ?_⟩
    rw [Oper.semAt_eq _ _ _ (by simp)]
    have hexec : ∀ (v : Value) (w' : World), (Builtin.append_ #[sT, yT] ty #[a.eval x, a.eval y]).run P w = .ok v w' → (execOp a.eval ⟨dst, .call { callee := .builtin .append, args := #[x, y], argTypes := #[sT, yT] }, ty, pos, af, g⟩).run P w = .ok (.value v) w' :=
      fun v w' h => run_builtin (us := #[a.eval x, a.eval y]) (by simp) (run_v h)
    by_cases hm0 : m = 0
    · subst hm0
      have hns : ns = [] := List.length_eq_zero_iff.1 (by rw [hNl, Nat.zero_mul])
      have hx0 : xs = [] := List.length_eq_zero_iff.1 (by rw [hxs, Nat.zero_mul])
      have hr : (Builtin.append_ #[sT, yT] ty #[a.eval x, a.eval y]).run P w = .ok (.slice ba 0 0) w := by
        rw [e4]
        exact append_zero w hu hi hS hns ba
      rw [hexec _ _ hr]
      obtain ⟨ρ', r1, r2, r3, r4⟩ := null_new hnull (o := .cells true (vs.drop o ++ xs) i.size) (by simp)
      simp only [List.length_set] at r1 r2
      exact fin w ρ' _ rfl rfl rfl (Nat.le_refl _) (fun _ _ => rfl) r2 r4 (fun l' h => by rw [r1] at h; cases h) (.empty r1)
    · have hnb : m ≤ (2 * (0 + m) + 1000) * i.bytes := Nat.le_trans (by omega) (Nat.le_mul_of_pos_right _ hpos)
      have hr := run_append_grow_src (P := P) w sT yT ty el i z hu hi hiz ba 0 0 [] (first_zero _ _ _) (a.eval y) m ns hS (by omega) (by omega) (by have := Nat.mul_le_mul_right i.bytes (nextcap_le (n := 0 + m) (o := 0) (by omega)); omega)
      rw [← e4] at hr
      rw [hexec _ _ hr]
      have hcap := grownCap_ge w (0 + m) 0 el
      generalize hnew : ((([] : List Value) ++ ns).toArray ++ Builtin.zeroCells z.cells (grownCap w (0 + m) 0 el - (0 + m))) = row
      have hrow : row.size = m * i.size + (grownCap w (0 + m) 0 el - (0 + m)) * z.cells.size := by
        rw [← hnew]; simp [size_zeroCells, hNl]
      have hsame : ∀ k, k < w.heap.size → (w.drew.alloc (.cells row el)).heap[k]? = w.heap[k]? := fun k hk' => Below.heap_alloc w.drew _ k hk'
      obtain ⟨ρ', r1, r2, r3, r4⟩ := new_at (w1 := w.drew.alloc (.cells row el)) (o := .cells true (vs.drop o ++ xs) i.size) hnull rfl ⟨w.heap.size, 0, row.size, i.size⟩ (by simp [World.size_alloc]) (by simp [World.size_alloc]) (fun c m' h => by have := hlt c m' h; show m'.blk ≠ w.heap.size; omega) (fun c m' h => hsame _ (hlt c m' h)) (fun ρ' hm => by
        refine ⟨rfl, row, el, (0, 0), World.alloc_heap_new w.drew _, ?_, Nat.le_refl _, ?_, fun _ => frozen_none _⟩
        · show 0 + _ ≤ row.size
          rw [hd0, List.nil_append, hxs, hrow]; omega
        · intro p hp
          rw [hd0, List.nil_append] at hp ⊢
          have e5 : row.getD (0 + p) undef = ns.getD p undef := by
            rw [← hnew, Nat.zero_add, Array.getD_eq_getD_getElem?, List.getD_eq_getElem?_getD, Array.getElem?_append_left (by simp; omega)]
            simp
          show VRel ρ' _ (row.getD (0 + p) undef)
          rw [e5]
          exact (hN.2 p (by omega)).mono hm)
      simp only [List.length_set] at r1 r2
      refine fin _ ρ' _ rfl rfl rfl (by simp [World.size_alloc]) (fun k hk' => hsame k hk') r2 r4 (fun l' h => by rw [r1] at h; cases h; exact Nat.le_refl _) (.slice r1 (Nat.le_refl _) hcap (.inl rfl) ?_)
      show 0 + 0 + grownCap w (0 + m) 0 el * i.size ≤ row.size
      rw [hrow, hzs, ← Nat.add_mul, Nat.zero_add]
      exact Nat.mul_le_mul_right _ (by omega)
  obtain ⟨o1, q1, q2, q3⟩ := hh.rel b l hl
  rw [hH] at q1; cases q1
  obtain ⟨q4, cs, E, fr, q5, q6, q7, q8, q9⟩ := q3
  have hb : b < s.H.length := (List.getElem?_eq_some_iff.1 hH).1
  have hwr : wr s.H b := ⟨_, hH, rfl⟩
  have hkill := kill_rel hh hl (fun vs' sz' h => by rw [hH] at h; cases h)
  have hNl : ns.length = m * i.size := hS.newsLen
  have hnb : n + m ≤ (2 * (n + m) + 1000) * i.bytes := Nat.le_trans (by omega) (Nat.le_mul_of_pos_right _ hpos)
  have kb : ∀ c m', kill ρ b c = .at m' → c ≠ b ∧ ρ c = .at m' := fun c m' h => by
    unfold kill at h
    by_cases e : c = b
    · rw [if_pos e] at h; cases h
    · rw [if_neg e] at h; exact ⟨e, h⟩
  -- how all is, with the new name
  have fin : ∀ (w' : World) (l' : Loc) (v' : Value), w'.os = w.os → w'.tape = w.tape → w'.output = w.output → w.heap.size ≤ w'.heap.size → l'.blk < w'.heap.size → (∀ c m', kill ρ b c = .at m' → m'.blk ≠ l'.blk) → (∀ c m', kill ρ b c = .at m' → w'.heap[m'.blk]? = w.heap[m'.blk]?) →
      (∀ k, k < w.heap.size → ¬ Owned ρ s.H k → w'.heap[k]? = w.heap[k]?) → (Owned ρ s.H l'.blk ∨ w.heap.size ≤ l'.blk) →
      (∀ ρ', (∀ c, kill ρ b c ≠ .none → ρ' c = kill ρ b c ∨ ρ' c = .dead) → ORel ρ' l' w' (.cells true (vs.drop o ++ xs) i.size)) →
      (∀ ρ', ρ' s.H.length = .at l' → VRel ρ' (.slice (some ⟨s.H.length, 0, none⟩) (n + m) (n + m)) v') →
      ∃ s' ρ', K s' ∧ SRel N0 ρ' s' (a.put dst v') w' ∧ Fr N0.length ρ s.H w ρ' s'.H w' := by
    intro w' l' v' p1 p2 p3 p4 p5 p6 p7 p8 p9 p10 p11
    obtain ⟨ρ', r1, r2, r3, r4⟩ := new_at (o := .cells true (vs.drop o ++ xs) i.size) hkill rfl l' p4 p5 p6 p7 p10
    simp only [List.length_set] at r1 r2
    have hm : ∀ c, ρ c ≠ .none → ρ' c = ρ c ∨ ρ' c = .dead := fun c hc => by
      have hcl : c < s.H.length := by
        by_cases e : c < s.H.length
        · exact e
        · exact absurd (hh.bound c (by omega)) hc
      rw [r2 c (by omega)]
      exact kill_mono ρ b c hc
    have holdA : ∀ c, c < s.H.length → ρ' c = ρ c ∨ (ρ' c = .dead ∧ ∃ l, ρ c = .at l) := fun c hc => by
      rw [r2 c (by omega)]
      unfold kill
      by_cases e : c = b
      · rw [if_pos e]; exact .inr ⟨rfl, l, by rw [e, hl]⟩
      · rw [if_neg e]; exact .inl rfl
    have hold : ∀ c, c < s.H.length → ρ' c = ρ c ∨ (ρ' c = .dead ∧ ρ c ≠ .none) := fun c hc => by
      rcases holdA c hc with e | ⟨e, l', hl'⟩
      · exact .inl e
      · exact .inr ⟨e, by rw [hl']; simp⟩
    have hs1 : SRel N0 ρ' { s with H := s.H.set b .dead ++ [.cells true (vs.drop o ++ xs) i.size] } a w' := by
      refine ⟨r4, hs'.tmps.mono hm, DRel.dead (fun d m' h3 h4 => ?_) _ _ hs'.defers, by have := hs'.len; simp; omega, hs'.entry.of fun c hc => hold c (by have := hs'.len; omega)⟩
      have hdl := (List.getElem?_eq_some_iff.1 h4).1
      have hne : d ≠ b := fun e => by rw [e, hH] at h4; cases h4
      refine ⟨?_, ?_⟩
      · rw [r2 d (by omega)]; unfold kill; rw [if_neg hne]; exact h3
      · rw [List.getElem?_append_left (by simpa using hdl), List.getElem?_set, if_neg (Ne.symm hne)]; exact h4
    refine ⟨_, ρ', hk, hs1.put hd (p11 ρ' r1), ?_⟩
    rw [ASt.put_H]
    refine ⟨p1, p2, p3, p4, p8, fun c hc => holdA c (by have := hs'.len; omega), fun c m' hc hw => ?_⟩
    by_cases e : c = s.H.length
    · subst e
      rw [r1] at hc; cases hc
      exact p9
    · rw [r2 c e] at hc
      obtain ⟨h5, h6⟩ := kb c m' hc
      refine .inl ⟨c, m', h6, rfl, ?_⟩
      have hcl : c < s.H.length := by
        obtain ⟨_, h7, _⟩ := hh.rel c m' h6
        exact (List.getElem?_eq_some_iff.1 h7).1
      obtain ⟨o3, h7, h8⟩ := hw
      rw [List.getElem?_append_left (by simpa using hcl), List.getElem?_set, if_neg (Ne.symm h5)] at h7
      exact ⟨o3, h7, h8⟩
  refine ⟨fun f _ => hF.fn f, ?_⟩
  rw [Oper.semAt_eq _ _ _ (by simp)]
  have hexec : ∀ (v : Value) (w' : World), (Builtin.append_ #[sT, yT] ty #[a.eval x, a.eval y]).run P w = .ok v w' → (execOp a.eval ⟨dst, .call { callee := .builtin .append, args := #[x, y], argTypes := #[sT, yT] }, ty, pos, af, g⟩).run P w = .ok (.value v) w' :=
    fun v w' h => run_builtin (us := #[a.eval x, a.eval y]) (by simp) (run_v h)
  by_cases hroom : n + m ≤ c'
  · -- in place
    have hr : (Builtin.append_ #[sT, yT] ty #[a.eval x, a.eval y]).run P w = .ok (.slice (some ⟨l.blk, o', none⟩) (n + m) c') (w.setCells l.blk (o' + n * i.size) ns) := by
      rw [e1]
      have hmm : (n + m) * i.size ≤ c' * i.size := Nat.mul_le_mul_right _ hroom
      rw [Nat.add_mul] at hmm
      rw [q4] at k4
      refine run_append_room_src w sT yT ty el i hu hi l.blk o' n c' (a.eval y) m ns hS hroom (fun j hj => ?_) (fun j hj => ?_)
      · have : o' = l.base + o := by
          rcases k3 with h | h
          · exact h
          · have : m = 0 := by omega
            rw [hNl, this] at hj; simp at hj
        rw [cell_at q5 (by omega)]; rfl
      · have : o' = l.base + o := by
          rcases k3 with h | h
          · exact h
          · have : m = 0 := by omega
            rw [hNl, this] at hj; simp at hj
        exact frozen_world q5 (q9 rfl) (by omega) (by omega)
    rw [hexec _ _ hr]
    obtain ⟨s1, s2, s3, s4⟩ := size_setCells l.blk ns (o' + n * i.size) w
    have hother : ∀ k, k ≠ l.blk → (w.setCells l.blk (o' + n * i.size) ns).heap[k]? = w.heap[k]? := fun k hk' => other_setCells _ _ hk' _ _ _
    have hfree : ∀ c m', kill ρ b c = .at m' → m'.blk ≠ l.blk := fun c m' h => by
      obtain ⟨h5, h6⟩ := kb c m' h
      exact (hh.inj b c l m' (Ne.symm h5) hl h6 hwr).symm
    refine fin _ ⟨l.blk, l.base + o, l.lim, i.size⟩ _ s2 s3 s4 (by omega) (by show l.blk < _; omega) hfree (fun c m' h => hother _ (hfree c m' h)) (fun k hk' ho => hother k (fun e => ho ⟨b, l, hl, e.symm, hwr⟩)) (.inl ⟨b, l, hl, rfl, hwr⟩) (fun ρ' hm => ?_) (fun ρ' hρ => ?_)
    · refine ⟨rfl, ?_⟩
      by_cases hm0 : m = 0
      · have hns : ns = [] := List.length_eq_zero_iff.1 (by rw [hNl, hm0, Nat.zero_mul])
        subst hns
        refine ⟨cs, E, fr, q5, ?_, q7, ?_, fun _ => fun p hp1 hp2 => q9 rfl p (by show l.base ≤ p; have : l.base + o ≤ p := hp1; omega) hp2⟩
        · show l.base + o + _ ≤ l.lim
          have hx0 : xs = [] := List.length_eq_zero_iff.1 (by rw [hxs, hm0, Nat.zero_mul])
          rw [hx0]; simp; omega
        · intro p hp
          have hx0 : xs = [] := List.length_eq_zero_iff.1 (by rw [hxs, hm0, Nat.zero_mul])
          subst hx0
          simp only [List.append_nil, List.length_drop] at hp ⊢
          have := (q8 (o + p) (by omega)).mono (kill_mono ρ b)
          have := this.mono hm
          simpa [List.getD_eq_getElem?_getD, List.getElem?_drop, Nat.add_assoc] using this
      · have ho' : o' = l.base + o := by
          rcases k3 with h | h
          · exact h
          · omega
        have hmm : (n + m) * i.size ≤ c' * i.size := Nat.mul_le_mul_right _ hroom
        rw [Nat.add_mul] at hmm
        rw [q4] at k4
        obtain ⟨cs', p1, p2, p3⟩ := heap_setCells l.blk ns (o' + n * i.size) w cs E fr q5 (by omega)
        have htk := hxs
        refine ⟨cs', E, fr, p1, ?_, by rw [p2]; exact q7, ?_, fun _ => fun p hp1 hp2 => q9 rfl p (by show l.base ≤ p; have : l.base + o ≤ p := hp1; omega) hp2⟩
        · show l.base + o + _ ≤ l.lim
          rw [List.length_append, htk, List.length_drop]; omega
        · intro p hp
          rw [List.length_append, htk, List.length_drop] at hp
          show VRel ρ' _ (cs'.getD (l.base + o + p) undef)
          rw [p3]
          by_cases hp2 : p < n * i.size
          · rw [if_neg (by omega)]
            have := ((q8 (o + p) (by omega)).mono (kill_mono ρ b)).mono hm
            rw [List.getD_eq_getElem?_getD, List.getElem?_append_left (by simp; omega), List.getElem?_drop, ← List.getD_eq_getElem?_getD, Nat.add_assoc]
            exact this
          · rw [if_pos (by omega)]
            have := ((hN.2 (p - n * i.size) (by omega)).mono (kill_mono ρ b)).mono hm
            rw [List.getD_eq_getElem?_getD, List.getElem?_append_right (by simp; omega), ← List.getD_eq_getElem?_getD]
            rw [show p - (vs.drop o).length = p - n * i.size by simp; omega, show l.base + o + p - (o' + n * i.size) = p - n * i.size by omega]
            exact this
    · refine VRel.slice (l := ⟨l.blk, l.base + o, l.lim, i.size⟩) hρ (Nat.le_refl _) hroom ?_ (by show l.base + o + 0 + c' * i.size ≤ l.lim; rw [q4] at k4; omega)
      show o' = l.base + o + 0 ∨ c' = 0
      omega
  · -- a new row
    have hgt : c' < n + m := by omega
    have hold : (Builtin.firstCells i.size n (.slice (some ⟨l.blk, o', none⟩) n c')).run P w.drew = .ok (((List.range (n * i.size)).map fun j => cs.getD (o' + j) undef)).toArray w.drew := by
      by_cases h0 : n * i.size = 0
      · show (loadCells _ (n * i.size)).run P w.drew = _
        rw [h0]
        exact run_loadCells (P := P) w.drew _ 0 (fun j => cs.getD (o' + j) undef) (fun j hj => by omega)
      · have ho' : o' = l.base + o := by
          rcases k3 with h | h
          · exact h
          · have : n = 0 := by omega
            rw [this, Nat.zero_mul] at h0; exact absurd rfl h0
        exact run_load_cells (w := w.drew) q5 (by omega)
    have hr := run_append_grow_src (P := P) w sT yT ty el i z hu hi hiz (some ⟨l.blk, o', none⟩) n c' _ hold (a.eval y) m ns hS hgt (by have := hnb; omega) (by have := Nat.mul_le_mul_right i.bytes (nextcap_le hgt); omega)
    rw [← e1] at hr
    rw [hexec _ _ hr]
    have htk := hxs
    have hcap := grownCap_ge w (n + m) c' el
    generalize hnew : ((((List.range (n * i.size)).map fun j => cs.getD (o' + j) undef) ++ ns).toArray ++ Builtin.zeroCells z.cells (grownCap w (n + m) c' el - (n + m))) = row
    have hrow : row.size = n * i.size + m * i.size + (grownCap w (n + m) c' el - (n + m)) * z.cells.size := by
      rw [← hnew]; simp [size_zeroCells, hNl]
    have hsame : ∀ k, k < w.heap.size → (w.drew.alloc (.cells row el)).heap[k]? = w.heap[k]? := fun k hk' => Below.heap_alloc w.drew _ k hk'
    have hlt : ∀ c m', kill ρ b c = .at m' → m'.blk < w.heap.size := fun c m' h => by
      obtain ⟨_, h6⟩ := kb c m' h
      obtain ⟨_, _, h7, _⟩ := hh.rel c m' h6
      exact h7
    have hzc : i.size ≤ z.cells.size ∨ z.cells.size < i.size := by omega
    refine fin _ ⟨w.heap.size, 0, row.size, i.size⟩ _ rfl rfl rfl (by simp [World.size_alloc]) (by simp [World.size_alloc]) (fun c m' h => by have := hlt c m' h; show m'.blk ≠ w.heap.size; omega) (fun c m' h => hsame _ (hlt c m' h)) (fun k hk' _ => hsame k hk') (.inr (Nat.le_refl _)) (fun ρ' hm => ?_) (fun ρ' hρ => ?_)
    · refine ⟨rfl, row, el, (0, 0), World.alloc_heap_new w.drew _, ?_, Nat.le_refl _, ?_, fun _ => frozen_none _⟩
      · show 0 + _ ≤ row.size
        rw [List.length_append, htk, List.length_drop, hrow]; omega
      · intro p hp
        rw [List.length_append, htk, List.length_drop] at hp
        have e3 : row.getD (0 + p) undef = (((List.range (n * i.size)).map fun j => cs.getD (o' + j) undef) ++ ns).getD p undef := by
          rw [← hnew, Nat.zero_add, Array.getD_eq_getD_getElem?, List.getD_eq_getElem?_getD, Array.getElem?_append_left (by simp; omega)]
          simp
        show VRel ρ' _ (row.getD (0 + p) undef)
        rw [e3]
        by_cases hp2 : p < n * i.size
        · have ho' : o' = l.base + o := by
            rcases k3 with h | h
            · exact h
            · have : n = 0 := by omega
              rw [this, Nat.zero_mul] at hp2; omega
          have := ((q8 (o + p) (by omega)).mono (kill_mono ρ b)).mono hm
          rw [List.getD_eq_getElem?_getD (l := vs.drop o ++ _), List.getElem?_append_left (by simp; omega), List.getElem?_drop]
          rw [List.getD_eq_getElem?_getD (l := _ ++ ns), List.getElem?_append_left (by simp; omega)]
          simpa [List.getD_eq_getElem?_getD, hp2, ho', Nat.add_assoc] using this
        · have := ((hN.2 (p - n * i.size) (by omega)).mono (kill_mono ρ b)).mono hm
          rw [List.getD_eq_getElem?_getD, List.getElem?_append_right (by simp; omega), ← List.getD_eq_getElem?_getD]
          rw [List.getD_eq_getElem?_getD (l := _ ++ ns), List.getElem?_append_right (by simp; omega), ← List.getD_eq_getElem?_getD]
          rw [show p - (vs.drop o).length = p - n * i.size by simp; omega]
          simpa using this
    · refine .slice hρ (Nat.le_refl _) hcap (.inl rfl) ?_
      show 0 + 0 + grownCap w (n + m) c' el * i.size ≤ row.size
      rw [hrow, hzs, ← Nat.add_mul, ← Nat.add_mul, Nat.zero_add]
      exact Nat.mul_le_mul_right _ (by omega)
end
end Go.Proofs.YtnafdgcikaifmaaGreatA


/-
  Ranges over functions.
-/
namespace Go.Proofs.YtnafdgcikaifmaaGreatA
set_option linter.unusedVariables false
open Go Go.RowKit Go.Shelf
/-! ### Yield -/
/-- A call of yield answers a bool. -/
def YieldsB (P : Program) (y : Value) (args : Array Value) (W : World) (R : Bool → World → Prop) : Prop :=
  (∃ l fn tmps assign body, y = .func (.yield l) #[] #[] ∧ (Instr.yield l args).run P W = .ok (.round l fn tmps assign body) W ∧ RoundIn Fence.wide 0 P l fn tmps assign body W fun e W' => ∃ b, e = .returned (.bool b) ∧ R b W') ∨
  (∃ g caps, y = .func (.func g) #[] caps ∧ Enters P g ∧ Calls P g (args ++ caps) W fun e W' => ∃ b, e = .returned (.bool b) ∧ R b W')
def Ylds (P : Program) (y : Value) (args : List Value) (H : AHeap) (R : Bool → AHeap → Prop) : Prop :=
  ∀ ρ w y' args', HRel ρ H w → VRel ρ y y' → LRel ρ args args'.toList → YieldsB P y' args' w fun b w' => ∃ H' ρ', R b H' ∧ HRel ρ' H' w' ∧ Fr H.length ρ H w ρ' H' w' ∧ H.length ≤ H'.length
/-- yield is a function's closure. -/
theorem ylds_func {P : Program} {g : FuncId} {caps : Array Value} {args : List Value} {H : AHeap} {R : Bool → AHeap → Prop} (hE : Enters P g) (h : ACalls P g (args ++ caps.toList) H fun v H' => ∃ b, v = .bool b ∧ R b H') : Ylds P (.func (.func g) #[] caps) args H R := by
  intro ρ w y' args' hh hy ha
  obtain ⟨fs', cs', rfl, h3, _, h4, h5⟩ := vrel_func hy
  have hfs : fs' = #[] := Array.eq_empty_of_size_eq_zero (by simpa using h3.symm)
  subst hfs
  have hc : LRel ρ caps.toList cs'.toList := ⟨by simpa using h4, fun i hi => by have := h5 i (by simpa using hi); simpa [List.getD_eq_getElem?_getD] using this⟩
  refine .inr ⟨g, cs', rfl, hE, (h ρ w _ hh (by rw [Array.toList_append]; exact ha.append hc)).mono ?_⟩
  rintro e w' ⟨v, v', H', ρ', rfl, ⟨b, rfl, hR⟩, k1, k2, k3, k4⟩
  exact ⟨b, by rw [vrel_bool k1], H', ρ', hR, k2, k3, k4⟩
theorem round_any {P : Program} {l f : Nat} {tmps : Array Value} {assign body : Code} {w : World} {R : Ending → World → Prop} {m : Nat} (h : RoundIn Fence.wide m P l f tmps assign body w R) (n : Nat) : RoundIn Fence.wide n P l f tmps assign body w R :=
  ⟨h.1, fun c cs _ => h.2 c cs (room_wide _)⟩
section
variable {n : Nat} {P : Program} {N0 : AHeap} {s : ASt} {dst : Option Tmp} {ty : TypeId} {pos : String} {af : Array Edge} {g : Option (Nat × Bool)}
/-- The operation 'yield(..)'. -/
theorem o_yield {K : ASt → Prop} {t : Tmp} {xs : Array Operand} {ats : Array TypeId} {y : Value} {args : List Value} {R : Bool → AHeap → Prop} (hx : s.T t = y) (hargs : xs.toList.map (ev s.T) = args) (h : Ylds P y args s.H R) (hc : ∀ z ∈ xs, cOk s.H z) (hd : dOk s.nt dst) (hD : s.D = [])
    (hk : ∀ b H', R b H' → K (ASt.put { s with H := H' } dst (.bool b))) : OpOk Fence.wide n P N0 ⟨dst, .call { callee := .value (.tmp t), args := xs, argTypes := ats }, ty, pos, af, g⟩ K s := by
  subst hargs
  intro ρ a w hs
  have hh := hs.heap
  have hy := hs.tmps.2 t
  rw [hx] at hy
  have hY := h ρ w (a.tmps.getD t undef) (xs.map a.eval) hh hy (lrel_args xs fun z hz => ev_rel hh hs.tmps (hc z hz))
  have fin : ∀ b w', (∃ H' ρ', R b H' ∧ HRel ρ' H' w' ∧ Fr s.H.length ρ s.H w ρ' H' w' ∧ s.H.length ≤ H'.length) → ∃ s' ρ', K s' ∧ SRel N0 ρ' s' (a.put dst (.bool b)) w' ∧ Fr N0.length ρ s.H w ρ' s'.H w' := by
    rintro b w' ⟨H', ρ', hR, k2, k3, k4⟩
    have hm' : ∀ b, ρ b ≠ .none → ρ' b = ρ b ∨ ρ' b = .dead := fun b hb => by
      rcases k3.old b (by
        by_cases e : b < s.H.length
        · exact e
        · exact absurd (hh.bound b (by omega)) hb) with e | ⟨e, _⟩
      · exact .inl e
      · exact .inr e
    have hs1 : SRel N0 ρ' { s with H := H' } a w' := ⟨k2, hs.tmps.mono hm', by
      have := hs.defers
      rw [hD] at this
      show DRel ρ' H' s.D a.defers
      rw [hD]
      cases hdd : a.defers with
      | nil => trivial
      | cons _ _ => rw [hdd] at this; exact this.elim, by have := hs.len; show N0.length ≤ H'.length; omega, hs.entry.of fun b hb => k3.old b (by have := hs.len; omega)⟩
    refine ⟨_, ρ', hk b H' hR, hs1.put hd (.bool b), ?_⟩
    rw [ASt.put_H]
    exact k3.mono hs.len
  refine ⟨fun _ _ => trivial, ?_⟩
  rw [Oper.semAt_eq _ _ _ (by simp)]
  have hex : ∀ f, (execOp a.eval ⟨dst, .call { callee := .value (.tmp t), args := xs, argTypes := ats }, ty, pos, af, g⟩) = f → f = (do let d ← Deferred.ofValue (a.tmps.getD t undef) (xs.map a.eval); invoke d.target d.args) := fun f h => h ▸ rfl
  rw [hex _ rfl]
  rcases hY with ⟨l, fn, tmps, assign, body, e1, hrun, hR⟩ | ⟨f, caps, e1, hE, hC⟩
  · have h1 : ((do let d ← Deferred.ofValue (a.tmps.getD t undef) (xs.map a.eval); invoke d.target d.args) : Sem Next).run P w = .ok (.round l fn tmps assign body) w := by
      rw [e1]
      simp only [Deferred.ofValue, Sem.run_bind, Sem.run_pure, Result.andThen_ok, invoke]
      simpa using hrun
    rw [h1]
    refine ⟨fun h => by simp [Fence.wide] at h, round_any (hR.mono ?_) _⟩
    rintro e w' ⟨b, rfl, hb⟩
    exact fin b w' hb
  · have h1 : ((do let d ← Deferred.ofValue (a.tmps.getD t undef) (xs.map a.eval); invoke d.target d.args) : Sem Next).run P w = .ok (.enter f (xs.map a.eval ++ caps)) w := by
      rw [e1]
      simp only [Deferred.ofValue, Sem.run_bind, Sem.run_pure, Result.andThen_ok, invoke]
      simpa using hE (xs.map a.eval ++ caps) w
    rw [h1]
    refine ⟨fun h => by simp [Fence.wide] at h, callsIn_wide.2 (hC.mono ?_)⟩
    rintro e w' ⟨b, rfl, hb⟩
    exact fin b w' hb
end
/-! ### A round -/
/-- How a round's body may be left. -/
def RoundQ (l : Nat) (fn : FuncId) (nt : Nat) (T : Nat → Value) (ps : Array Tmp) (assign body : Code) (R : Bool → AHeap → Prop) : AEx → ASt → Prop
  | .normal, s => s.H[l]? = some (.loop .busy none fn nt T ps assign body) ∧ R true (s.H.set l (.loop .ready none fn nt T ps assign body))
  | .ret, s => s.H[l]? = some (.loop .busy none fn nt T ps assign body) ∧ R false (s.H.set l (.loop .done (some .ret) fn nt T ps assign body))
  | .exit id, s => s.H[l]? = some (.loop .busy none fn nt T ps assign body) ∧ R false (s.H.set l (.loop .done (some (.exit id)) fn nt T ps assign body))
  | .goto t, s => s.H[l]? = some (.loop .busy none fn nt T ps assign body) ∧ R false (s.H.set l (.loop .done (some (.goto t)) fn nt T ps assign body))
def setps (T : Nat → Value) : List Tmp → List Value → Nat → Value
  | p :: ps, v :: vs => setps (upd T p v) ps vs
  | _, _ => T
/-! ### The statement -/
section
variable {n : Nat} {P : Program} {N0 : AHeap} {Q : AEx → ASt → Prop} {nt : Nat} {T : Nat → Value} {D : List Nat} {H : AHeap}
theorem DRel.frm {ρ ρ' : Ren} {H H' : AHeap} : ∀ (D : List Nat) (ds : List Deferred), (∀ d ∈ D, ∀ l, ρ d = .at l → H[d]? = some .mark → ρ' d = .at l ∧ H'[d]? = some .mark) → DRel ρ H D ds → DRel ρ' H' D ds
  | [], [], _, _ => trivial
  | [], _ :: _, _, h => h.elim
  | _ :: _, [], _, h => h.elim
  | d :: D, x :: ds, hk, ⟨⟨l, h1, h2, h3⟩, h4⟩ => ⟨⟨l, (hk d (by simp) l h1 h2).1, (hk d (by simp) l h1 h2).2, h3⟩, DRel.frm D ds (fun d' hd' => hk d' (by simp [hd'])) h4⟩
/-- What the rest of the statement owes, the function that was ranged over having returned. -/
def RangeQ (F : Fence) (n : Nat) (P : Program) (N0 : AHeap) (l : Nat) (fn : FuncId) (nt : Nat) (T : Nat → Value) (ps : Array Tmp) (assign body : Code) (D : List Nat) (Q : AEx → ASt → Prop) (v : Value) (H' : AHeap) : Prop :=
  (∀ d ∈ D, H'[d]? = some .mark) ∧ ((H'[l]? = some (.loop .ready none fn nt T ps assign body) ∧ ∃ s2, Wk N0 ⟨nt, T, D, H'.set l .none⟩ s2 ∧ Q .normal s2) ∨
    ∃ c, H'[l]? = some (.loop .done (some c) fn nt T ps assign body) ∧ awp F n P N0 c Q ⟨nt, T, D, H'.set l .none⟩)
end
end Go.Proofs.YtnafdgcikaifmaaGreatA


/-
  More quiet operations: new slices, texts of bytes.
-/
namespace Go.Proofs.YtnafdgcikaifmaaGreatA
set_option linter.unusedVariables false
open Go Go.RowKit Go.Shelf
section
variable {P : Program} {T : Nat → Value} {H : AHeap} {dst : Option Tmp} {ty : TypeId} {pos : String} {af : Array Edge} {g : Option (Nat × Bool)}
/-- A text of bytes. -/
def bytesOf (l : List UInt8) : ByteArray := ⟨l.toArray⟩
end
end Go.Proofs.YtnafdgcikaifmaaGreatA


/-
  More ends and calls; from the world's contracts to these, and back.
-/
namespace Go.Proofs.YtnafdgcikaifmaaGreatA
set_option linter.unusedVariables false
open Go Go.RowKit Go.Shelf
theorem Gc.cast {N0 N1 H H2 : AHeap} {φ : Nat → Option Nat} (h : Gc N0 φ H H2) (hl : N0.length = N1.length) (hN : ∀ b, b < N1.length → φ b = some b → H2[b]? = H[b]? → N1[b]? = H[b]? ∨ ∃ o2 o, H2[b]? = some o2 ∧ H[b]? = some o ∧ OSub φ o2 o) : Gc N1 φ H H2 :=
  ⟨fun b hb => h.id b (by omega), by have := h.len; omega, h.inj, h.dom, fun b c hb => by
    rcases h.obj b c hb with ⟨k1, k2, k3⟩ | k
    · have := h.id b k1
      rw [hb] at this; cases this
      rcases hN b (by omega) hb k3 with e | e
      · exact .inl ⟨by omega, e, k3⟩
      · exact .inr e
    · exact .inr k, h.glob⟩
/-- A block of values without addresses. -/
def plainO : AObj → Bool
  | .cells _ vs _ => vs.all Scalar
  | .none => true
  | _ => false
/-- The heap as it was at the entry, but for blocks whose values have no addresses. -/
def Turned (H0 H1 : AHeap) : Prop := H0.length = H1.length ∧ ∀ b : Nat, H1[b]? = H0[b]? ∨ ∃ o, H1[b]? = some o ∧ plainO o = true
theorem Turned.refl (H : AHeap) : Turned H H := ⟨rfl, fun _ => .inl rfl⟩
theorem Turned.set {H0 H1 : AHeap} (h : Turned H0 H1) (b : Nat) {o : AObj} (ho : plainO o = true) : Turned H0 (H1.set b o) := ⟨by simpa using h.1, fun c => by
  by_cases e : b = c
  · subst e
    by_cases hb : b < H1.length
    · exact .inr ⟨o, by rw [List.getElem?_set, if_pos rfl, if_pos hb], ho⟩
    · exact .inl (by rw [List.getElem?_eq_none (by simp; omega), List.getElem?_eq_none (by have := h.1; omega)])
  · rw [List.getElem?_set, if_neg e]; exact h.2 c⟩
/-- Operands' values, one by one. -/
def EvL (T : Nat → Value) : List Operand → List Value → Prop
  | [], [] => True
  | x :: l, v :: vs => ev T x = v ∧ EvL T l vs
  | _, _ => False
theorem EvL.map {T : Nat → Value} : ∀ {l : List Operand} {vs : List Value}, EvL T l vs → l.map (ev T) = vs
  | [], [], _ => rfl
  | [], _ :: _, h => h.elim
  | _ :: _, [], h => h.elim
  | x :: l, v :: vs, ⟨h, k⟩ => by rw [List.map_cons, h, EvL.map k]
theorem q_makeFuncL {P : Program} {T : Nat → Value} {H : AHeap} {dst : Option Tmp} {ty : TypeId} {pos : String} {af : Array Edge} {g : Option (Nat × Bool)} {f : FuncId} {l : List Operand} (vs : List Value) (h : EvL T l vs) : OpQ P ⟨dst, .makeFunc (.func f) #[] l.toArray, ty, pos, af, g⟩ T H (.func (.func f) #[] vs.toArray) [] :=
  q_makeFunc (by rw [List.map_toArray, h.map])
section
variable {next : ASt → Prop} {Q : AEx → ASt → Prop} {s : ASt} {i id : Nat}
theorem then_ret (h : Q .ret s) : AEx.then next Q .ret s := h
theorem then_exit (h : Q (.exit i) s) : AEx.then next Q (.exit i) s := h
theorem then_normal (h : next s) : AEx.then next Q .normal s := h
theorem blk_ret (h : Q .ret s) : AEx.inBlock id Q .ret s := h
theorem blk_normal (h : Q .normal s) : AEx.inBlock id Q .normal s := h
theorem blk_exit (h : Q .normal s) : AEx.inBlock id Q (.exit id) s := by
  show if id = id then _ else _
  rw [if_pos rfl]; exact h
theorem blk_exit' (hn : i ≠ id) (h : Q (.exit i) s) : AEx.inBlock id Q (.exit i) s := by
  show if i = id then _ else _
  rw [if_neg hn]; exact h
theorem retq_ret {P : Program} {N0 : AHeap} {fn : Func} {Q : Value → AHeap → Prop} (h : Ret P N0 fn Q s) : RetQ P N0 fn Q .ret s := h
theorem retq_normal {P : Program} {N0 : AHeap} {fn : Func} {Q : Value → AHeap → Prop} (h : Ret P N0 fn Q s) : RetQ P N0 fn Q .normal s := h
theorem awp_regt {F : Fence} {n : Nat} {P : Program} {N0 : AHeap} (hF : Wd F) (hm : P.follows .mixedOrders = true) {id : Nat} {l : List Oper} (ht : tabOk l.toArray (tabOf l.toArray) = true) (hs : ssaOk l.toArray (tabOf l.toArray) = true)
    (h : dList F n P N0 l.toArray (tabOf l.toArray) 0 l (fun s' => ∃ s2, Wk N0 s' s2 ∧ Q .normal s2) s) : awp F n P N0 (.region id l.toArray true) Q s := awp_regd hF hm _ ht hs h
end
section
variable {F : Fence} {n : Nat} {P : Program} {N0 : AHeap} {ops : Array Oper} {rest : List Oper} {K : ASt → Prop} {nt : Nat} {T : Nat → Value} {H H' : AHeap} {dst : Option Tmp} {ty : TypeId} {pos : String} {af : Array Edge} {g : Option (Nat × Bool)}
/-- A slot, or none. -/
def updo (T : Nat → Value) : Option Tmp → Value → Nat → Value
  | none, _ => T
  | some d, v => upd T d v
theorem put_updo {s : ASt} (dst : Option Tmp) (v : Value) : ASt.put s dst v = { s with T := updo s.T dst v } := by cases dst <;> rfl
end
/-! ### Contracts of the world -/
end Go.Proofs.YtnafdgcikaifmaaGreatA


/-
  The System V hash, as the code's and the document's steps make it.
-/
namespace Go.Proofs.YtnafdgcikaifmaaGreatA
set_option linter.unusedVariables false
open Go Go.RowKit
def stepF (h c : Nat) : Nat := (((16 * h + c) % 2 ^ 32) % 2 ^ 28) ^^^ (16 * (((16 * h + c) % 2 ^ 32) / 2 ^ 28))
def hashN (s : ByteArray) (i : Nat) : Nat := (s.data.toList.take i).foldl (fun h c => stepF h c.toNat) 0
def hash (s : ByteArray) : Nat := hashN s s.size
end Go.Proofs.YtnafdgcikaifmaaGreatA


/-
  Slices as lists, nil or not.
-/
namespace Go.Proofs.YtnafdgcikaifmaaGreatA
set_option linter.unusedVariables false
open Go Go.RowKit Go.Shelf
/-- The value is a slice of one-celled things that holds the list. -/
def Sl {α : Type} (f : α → Value) (H : AHeap) (v : Value) (l : List α) : Prop :=
  (v = .slice none 0 0 ∧ l = []) ∨ ∃ b o c vs, v = .slice (some ⟨b, o, none⟩) l.length c ∧ Rd H b vs 1 ∧ o + l.length ≤ vs.length ∧ l.length ≤ c ∧ ∀ i (h : i < l.length), vs[o + i]? = some (f l[i])
def u32v (n : Nat) : Value := .int .u32 (n : Int)
def i64v (n : Nat) : Value := .int .i64 (n : Int)
def strv (s : ByteArray) : Value := .string s
section
variable {α : Type} {f : α → Value} {H : AHeap} {v : Value} {l : List α}
theorem Sl.nil : Sl f H (.slice none 0 0) [] := .inl ⟨rfl, rfl⟩
theorem Sl.mono (h : Sl f H v l) {H' : AHeap} (hm : ∀ b vs, v.cells = #[v] → Rd H b vs 1 → (∃ o n c, v = .slice (some ⟨b, o, none⟩) n c) → Rd H' b vs 1) : Sl f H' v l := by
  rcases h with h | ⟨b, o, c, vs, rfl, h2, h3⟩
  · exact .inl h
  · exact .inr ⟨b, o, c, vs, rfl, hm b vs rfl h2 ⟨_, _, _, rfl⟩, h3⟩
theorem Sl.app (h : Sl f H v l) (L : AHeap) : Sl f (H ++ L) v l := h.mono fun b vs _ hR _ => frm_rd' hR
theorem Sl.lc (h : Sl f H v l) : Lc H v := by
  rcases h with ⟨rfl, _⟩ | ⟨b, o, c, vs, rfl, h2, _⟩
  · exact lc_scalar rfl
  · exact lc_slice h2.live
theorem Sl.cells (h : Sl f H v l) : v.cells.toList = [v] := by
  rcases h with ⟨rfl, _⟩ | ⟨b, o, c, vs, rfl, _⟩ <;> rfl
/-- Another block turned. -/
theorem rd_set {b b' : Nat} {vs : List Value} {sz : Nat} {o : AObj} (h : Rd H b vs sz) (hne : b' ≠ b) : Rd (H.set b' o) b vs sz := by
  rcases h with ⟨w, h⟩ | h | ⟨h, h'⟩ | ⟨t, h⟩
  · exact .inl ⟨w, by rw [List.getElem?_set, if_neg hne]; exact h⟩
  · exact .inr (.inl (by rw [List.getElem?_set, if_neg hne]; exact h))
  · exact .inr (.inr (.inl ⟨by rw [List.getElem?_set, if_neg hne]; exact h, h'⟩))
  · exact .inr (.inr (.inr ⟨t, by rw [List.getElem?_set, if_neg hne]; exact h⟩))
theorem Sl.get (h : Sl f H v l) {i : Nat} (hi : i < l.length) : ∃ b o c vs, v = .slice (some ⟨b, o, none⟩) l.length c ∧ Rd H b vs 1 ∧ o + l.length ≤ vs.length ∧ l.length ≤ c ∧ ∀ i (h : i < l.length), vs[o + i]? = some (f l[i]) := by
  rcases h with ⟨_, rfl⟩ | h
  · simp at hi
  · exact h
variable {P : Program} {T : Nat → Value} {dst : Option Tmp} {ty : TypeId} {pos : String} {af : Array Edge} {g : Option (Nat × Bool)}
theorem q_len_sl {t el : TypeId} {x : Operand} (hu : P.underlying t = some (.slice el)) (h : Sl f H v l) (hx : ev T x = v) : OpQ P ⟨dst, .call { callee := .builtin .len, args := #[x], argTypes := #[t] }, ty, pos, af, g⟩ T H (.int .i64 (l.length : Nat)) [] := by
  rcases h with ⟨rfl, rfl⟩ | ⟨b, o, c, vs, rfl, h2, h3⟩
  · exact q_len_nil hu hx
  · exact q_len_slice hu hx h2
theorem sl_full {b n c : Nat} (hR : Rd H b (l.map f) 1) (hn : l.length = n) (hc : n ≤ c) : Sl f H (.slice (some ⟨b, 0, none⟩) n c) l := by
  subst hn
  exact .inr ⟨b, 0, c, l.map f, rfl, hR, by simp, hc, fun i h => by simp [h]⟩
end
/-! ### Literals -/
def setL (cs : List Value) (off : Nat) : List Value → List Value
  | [] => cs
  | c :: l => setL (cs.set off c) (off + 1) l
theorem fold_set (off : Nat) : ∀ (l : List Value) (k : Nat) (cells : Array Value), ((l.zipIdx k).foldl (fun cs (p : Value × Nat) => cs.setIfInBounds (off + p.2) p.1) cells).toList = setL cells.toList (off + k) l
  | [], k, cells => rfl
  | c :: l, k, cells => by
    rw [List.zipIdx_cons, List.foldl_cons, fold_set off l (k + 1)]
    simp [setL, Nat.add_assoc]
def fillL (place : Nat → Option (Nat × Nat)) (cells : List Value) : List (Nat × Value) → Option (List Value)
  | [] => some cells
  | (i, v) :: rest => match place i with
    | none => none
    | some (off, size) => cond (Nat.beq v.cells.toList.length size && Nat.ble (off + v.cells.toList.length) cells.length) (fillL place (setL cells off v.cells.toList) rest) none
theorem fillL_fill {place : Nat → Option (Nat × Nat)} : ∀ {ps : List (Nat × Value)} {cells : Array Value} {ds : List Value}, fillL place cells.toList ps = some ds → Instr.fill place cells ps = some ds.toArray
  | [], cells, ds, h => by
    cases h
    simp [Instr.fill]
  | (i, v) :: rest, cells, ds, h => by
    unfold fillL at h
    unfold Instr.fill
    cases hp : place i with
    | none => rw [hp] at h; cases h
    | some q =>
      obtain ⟨off, size⟩ := q
      rw [hp] at h
      dsimp only at h ⊢
      cases hb : (Nat.beq v.cells.toList.length size && Nat.ble (off + v.cells.toList.length) cells.toList.length) with
      | false => rw [hb] at h; cases h
      | true =>
        rw [hb] at h
        simp only [Bool.and_eq_true] at hb
        have h1 := Nat.eq_of_beq_eq_true hb.1
        have h2 := Nat.le_of_ble_eq_true hb.2
        rw [Array.length_toList] at h1
        rw [Array.length_toList, Array.length_toList] at h2
        rw [if_neg (by simp [h1]; omega)]
        refine fillL_fill (ds := ds) ?_
        have e := fold_set off v.cells.toList 0 cells
        rw [Nat.add_zero] at e
        rw [← Array.foldl_toList, Array.toList_zipIdx]
        rw [e]
        exact h
section
variable {P : Program} {T : Nat → Value} {H : AHeap} {dst : Option Tmp} {ty : TypeId} {pos : String} {af : Array Edge} {g : Option (Nat × Bool)}
theorem pmap_evl {l : List (Nat × Operand)} {vs : List Value} (h : EvL T (l.map (·.2)) vs) : (pmap (ev T) l.toArray).toList = (l.map (·.1)).zip vs := by
  rw [← h.map]
  have e : (pmap (ev T) l.toArray).toList = l.map fun p => (p.1, ev T p.2) := by simp [pmap]
  rw [e]
  clear e h
  induction l with
  | nil => rfl
  | cons p l ih => rw [List.map_cons, ih]; rfl
theorem q_buildL {t : TypeId} {l : List (Nat × Operand)} {fs : Array Field} (pl : List (Nat × Nat)) {z : Value} (vs : List Value) {ds : List Value} (hu : P.underlying t = some (.struct fs)) (hz : ∀ w, (zeroValue t).run P w = .ok z w) (hf : Flat z)
    (hpl : fs.toList.map (fun f => (f.offset, (P.info? f.type).map (·.size))) = pl.map (fun p => (p.1, some p.2))) (hev : EvL T (l.map (·.2)) vs) (hl : ∀ v ∈ vs, Lv H v)
    (hds : fillL (fun i : Nat => pl[i]?) z.cells.toList ((l.map (·.1)).zip vs) = some ds) : OpQ P ⟨dst, .build t l.toArray, ty, pos, af, g⟩ T H (.agg ds.toArray) [] := by
  refine q_build (pl := pl.toArray) hu hz hf (by simpa using hpl) (fun x hx => ?_) ?_
  · refine hl _ ?_
    rw [← hev.map]
    exact List.mem_map_of_mem (by simpa using hx)
  · rw [pmap_evl hev]
    have e : (fun i : Nat => pl.toArray[i]?) = fun i : Nat => pl[i]? := by funext i; simp
    rw [e]
    exact fillL_fill hds
theorem q_buildSliceL {t el : TypeId} {len : Nat} {l : List (Nat × Operand)} {n N : Nat} {z : Value} (vs : List Value) {ds : List Value} (hN : H.length = N) (hu : P.underlying t = some (.slice el)) (hs : ∀ w, (sizeOf el).run P w = .ok n w) (hz : ∀ w, (zeroValue el).run P w = .ok z w) (hf : z.cells.toList.all Scalar = true) (hzn : 0 < z.cells.size)
    (hlim : len * n ≤ 16777216) (hev : EvL T (l.map (·.2)) vs) (hl : ∀ v ∈ vs, Lv H v)
    (hds : fillL (fun i => some (i * n, n)) ((List.range (len * n)).map fun j => z.cells.toList.getD (j % z.cells.toList.length) undef) ((l.map (·.1)).zip vs) = some ds) (hnl : ds.length = len * n) :
    OpQ P ⟨dst, .buildSlice t len l.toArray, ty, pos, af, g⟩ T H (.slice (some ⟨N, 0, none⟩) len len) [.cells true ds n] := by
  subst hN
  refine q_buildSlice (ds := ds.toArray) hu hs hz hf hzn hlim (fun x hx => ?_) ?_ rfl (by simpa using hnl)
  · refine hl _ ?_
    rw [← hev.map]
    exact List.mem_map_of_mem (by simpa using hx)
  · rw [pmap_evl hev]
    refine fillL_fill ?_
    rw [← hds]
    congr 1
    rw [Array.toList_map, Array.toList_range]
    apply List.map_congr_left
    intro j _
    have hlt : j % z.cells.size < z.cells.size := Nat.mod_lt _ hzn
    rw [getElem!_pos z.cells _ hlt]
    simp [List.getD_eq_getElem?_getD, hlt]
theorem lvs0 {H : AHeap} : ∀ v ∈ ([] : List Value), Lv H v := fun v hv => by simp at hv
theorem lvsC {H : AHeap} {a : Value} {l : List Value} (h : Lv H a) (k : ∀ v ∈ l, Lv H v) : ∀ v ∈ a :: l, Lv H v := fun v hv => by
  rcases List.mem_cons.1 hv with rfl | hv
  · exact h
  · exact k v hv
end
end Go.Proofs.YtnafdgcikaifmaaGreatA


/-
  Ranges over functions, over a function's own blocks.
-/
namespace Go.Proofs.YtnafdgcikaifmaaGreatA
set_option linter.unusedVariables false
open Go Go.RowKit Go.Shelf
section
variable {n : Nat} {P : Program} {N0 H0 L : AHeap} {n0 nt : Nat} {T : Nat → Value} {Q : AEx → ASt → Prop}
/-- What is owed behind the function that was ranged over. -/
def RangeL (n : Nat) (P : Program) (N0 H0 : AHeap) (n0 m : Nat) (lp : LoopState → Option Code → AObj) (nt : Nat) (T : Nat → Value) (Q : AEx → ASt → Prop) (H' : AHeap) : Prop :=
  ∃ L', H' = H0 ++ L' ∧ L'[m]? = some .mark ∧ ((L'[m + 1]? = some (lp .ready none) ∧ ∃ s2, Wk N0 ⟨nt, T, [n0 + m], H0 ++ L'.set (m + 1) .none⟩ s2 ∧ Q .normal s2) ∨
    ∃ c, L'[m + 1]? = some (lp .done (some c)) ∧ awp Fence.wide n P N0 c Q ⟨nt, T, [n0 + m], H0 ++ L'.set (m + 1) .none⟩)
/-- How a round's body may be left. -/
def RoundL (H0 : AHeap) (m : Nat) (lp : LoopState → Option Code → AObj) (R : Bool → AHeap → Prop) : AEx → ASt → Prop
  | .normal, s => ∃ L, s.H = H0 ++ L ∧ L[m]? = some (lp .busy none) ∧ R true (H0 ++ L.set m (lp .ready none))
  | .ret, s => ∃ L, s.H = H0 ++ L ∧ L[m]? = some (lp .busy none) ∧ R false (H0 ++ L.set m (lp .done (some .ret)))
  | .exit id, s => ∃ L, s.H = H0 ++ L ∧ L[m]? = some (lp .busy none) ∧ R false (H0 ++ L.set m (lp .done (some (.exit id))))
  | .goto t, s => ∃ L, s.H = H0 ++ L ∧ L[m]? = some (lp .busy none) ∧ R false (H0 ++ L.set m (lp .done (some (.goto t))))
end
end Go.Proofs.YtnafdgcikaifmaaGreatA


/-
  Maps whose keys are numbers or texts.
-/
namespace Go.Proofs.YtnafdgcikaifmaaGreatA
set_option linter.unusedVariables false
open Go Go.RowKit Go.Shelf
section
variable {κ : Type} [DecidableEq κ]
abbrev Ent (κ : Type) := κ × Value × Nat
def mk (kf : κ → Value) (l : List (Ent κ)) : List MapEntry := l.map fun p => ⟨kf p.1, p.2.1, p.2.2⟩
/-- Where the key stands. -/
def idx (a : κ) : List (Ent κ) → Option Nat
  | [] => none
  | p :: l => if a = p.1 then some 0 else (idx a l).map (· + 1)
def mlook (l : List (Ent κ)) (a : κ) (z : Value) : Value := match idx a l with | some i => (l[i]?.map (·.2.1)).getD z | none => z
def mput (l : List (Ent κ)) (a : κ) (v : Value) (c : Nat) : List (Ent κ) := match idx a l with | some i => l.modify i fun p => (a, v, p.2.2) | none => l ++ [(a, v, c)]
def mclk (l : List (Ent κ)) (a : κ) (c : Nat) : Nat := match idx a l with | some _ => c | none => c + 1
/-- Keys that are compared at once. -/
structure KeyOk (P : Program) (k : TypeId) (kf : κ → Value) : Prop where
  desc : ∃ d, P.underlying k = some d ∧ ∀ a b, Instr.sameNow d (kf a) (kf b) = some (decide (a = b))
  check : ∀ em w a, (Instr.checkKey em 10000 k (kf a)).run P w = .ok () w
  scalar : ∀ a, Scalar (kf a) = true
  bits : ∀ a, Instr.sameBits 10000 (kf a) (kf a) = true
variable {P : Program} {kf : κ → Value}
section
variable {T : Nat → Value} {H : AHeap} {dst : Option Tmp} {ty : TypeId} {pos : String} {af : Array Edge} {g : Option (Nat × Bool)}
end
section
variable {F : Fence} {n : Nat} {N0 : AHeap} {s : ASt} {dst : Option Tmp} {ty : TypeId} {pos : String} {af : Array Edge} {g : Option (Nat × Bool)}
end
end
section
variable {P : Program} {T : Nat → Value} {H : AHeap} {dst : Option Tmp} {ty : TypeId} {pos : String} {af : Array Edge} {g : Option (Nat × Bool)} {κ : Type} {kf : κ → Value}
end
end Go.Proofs.YtnafdgcikaifmaaGreatA


/-
  append, of slices as lists.
-/
namespace Go.Proofs.YtnafdgcikaifmaaGreatA
set_option linter.unusedVariables false
open Go Go.RowKit Go.Shelf
section
variable {α : Type} {f : α → Value} {P : Program} {H : AHeap}
theorem src_sl {y : Value} {l : List α} {yT e' : TypeId} (hf : ∀ x, Lc H (f x)) (hy : P.underlying yT = some (.slice e')) (h : Sl f H y l) : ∀ ρ w v', HRel ρ H w → VRel ρ y v' → ∃ ns, Src P 1 yT v' l.length ns w ∧ LRel ρ (l.map f) ns := by
  intro ρ w v' hh hv
  rcases h with ⟨rfl, rfl⟩ | ⟨b, o, c, vs, rfl, hR, hl, hc, hg⟩
  · have e := hv.scalar_eq rfl
    subst e
    exact ⟨[], ⟨.inl ⟨e', hy⟩, fun w' => rfl, rfl, rfl, rfl, fun u hu => by simp at hu⟩, .nil ρ⟩
  · have e : (vs.drop o).take (l.length * 1) = l.map f := by
      apply List.ext_getElem?
      intro i
      rw [Nat.mul_one, List.getElem?_take, List.getElem?_drop, List.getElem?_map]
      by_cases hi : i < l.length
      · rw [if_pos hi, hg i hi, List.getElem?_eq_getElem hi]; rfl
      · rw [if_neg hi, List.getElem?_eq_none (by omega)]; rfl
    obtain ⟨ns, h1, h2⟩ := src_of (P := P) (m := 1) hh hy hR hv (by omega) (fun u hu => by
      rw [e] at hu
      obtain ⟨x, _, rfl⟩ := List.mem_map.1 hu
      exact hf x)
    rw [e] at h2
    exact ⟨ns, h1, h2⟩
end
section
variable {F : Fence} {nn : Nat} {P : Program} {N0 : AHeap} {ops : Array Oper} {rest : List Oper} {K : ASt → Prop} {nt : Nat} {T : Nat → Value} {D : List Nat} {H H' : AHeap} {d : Tmp} {ty : TypeId} {pos : String} {af : Array Edge} {g : Option (Nat × Bool)}
end
end Go.Proofs.YtnafdgcikaifmaaGreatA


/-
  Slices of slices as lists; more steps.
-/
namespace Go.Proofs.YtnafdgcikaifmaaGreatA
set_option linter.unusedVariables false
open Go Go.RowKit Go.Shelf
section
variable {F : Fence} {nn : Nat} {P : Program} {N0 : AHeap} {ops : Array Oper} {rest : List Oper} {K : ASt → Prop} {nt : Nat} {T : Nat → Value} {D : List Nat} {H H' : AHeap} {d : Tmp} {ty : TypeId} {pos : String} {af : Array Edge} {g : Option (Nat × Bool)}
end
end Go.Proofs.YtnafdgcikaifmaaGreatA


/-
  Calls of function values in drawn regions; blocks behind a known part.
-/
namespace Go.Proofs.YtnafdgcikaifmaaGreatA
set_option linter.unusedVariables false
open Go Go.RowKit Go.Shelf
section
variable {F : Fence} {n : Nat} {P : Program} {N0 : AHeap} {ops : Array Oper} {rest : List Oper} {K : ASt → Prop} {nt : Nat} {T : Nat → Value} {H H' : AHeap} {dst : Option Tmp} {ty : TypeId} {pos : String} {af : Array Edge} {g : Option (Nat × Bool)} {tab : List Nat} {i : Nat}
end
end Go.Proofs.YtnafdgcikaifmaaGreatA


/-
  A function's own blocks, each by a name of its own; what it keeps of the others.
-/
namespace Go.Proofs.YtnafdgcikaifmaaGreatA
set_option linter.unusedVariables false
open Go Go.RowKit Go.Shelf
/-- What was there is as it was, but for some blocks. -/
structure Kp (X : Nat → Prop) (H H' : AHeap) : Prop where
  len : H.length ≤ H'.length
  get : ∀ b, b < H.length → ¬ X b → H'[b]? = H[b]?
abbrev none0 : Nat → Prop := fun _ => False
abbrev K0 (H H' : AHeap) : Prop := Kp none0 H H'
theorem Kp.refl (X : Nat → Prop) (H : AHeap) : Kp X H H := ⟨Nat.le_refl _, fun _ _ _ => rfl⟩
theorem Kp.trans {X : Nat → Prop} {H H1 H2 : AHeap} (h : Kp X H H1) (k : Kp X H1 H2) : Kp X H H2 := ⟨Nat.le_trans h.len k.len, fun b hb hx => (k.get b (Nat.lt_of_lt_of_le hb h.len) hx).trans (h.get b hb hx)⟩
theorem Kp.mono {X Y : Nat → Prop} {H H1 : AHeap} (h : Kp X H H1) (hxy : ∀ b, X b → Y b) : Kp Y H H1 := ⟨h.len, fun b hb hx => h.get b hb fun hX => hx (hxy b hX)⟩
theorem Kp.rd {X : Nat → Prop} {H H' : AHeap} (h : Kp X H H') {b : Nat} {vs : List Value} {sz : Nat} (hR : Rd H b vs sz) (hx : ¬ X b) : Rd H' b vs sz := by
  have := h.get b hR.lt hx
  rcases hR with ⟨w, hR⟩ | hR | ⟨hR, h'⟩ | ⟨t, hR⟩
  · exact .inl ⟨w, this.trans hR⟩
  · exact .inr (.inl (this.trans hR))
  · exact .inr (.inr (.inl ⟨this.trans hR, h'⟩))
  · exact .inr (.inr (.inr ⟨t, this.trans hR⟩))
theorem lt_of_some {H : AHeap} {b : Nat} {o : AObj} (h : H[b]? = some o) : b < H.length := (List.getElem?_eq_some_iff.1 h).1
/-- Blocks that may be read, and stay as they are. -/
abbrev Rs := Nat → List Value → Nat → Prop
structure St (H0 : AHeap) (X : Nat → Prop) (Z : Rs) (H : AHeap) (F : List (Nat × AObj)) : Prop where
  kp : Kp X H0 H
  nd : (F.map (·.1)).Nodup
  get : ∀ p ∈ F, H[p.1]? = some p.2
  own : ∀ p ∈ F, H0.length ≤ p.1 ∨ X p.1
  z : ∀ b vs sz, Z b vs sz → Rd H b vs sz ∧ ∀ p ∈ F, p.1 ≠ b
theorem St.begin (H0 : AHeap) : St H0 none0 (Rd H0) H0 [] := ⟨.refl _ _, .nil, fun _ h => (by cases h), fun _ h => (by cases h), fun b vs sz h => ⟨h, fun _ h => (by cases h)⟩⟩
theorem St.beginL {H0 : AHeap} (F : List (Nat × AObj)) (hn : (F.map (·.1)).Nodup) (h : ∀ p ∈ F, H0[p.1]? = some p.2) : St H0 (· ∈ F.map (·.1)) (fun b vs sz => Rd H0 b vs sz ∧ b ∉ F.map (·.1)) H0 F :=
  ⟨.refl _ _, hn, h, fun q hq => .inr (List.mem_map_of_mem hq), fun b vs sz hz => ⟨hz.1, fun q hq e => hz.2 (by subst e; exact List.mem_map_of_mem hq)⟩⟩
section
variable {H0 : AHeap} {X : Nat → Prop} {Z : Rs} {H H' : AHeap} {F : List (Nat × AObj)}
theorem St.getj (h : St H0 X Z H F) {j b : Nat} {o : AObj} (hj : F[j]? = some (b, o)) : H[b]? = some o := h.get _ (List.mem_of_getElem? hj)
theorem St.rd (h : St H0 X Z H F) {j b : Nat} {w : Bool} {vs : List Value} {sz : Nat} (hj : F[j]? = some (b, .cells w vs sz)) : Rd H b vs sz := .inl ⟨w, h.getj hj⟩
theorem St.live (h : St H0 X Z H F) {j b : Nat} {w : Bool} {vs : List Value} {sz : Nat} (hj : F[j]? = some (b, .cells w vs sz)) : H[b]? ≠ some .dead := by rw [h.getj hj]; simp
theorem St.zrd (h : St H0 X Z H F) {b : Nat} {vs : List Value} {sz : Nat} (hz : Z b vs sz) : Rd H b vs sz := (h.z b vs sz hz).1
theorem St.push (h : St H0 X Z H F) (o : AObj) : St H0 X Z (H ++ [o]) ((H.length, o) :: F) := by
  refine ⟨⟨by have := h.kp.len; simp; omega, fun b hb hx => ?_⟩, ?_, fun p hp => ?_, fun p hp => ?_, fun b vs sz hz => ?_⟩
  · rw [List.getElem?_append_left (Nat.lt_of_lt_of_le hb h.kp.len)]; exact h.kp.get b hb hx
  · refine List.nodup_cons.2 ⟨fun hm => ?_, h.nd⟩
    obtain ⟨q, hq, e⟩ := List.mem_map.1 hm
    have := lt_of_some (h.get q hq)
    simp only at e; omega
  · rcases List.mem_cons.1 hp with rfl | hp
    · simp
    · rw [List.getElem?_append_left (lt_of_some (h.get p hp))]; exact h.get p hp
  · rcases List.mem_cons.1 hp with rfl | hp
    · exact .inl h.kp.len
    · exact h.own p hp
  · obtain ⟨h1, h2⟩ := h.z b vs sz hz
    refine ⟨frm_rd' h1, fun p hp => ?_⟩
    rcases List.mem_cons.1 hp with rfl | hp
    · have := h1.lt; simp only [ne_eq]; omega
    · exact h2 p hp
theorem keys_set {F : List (Nat × AObj)} {j b : Nat} {o o' : AObj} (hj : F[j]? = some (b, o)) : (F.set j (b, o')).map (·.1) = F.map (·.1) := by
  apply List.ext_getElem?
  intro i
  rw [List.getElem?_map, List.getElem?_set, List.getElem?_map]
  by_cases e : j = i
  · subst e
    have := (List.getElem?_eq_some_iff.1 hj).1
    rw [if_pos rfl, if_pos this, hj]; rfl
  · rw [if_neg e]
theorem mem_set_cases {F : List (Nat × AObj)} {j : Nat} {q p : Nat × AObj} (hp : p ∈ F.set j q) : p = q ∨ ∃ i, i ≠ j ∧ F[i]? = some p := by
  obtain ⟨i, hi⟩ := List.mem_iff_getElem?.1 hp
  rw [List.getElem?_set] at hi
  by_cases e : j = i
  · rw [if_pos e] at hi
    split at hi
    · left; simpa using hi.symm
    · cases hi
  · rw [if_neg e] at hi
    exact .inr ⟨i, Ne.symm e, hi⟩
theorem nodup_of_inj {l : List Nat} (h : ∀ (i j x : Nat), l[i]? = some x → l[j]? = some x → i = j) : l.Nodup := by
  refine List.pairwise_iff_getElem.2 fun i j hi hj hij e => ?_
  have := h i j l[i] (List.getElem?_eq_getElem hi) (by rw [List.getElem?_eq_getElem hj, e])
  omega
theorem St.ne (h : St H0 X Z H F) {i j : Nat} {p q : Nat × AObj} (hi : F[i]? = some p) (hj : F[j]? = some q) (hne : i ≠ j) : p.1 ≠ q.1 := fun e => by
  have h1 : (F.map (·.1))[i]? = some p.1 := by rw [List.getElem?_map, hi]; rfl
  have h2 : (F.map (·.1))[j]? = some p.1 := by rw [List.getElem?_map, hj, e]; rfl
  exact hne (nodup_inj h.nd h1 h2)
theorem St.setAt (h : St H0 X Z H F) {j b : Nat} {o : AObj} (hj : F[j]? = some (b, o)) (o' : AObj) : St H0 X Z (H.set b o') (F.set j (b, o')) := by
  have hb := lt_of_some (h.getj hj)
  have hown := h.own _ (List.mem_of_getElem? hj)
  refine ⟨⟨by simpa using h.kp.len, fun c hc hx => ?_⟩, by rw [keys_set hj]; exact h.nd, fun p hp => ?_, fun p hp => ?_, fun c vs sz hz => ?_⟩
  · have hne : b ≠ c := fun e => by subst e; rcases hown with h1 | h1; (simp only at h1; omega); exact hx h1
    rw [List.getElem?_set, if_neg hne]; exact h.kp.get c hc hx
  · rcases mem_set_cases hp with rfl | ⟨i, hi, hp⟩
    · rw [List.getElem?_set, if_pos rfl, if_pos hb]
    · have := h.ne hp hj hi
      rw [List.getElem?_set, if_neg (Ne.symm this)]; exact h.getj hp
  · rcases mem_set_cases hp with rfl | ⟨i, hi, hp⟩
    · exact hown
    · exact h.own p (List.mem_of_getElem? hp)
  · obtain ⟨h1, h2⟩ := h.z c vs sz hz
    refine ⟨rd_set h1 (h2 _ (List.mem_of_getElem? hj)), fun p hp => ?_⟩
    rcases mem_set_cases hp with rfl | ⟨i, hi, hp⟩
    · exact h2 (b, o) (List.mem_of_getElem? hj)
    · exact h2 p (List.mem_of_getElem? hp)
theorem St.forget (h : St H0 X Z H F) (j : Nat) : St H0 X Z H (F.eraseIdx j) := by
  have hs : ∀ p, p ∈ F.eraseIdx j → p ∈ F := fun p hp => (List.eraseIdx_sublist _ _).subset hp
  exact ⟨h.kp, h.nd.sublist ((List.eraseIdx_sublist F j).map _), fun p hp => h.get p (hs p hp), fun p hp => h.own p (hs p hp), fun b vs sz hz => ⟨(h.z b vs sz hz).1, fun p hp => (h.z b vs sz hz).2 p (hs p hp)⟩⟩
/-- A block is not among some. -/
def NotIn (l : List Nat) (b : Nat) : Prop := b ∉ l
theorem St.turn (h : St H0 X Z H F) {Y : Nat → Prop} (k : Kp Y H H') (F' : List (Nat × AObj)) (hnd : (F'.map (·.1)).Nodup) (hF' : ∀ p ∈ F', (p ∈ F ∧ ¬ Y p.1) ∨ (H'[p.1]? = some p.2 ∧ (H.length ≤ p.1 ∨ p.1 ∈ F.map (·.1)))) (hY : ∀ b, Y b → b ∈ F.map (·.1)) : St H0 X Z H' F' := by
  have hkey : ∀ b, b ∈ F.map (·.1) → H0.length ≤ b ∨ X b := fun b hb => by
    obtain ⟨q, hq, rfl⟩ := List.mem_map.1 hb
    exact h.own q hq
  refine ⟨⟨Nat.le_trans h.kp.len k.len, fun b hb hx => ?_⟩, hnd, fun p hp => ?_, fun p hp => ?_, fun b vs sz hz => ?_⟩
  · rw [k.get b (Nat.lt_of_lt_of_le hb h.kp.len) fun hy => ?_, h.kp.get b hb hx]
    rcases hkey b (hY b hy) with h1 | h1
    · omega
    · exact hx h1
  · rcases hF' p hp with ⟨h1, h2⟩ | ⟨h1, _⟩
    · rw [k.get _ (lt_of_some (h.get p h1)) h2]; exact h.get p h1
    · exact h1
  · rcases hF' p hp with ⟨h1, h2⟩ | ⟨_, h1 | h1⟩
    · exact h.own p h1
    · exact .inl (Nat.le_trans h.kp.len h1)
    · exact hkey _ h1
  · obtain ⟨h1, h2⟩ := h.z b vs sz hz
    refine ⟨k.rd h1 fun hy => ?_, fun p hp => ?_⟩
    · obtain ⟨q, hq, e⟩ := List.mem_map.1 (hY b hy)
      exact h2 q hq e
    · rcases hF' p hp with ⟨h3, _⟩ | ⟨_, h3 | h3⟩
      · exact h2 p h3
      · have := h1.lt; omega
      · obtain ⟨q, hq, e⟩ := List.mem_map.1 h3
        rw [← e]; exact h2 q hq
/-- More that may be read: it is new. -/
theorem St.zadd (h : St H0 X Z H F) {Z' : Rs} (hz : ∀ b vs sz, Z' b vs sz → Rd H b vs sz ∧ ∀ p ∈ F, p.1 ≠ b) : St H0 X (fun b vs sz => Z b vs sz ∨ Z' b vs sz) H F := ⟨h.kp, h.nd, h.get, h.own, fun b vs sz h' => h'.elim (h.z _ _ _) (hz _ _ _)⟩
/-- append: the old block is dead, the new one stands in its place. -/
theorem St.grow (h : St H0 X Z H F) {j b : Nat} {o : AObj} (hj : F[j]? = some (b, o)) (o' : AObj) : St H0 X Z (H.set b .dead ++ [o']) (F.set j (H.length, o')) := by
  have h1 := (h.setAt hj .dead).push o'
  rw [List.length_set] at h1
  have hjl := (List.getElem?_eq_some_iff.1 hj).1
  have hmem : ∀ p, p ∈ F.set j (H.length, o') → p = (H.length, o') ∨ p ∈ F.set j (b, .dead) := fun p hp => by
    rcases mem_set_cases hp with rfl | ⟨i, hi, hp⟩
    · exact .inl rfl
    · right
      refine List.mem_iff_getElem?.2 ⟨i, ?_⟩
      rw [List.getElem?_set, if_neg (Ne.symm hi)]; exact hp
  refine ⟨h1.kp, ?_, fun p hp => ?_, fun p hp => ?_, fun c vs sz hz => ⟨(h1.z c vs sz hz).1, fun p hp => ?_⟩⟩
  · have hb : ∀ m, m ≠ j → ((F.set j (H.length, o')).map (·.1))[m]? = (F.map (·.1))[m]? := fun m hm => by
      rw [List.getElem?_map, List.getElem?_set, if_neg (Ne.symm hm), List.getElem?_map]
    have hjv : ((F.set j (H.length, o')).map (·.1))[j]? = some H.length := by
      rw [List.getElem?_map, List.getElem?_set, if_pos rfl, if_pos hjl]; rfl
    have hlt : ∀ m x, (F.map (·.1))[m]? = some x → x < H.length := fun m x hx => by
      rw [List.getElem?_map] at hx
      obtain ⟨q, hq, rfl⟩ := Option.map_eq_some_iff.1 hx
      exact lt_of_some (h.getj (b := q.1) (o := q.2) hq)
    refine nodup_of_inj fun i k x hi hk => ?_
    by_cases ei : i = j
    · subst ei
      rw [hjv] at hi; cases hi
      by_cases ek : k = i
      · exact ek.symm
      · rw [hb k ek] at hk
        have := hlt k _ hk; omega
    · by_cases ek : k = j
      · subst ek
        rw [hjv] at hk; cases hk
        rw [hb i ei] at hi
        have := hlt i _ hi; omega
      · rw [hb i ei] at hi
        rw [hb k ek] at hk
        exact nodup_inj h.nd hi hk
  · rcases hmem p hp with rfl | hp
    · exact h1.get _ (List.mem_cons_self)
    · exact h1.get _ (List.mem_cons_of_mem _ hp)
  · rcases hmem p hp with rfl | hp
    · exact h1.own _ (List.mem_cons_self)
    · exact h1.own _ (List.mem_cons_of_mem _ hp)
  · rcases hmem p hp with rfl | hp
    · exact (h1.z c vs sz hz).2 _ (List.mem_cons_self)
    · exact (h1.z c vs sz hz).2 _ (List.mem_cons_of_mem _ hp)
/-! ### Slices -/
variable {α : Type} {f : α → Value}
def SlZ {α : Type} (f : α → Value) (Z : Rs) (v : Value) (l : List α) : Prop :=
  (v = .slice none 0 0 ∧ l = []) ∨ ∃ b o c vs, v = .slice (some ⟨b, o, none⟩) l.length c ∧ Z b vs 1 ∧ o + l.length ≤ vs.length ∧ l.length ≤ c ∧ ∀ i (h : i < l.length), vs[o + i]? = some (f l[i])
theorem SlZ.mono {Z Z' : Rs} {v : Value} {l : List α} (h : SlZ f Z v l) (hz : ∀ b vs sz, Z b vs sz → Z' b vs sz) : SlZ f Z' v l := by
  rcases h with h | ⟨b, o, c, vs, h1, h2, h3⟩
  · exact .inl h
  · exact .inr ⟨b, o, c, vs, h1, hz _ _ _ h2, h3⟩
theorem St.sl (h : St H0 X Z H F) {v : Value} {l : List α} (hs : SlZ f Z v l) : Sl f H v l := SlZ.mono (Z' := Rd H) hs fun b vs sz hz => h.zrd hz
theorem Sl.kp {X : Nat → Prop} {v : Value} {l : List α} (h : Sl f H v l) (k : Kp X H H') (hx : ∀ b, ¬ X b) : Sl f H' v l := SlZ.mono (Z := Rd H) (Z' := Rd H') h fun b vs sz hz => k.rd hz (hx b)
theorem Sl.k0 {v : Value} {l : List α} (h : Sl f H v l) (k : K0 H H') : Sl f H' v l := h.kp k fun _ h => h
theorem Sl.out {x : Nat} {v : Value} {l : List α} (h : Sl f H v l) (hx : ∀ b o c n, v = .slice (some ⟨b, o, none⟩) n c → b ≠ x) : SlZ f (fun b vs sz => Rd H b vs sz ∧ b ≠ x) v l := by
  rcases h with h | ⟨b, o, c, vs, h1, h2, h3⟩
  · exact .inl h
  · exact .inr ⟨b, o, c, vs, h1, ⟨h2, hx _ _ _ _ h1⟩, h3⟩
theorem St.slj (h : St H0 X Z H F) {j b : Nat} {w : Bool} {l : List α} (hj : F[j]? = some (b, .cells w (l.map f) 1)) {n c : Nat} (hn : l.length = n) (hc : n ≤ c) : Sl f H (.slice (some ⟨b, 0, none⟩) n c) l := sl_full (h.rd hj) hn hc
/-- A slice that was frozen. -/
theorem slz_full {Z : Rs} {b n c : Nat} {l : List α} (hz : Z b (l.map f) 1) (hn : l.length = n) (hc : n ≤ c) : SlZ f Z (.slice (some ⟨b, 0, none⟩) n c) l := by
  subst hn
  exact .inr ⟨b, 0, c, l.map f, rfl, hz, by simp, hc, fun i h => by simp [h]⟩
end
/-- The place of a list's element; beyond its end there is nothing to say. -/
abbrev nth {α : Type} [Inhabited α] (l : List α) (i : Nat) : α := l.getD i default
theorem nth_eq {α : Type} [Inhabited α] {l : List α} {i : Nat} (h : i < l.length) : nth l i = l[i] := by simp [nth, h]
def sb : Value → Nat
  | .slice (some a) _ _ => a.block
  | _ => 0
def so : Value → Nat
  | .slice (some a) _ _ => a.off
  | _ => 0
section
variable {P : Program} {T : Nat → Value} {H : AHeap} {dst : Option Tmp} {ty : TypeId} {pos : String} {af : Array Edge} {g : Option (Nat × Bool)} {α : Type} [Inhabited α] {f : α → Value} {v : Value} {l : List α}
omit [Inhabited α] in
theorem q_index_sl {t el : TypeId} {x y : Operand} {k : IntKind} {i : Nat} (hu : P.underlying t = some (.slice el)) (hs : ∀ w, (sizeOf el).run P w = .ok 1 w) (h : Sl f H v l) (hx : ev T x = v) (hy : ev T y = .int k (i : Nat)) (hi : i < l.length) :
    OpQ P ⟨dst, .indexAddr t x y, ty, pos, af, g⟩ T H (.pointer (some ⟨sb v, so v + i, none⟩)) [] := by
  obtain ⟨b, o, c, vs, rfl, hR, _⟩ := h.get hi
  exact q_index1 hu hs hx hy hi hR
theorem q_load_sl {t : TypeId} {x : Operand} {i : Nat} (hu : ∀ w, (isAgg t).run P w = .ok false w) (h : Sl f H v l) (hx : ev T x = .pointer (some ⟨sb v, so v + i, none⟩)) (hi : i < l.length) :
    OpQ P ⟨dst, .load t x, ty, pos, af, g⟩ T H (f (nth l i)) [] := by
  obtain ⟨b, o, c, vs, rfl, hR, _, _, hg⟩ := h.get hi
  exact q_load hu hx hR (by rw [nth_eq hi]; exact hg i hi)
end
end Go.Proofs.YtnafdgcikaifmaaGreatA


/-
  Steps over blocks that bear names: all regions alike.
-/
namespace Go.Proofs.YtnafdgcikaifmaaGreatA
set_option linter.unusedVariables false
open Go Go.RowKit Go.Shelf
section
variable {F : Fence} {n : Nat} {P : Program} {N0 : AHeap} {ops : Array Oper} {tab : List Nat} {K : ASt → Prop}
theorem alist_of_dlist (hF : Wd F) : ∀ (l : List Oper) (i : Nat) (s : ASt), dList F n P N0 ops tab i l K s → aList F n P N0 ops l K s
  | [], _, s, h => h
  | o :: rest, i, s, h => by
    have ih : ∀ s', dList F n P N0 ops tab (i + 1) rest K s' → aList F n P N0 ops rest K s' := fun s' => alist_of_dlist hF rest (i + 1) s'
    rcases h with ⟨s', ⟨v, Δ, hd, rfl, h1⟩, h2⟩ | h | ⟨fl, R, hfl, hg, hop, hk⟩
    · rcases h1 with ⟨hg, hq, hc⟩ | ⟨hg, rfl, rfl⟩
      · exact .inl ⟨hg, hq.ok hF hc hd (ih _ h2)⟩
      · refine .inr ⟨hg, hd, ?_⟩
        have e : ({ s with H := s.H ++ [] } : ASt) = s := by rw [List.append_nil]
        rw [e] at h2
        exact ih _ h2
    · obtain ⟨_, hg, hop⟩ := h
      refine .inl ⟨hg, ?_⟩
      intro ρ a w hs
      exact Oper.wpIn_mono (fun a' w' ⟨s', ρ', hk, h1, h2⟩ => ⟨s', ρ', ih s' hk, h1, h2⟩) (hop ρ a w hs)
    · exact .inl ⟨hg, hop s.T (fun _ _ => rfl) _ fun v H' hR => ih _ (hk v H' hR).2⟩
/-- The order of a text: each behind all before it. -/
def seqTab (n : Nat) : List Nat := (List.range n).map fun i => 2 ^ i - 1
theorem awp_regs (hF : Wd F) {Q : AEx → ASt → Prop} {s : ASt} {id : Nat} {l : List Oper} (h : dList F n P N0 l.toArray (seqTab l.length) 0 l (fun s' => ∃ s2, Wk N0 s' s2 ∧ Q .normal s2) s) : awp F n P N0 (.region id l.toArray false) Q s :=
  awp_reg hF (alist_of_dlist hF _ _ _ h)
end
section
variable {Fc : Fence} {n : Nat} {P : Program} {N0 : AHeap} {ops : Array Oper} {o : Oper} {rest : List Oper} {K : ASt → Prop} {nt : Nat} {T : Nat → Value} {D : List Nat} {d : Tmp} {v : Value} {tab : List Nat} {i : Nat} {op : Op} {ty : TypeId} {pos : String} {af : Array Edge} {g : Option (Nat × Bool)}
variable {H0 : AHeap} {X : Nat → Prop} {Z : Rs} {H : AHeap} {F F' : List (Nat × AObj)}
/-- A quiet operation that makes one block. -/
theorem x_new (vf : Nat → Value) {ob : AObj} (hS : St H0 X Z H F) (hg : GYes ops o T) (hq : OpQ P o T H (vf H.length) [ob]) (hd : o.dst = some d) (hn : d < nt) (hc : ∀ x ∈ o.op.operands, cOk H x) (hk : ∀ b H', H.length ≤ b → St H0 X Z H' ((b, ob) :: F) → dList Fc n P N0 ops tab (i + 1) rest K ⟨nt, upd T d (vf b), D, H'⟩) :
    dList Fc n P N0 ops tab i (o :: rest) K ⟨nt, T, D, H⟩ := dn hg hq hd hn hc rfl (hk _ _ (Nat.le_refl _) (hS.push ob))
theorem x_store1 (fl : List Nat) (hF : Wd Fc) (hS : St H0 X Z H F) (hfl : floatOk ops tab i fl = true) (hg : GYes ops ⟨none, op, ty, pos, af, g⟩ T) {t : TypeId} {x y : Operand} {j b oo : Nat} {vs : List Value} {sz : Nat} {v : Value} (hop : op = .store t x y) (hs : ∀ w, (sizeOf t).run P w = .ok 1 w) (hx : ev T x = .pointer (some ⟨b, oo, none⟩)) (hy : ev T y = v) (hj : F[j]? = some (b, .cells true vs sz))
    (hc : Lc H v) (ho : oo < vs.length) (hcx : cOk H x) (hcy : cOk H y) (hfx : offF ops fl x = true) (hfy : offF ops fl y = true) (hF' : F.set j (b, .cells true (vs.set oo v) sz) = F') (hk : ∀ H', St H0 X Z H' F' → PendL P ops ⟨nt, T, D, H'⟩ fl ∧ dList Fc n P N0 ops tab (i + 1) rest K ⟨nt, T, D, H'⟩) :
    dList Fc n P N0 ops tab i (⟨none, op, ty, pos, af, g⟩ :: rest) K ⟨nt, T, D, H⟩ := by
  subst hF'
  have h1 := hk _ (hS.setAt hj _)
  exact df_store1 hF fl hfl hg hop hs hx hy (hS.getj hj) hc ho hcx hcy rfl hfx hfy h1.1 h1.2
theorem x_store (fl : List Nat) (hF : Wd Fc) (hS : St H0 X Z H F) (hfl : floatOk ops tab i fl = true) (hg : GYes ops ⟨none, op, ty, pos, af, g⟩ T) {t : TypeId} {x y : Operand} {j b oo m : Nat} {vs us : List Value} {sz : Nat} {v : Value} (hop : op = .store t x y) (hs : ∀ w, (sizeOf t).run P w = .ok m w) (hx : ev T x = .pointer (some ⟨b, oo, none⟩)) (hy : ev T y = v) (hj : F[j]? = some (b, .cells true vs sz))
    (hus : v.cells.toList = us) (hm : us.length = m) (hl : Lv H v) (hc : ∀ u ∈ us, Lc H u) (ho : oo + us.length ≤ vs.length) (hcx : cOk H x) (hcy : cOk H y) (hfx : offF ops fl x = true) (hfy : offF ops fl y = true) (hF' : F.set j (b, .cells true (splice vs oo us) sz) = F') (hk : ∀ H', St H0 X Z H' F' → PendL P ops ⟨nt, T, D, H'⟩ fl ∧ dList Fc n P N0 ops tab (i + 1) rest K ⟨nt, T, D, H'⟩) :
    dList Fc n P N0 ops tab i (⟨none, op, ty, pos, af, g⟩ :: rest) K ⟨nt, T, D, H⟩ := by
  subst hF'
  have h1 := hk _ (hS.setAt hj _)
  exact df_store hF fl hfl hg hop hs hx hy (hS.getj hj) hus hm hl hc ho hcx hcy rfl hfx hfy h1.1 h1.2
/-- append to a slice of one's own: what is appended, by its cells. -/
theorem x_appendG (fl : List Nat) (hF : Wd Fc) (hS : St H0 X Z H F) (hfl : floatOk ops tab i fl = true) {x y : Operand} {sT yT el : TypeId} {ti : TypeInfo} {z vy : Value} {j b oo nn c m sz : Nat} {vs xs vs' : List Value} (n' : Nat) (hn' : nn + m = n') (hg : GYes ops ⟨some d, .call { callee := .builtin .append, args := #[x, y], argTypes := #[sT, yT] }, ty, pos, af, g⟩ T) (hu : P.underlying sT = some (.slice el)) (hi : P.info? el = some ti) (hiz : ti.zero = some z) (hsz : ti.size = sz) (hpos : 0 < ti.bytes) (hzs : z.cells.size = sz)
    (hx : ev T x = .slice (some ⟨b, oo, none⟩) nn c) (hyv : ev T y = vy) (hj : F[j]? = some (b, .cells true vs sz)) (hy0 : ∀ ρ w v', HRel ρ H w → VRel ρ vy v' → ∃ ns, Src P sz yT v' m ns w ∧ LRel ρ xs ns) (htail : oo + nn * sz = vs.length) (hxs : xs.length = m * sz) (hbig : (2 * n' + 1000) * ti.bytes ≤ 281474976710656) (hcx : cOk H x) (hcy : cOk H y) (hd : d < nt) (hfx : offF ops fl x = true) (hfy : offF ops fl y = true)
    (hvs : vs.drop oo ++ xs = vs') (hk : ∀ b' H', H.length ≤ b' → St H0 X Z H' (F.set j (b', .cells true vs' sz)) → PendL P ops ⟨nt, upd T d (.slice (some ⟨b', 0, none⟩) n' n'), D, H'⟩ fl ∧ dList Fc n P N0 ops tab (i + 1) rest K ⟨nt, upd T d (.slice (some ⟨b', 0, none⟩) n' n'), D, H'⟩) :
    dList Fc n P N0 ops tab i (⟨some d, .call { callee := .builtin .append, args := #[x, y], argTypes := #[sT, yT] }, ty, pos, af, g⟩ :: rest) K ⟨nt, T, D, H⟩ := by
  subst hn' hvs
  have h1 := hk _ _ (Nat.le_refl _) (hS.grow hj (.cells true (vs.drop oo ++ xs) sz))
  refine df fl (v := .slice (some ⟨H.length, 0, none⟩) (nn + m) (nn + m)) (H' := (H.set b AObj.dead ++ [AObj.cells true (vs.drop oo ++ xs) sz] : AHeap)) hfl hg (fun T' hT K' hk' => ?_) h1.1 h1.2
  exact o_appendG (s := ⟨nt, T', D, H⟩) hF hu hi hiz hsz hpos hzs ((offF_ev hfx hT).trans hx) (fun ρ w v' hh hv => hy0 ρ w v' hh (by
    have e : ev (⟨nt, T', D, H⟩ : ASt).T y = vy := (offF_ev hfy hT).trans hyv
    rwa [e] at hv)) (hS.getj hj) htail hxs hbig hcx hcy hd hk'
theorem x_append {α : Type} {f : α → Value} (fl : List Nat) (hF : Wd Fc) (hS : St H0 X Z H F) (hfl : floatOk ops tab i fl = true) {x y : Operand} {sT yT el e' : TypeId} {ti : TypeInfo} {z vy : Value} {j b oo nn c : Nat} {vs vs' : List Value} {l : List α} (n' : Nat) (hn' : nn + l.length = n') (hg : GYes ops ⟨some d, .call { callee := .builtin .append, args := #[x, y], argTypes := #[sT, yT] }, ty, pos, af, g⟩ T) (hu : P.underlying sT = some (.slice el)) (hy : P.underlying yT = some (.slice e')) (hi : P.info? el = some ti) (hiz : ti.zero = some z) (hsz : ti.size = 1) (hpos : 0 < ti.bytes) (hzs : z.cells.size = 1)
    (hx : ev T x = .slice (some ⟨b, oo, none⟩) nn c) (hyv : ev T y = vy) (hj : F[j]? = some (b, .cells true vs 1)) (hSl : Sl f H vy l) (hf : ∀ x, Lc H (f x)) (htail : oo + nn = vs.length) (hbig : (2 * n' + 1000) * ti.bytes ≤ 281474976710656) (hcx : cOk H x) (hcy : cOk H y) (hd : d < nt) (hfx : offF ops fl x = true) (hfy : offF ops fl y = true)
    (hvs : vs.drop oo ++ l.map f = vs') (hk : ∀ b' H', H.length ≤ b' → St H0 X Z H' (F.set j (b', .cells true vs' 1)) → PendL P ops ⟨nt, upd T d (.slice (some ⟨b', 0, none⟩) n' n'), D, H'⟩ fl ∧ dList Fc n P N0 ops tab (i + 1) rest K ⟨nt, upd T d (.slice (some ⟨b', 0, none⟩) n' n'), D, H'⟩) :
    dList Fc n P N0 ops tab i (⟨some d, .call { callee := .builtin .append, args := #[x, y], argTypes := #[sT, yT] }, ty, pos, af, g⟩ :: rest) K ⟨nt, T, D, H⟩ :=
  x_appendG fl hF hS hfl n' hn' hg hu hi hiz hsz hpos hzs hx hyv hj (fun ρ w v' hh hv => src_sl hf hy hSl ρ w v' hh hv) (by rw [Nat.mul_one]; exact htail) (by simp) hbig hcx hcy hd hfx hfy hvs hk
/-- A call of a function (a value, or a function's name): what it answers, and how the heap is behind it. -/
theorem x_call (fl : List Nat) (hF : Wd Fc) {dst : Option Tmp} {f : FuncId} {x : Operand} {xs : Array Operand} {ats : Array TypeId} {cs : Array Value} {args : List Value} {Q : Value → AHeap → Prop} (hfl : floatOk ops tab i fl = true) (hg : GYes ops ⟨dst, .call { callee := .value x, args := xs, argTypes := ats }, ty, pos, af, g⟩ T) (hE : Enters P f) (hx : ev T x = .func (.func f) #[] cs) (hargs : xs.toList.map (ev T) ++ cs.toList = args)
    (h : ACalls P f args H Q) (hd : dOk nt dst) (hc : ∀ y ∈ #[x] ++ xs, cOk H y) (hfx : offF ops fl x = true) (hfy : xs.toList.all (offF ops fl) = true) (hm : ∀ v H', Q v H' → ∀ d ∈ D, H'[d]? = some .mark) (hk : ∀ v H', Q v H' → PendL P ops ⟨nt, updo T dst v, D, H'⟩ fl ∧ dList Fc n P N0 ops tab (i + 1) rest K ⟨nt, updo T dst v, D, H'⟩) :
    dList Fc n P N0 ops tab i (⟨dst, .call { callee := .value x, args := xs, argTypes := ats }, ty, pos, af, g⟩ :: rest) K ⟨nt, T, D, H⟩ := by
  refine dfR fl Q hfl hg (fun T' hT K' hk' => ?_) (fun v H' hq => by rw [put_updo]; exact hk v H' hq)
  refine o_callv (s := ⟨nt, T', D, H⟩) hF hE ((offF_ev hfx hT).trans hx) ?_ h hc hd hm hk'
  rw [← hargs]
  congr 1
  apply List.map_congr_left
  intro y hy
  exact offF_ev (List.all_eq_true.1 hfy y hy) hT
end
section
variable {n : Nat} {P : Program} {N0 : AHeap} {ops : Array Oper} {rest : List Oper} {K : ASt → Prop} {nt : Nat} {T : Nat → Value} {dst : Option Tmp} {tab : List Nat} {i : Nat} {ty : TypeId} {pos : String} {af : Array Edge} {g : Option (Nat × Bool)} {H : AHeap}
/-- yield. -/
theorem x_yield (fl : List Nat) {t : Tmp} {xs : Array Operand} {ats : Array TypeId} {y : Value} {args : List Value} {R : Bool → AHeap → Prop} (hfl : floatOk ops tab i fl = true) (hg : GYes ops ⟨dst, .call { callee := .value (.tmp t), args := xs, argTypes := ats }, ty, pos, af, g⟩ T) (hx : T t = y) (hargs : xs.toList.map (ev T) = args) (h : Ylds P y args H R) (hd : dOk nt dst) (hc : ∀ z ∈ xs, cOk H z)
    (hfx : offF ops fl (.tmp t) = true) (hfy : xs.toList.all (offF ops fl) = true) (hk : ∀ b H', R b H' → PendL P ops ⟨nt, updo T dst (.bool b), [], H'⟩ fl ∧ dList Fence.wide n P N0 ops tab (i + 1) rest K ⟨nt, updo T dst (.bool b), [], H'⟩) :
    dList Fence.wide n P N0 ops tab i (⟨dst, .call { callee := .value (.tmp t), args := xs, argTypes := ats }, ty, pos, af, g⟩ :: rest) K ⟨nt, T, [], H⟩ := by
  refine dfR fl (fun v H' => ∃ b, v = .bool b ∧ R b H') hfl hg (fun T' hT K' hk' => ?_) (fun v H' ⟨b, hv, hq⟩ => by subst hv; rw [put_updo]; exact hk b H' hq)
  refine o_yield (s := ⟨nt, T', [], H⟩) ((offF_ev hfx hT).trans hx : T' t = y) ?_ h hc hd rfl fun b H' hR => hk' _ H' ⟨b, rfl, hR⟩
  rw [← hargs]
  apply List.map_congr_left
  intro y hy
  exact offF_ev (List.all_eq_true.1 hfy y hy) hT
end
/-! ### Ends -/
section
variable {P : Program} {N0 H : AHeap} {nt : Nat} {T : Nat → Value} {fn : Func} {Q : Value → AHeap → Prop} {vs : List Value} {v : Value} {s : ASt}
def keep0 (n : Nat) : Nat → Option Nat := fun b => if b < n then some b else none
theorem gc_none (k : K0 N0 H) : Gc N0 (keep0 N0.length) H N0 := by
  have e1 : ∀ b c, keep0 N0.length b = some c → b < N0.length ∧ c = b := fun b c h => by
    unfold keep0 at h
    split at h
    · rename_i hb; cases h; exact ⟨hb, rfl⟩
    · cases h
  refine ⟨fun b hb => if_pos hb, Nat.le_refl _, fun b c d hb hc => ?_, fun b hb => if_neg (by omega), fun b c hb => ?_, fun g vs sz hg => ?_⟩
  · obtain ⟨_, rfl⟩ := e1 _ _ hb
    obtain ⟨_, rfl⟩ := e1 _ _ hc
    rfl
  · obtain ⟨h1, rfl⟩ := e1 _ _ hb
    exact .inl ⟨h1, (k.get _ h1 fun h => h).symm, (k.get _ h1 fun h => h).symm⟩
  · have hl := lt_of_some hg
    exact ⟨if_pos hl, by rw [k.get _ hl fun h => h]; exact hg⟩
/-- A result without addresses; nothing of what was there is changed: all that is new is dropped. -/
theorem ret_none (hs : s = ⟨nt, T, [], H⟩) (k : K0 N0 H) (hr : ARes P s fn.results.toList vs) (hv : retv vs = v) (hn : noAddr v = true) (hQ : Q v N0) : Ret P N0 fn Q s := by
  subst hs hv
  exact ⟨.nil, .inr ⟨vs, _, _, N0, hr, gc_none k, .noAddr hn, hQ⟩⟩
/-- .. all as it stands. -/
theorem ret_is (hs : s = ⟨nt, T, [], H⟩) (hr : ARes P s fn.results.toList vs) (hv : retv vs = v) (hQ : Q v H) : Ret P N0 fn Q s := by
  subst hs hv
  exact ⟨.nil, .inl ⟨vs, hr, hQ⟩⟩
end
/-! ### nil, as a slice of no elements -/
def PS (N : Nat) (v2 v : Value) : Prop := ∀ ρ v', ρ N = .null → VRel ρ v v' → VRel ρ v2 v'
theorem PS.refl (N : Nat) (v : Value) : PS N v v := fun _ _ _ h => h
theorem PS.nil (N o : Nat) : PS N (.slice (some ⟨N, o, none⟩) 0 0) (.slice none 0 0) := fun ρ v' hn hv => by
  rw [hv.scalar_eq rfl]; exact .empty hn
theorem wk_null {N0 H H2 : AHeap} {nt : Nat} {T T2 : Nat → Value} {D : List Nat} {ob : AObj} (hg : ∀ vs sz, ob ≠ .glob vs sz) (hT : ∀ t, PS H.length (T2 t) (T t)) (hl : H2.length = H.length)
    (hH : ∀ b : Nat, H2[b]? = H[b]? ∨ ∃ (wr : Bool) (vs2 vs : List Value) (sz : Nat), H2[b]? = some (AObj.cells wr vs2 sz) ∧ H[b]? = some (AObj.cells wr vs sz) ∧ vs2.length = vs.length ∧ ∀ i, PS H.length (vs2.getD i undef) (vs.getD i undef)) :
    Wk N0 ⟨nt, T, D, H⟩ ⟨nt, T2, D, H2 ++ [ob]⟩ := by
  intro ρ a w hs
  obtain ⟨ρ', r1, r2, r3, r4⟩ := null_new hs.heap (o := ob) hg
  change ρ' H.length = .null at r1
  change ∀ b, b ≠ H.length → ρ' b = ρ b at r2
  change HRel ρ' (H ++ [ob]) w at r4
  have hbl : ∀ b, b < H.length → ρ' b = ρ b := fun b hb => r2 b (by omega)
  have hwr : ∀ b, wr (H2 ++ [ob]) b → wr (H ++ [ob]) b := fun b ⟨o, h1, h2⟩ => by
    by_cases hb : b < H.length
    · rw [List.getElem?_append_left (by omega)] at h1
      rcases hH b with e | ⟨wr', vs2, vs, sz, e1, e2, _⟩
      · exact ⟨o, by rw [List.getElem?_append_left hb, ← e]; exact h1, h2⟩
      · rw [e1] at h1; cases h1
        exact ⟨.cells wr' vs sz, by rw [List.getElem?_append_left hb]; exact e2, h2⟩
    · rw [List.getElem?_append_right (by omega)] at h1
      refine ⟨o, ?_, h2⟩
      rw [List.getElem?_append_right (by omega), ← hl]; exact h1
  have hheap : HRel ρ' (H2 ++ [ob]) w := by
    refine ⟨fun b hb => r4.bound b (by simpa [hl] using hb), fun b l hb => ?_, fun b c l m hne hb hc hw => r4.inj b c l m hne hb hc (hwr b hw), fun g vs sz hg' => ?_, fun b hb => ?_⟩
    · have hblt : b < H.length := by
        by_cases e : b = H.length
        · rw [e, r1] at hb; cases hb
        · have := lt_of_some (r4.rel b l hb).choose_spec.1
          simp at this; omega
      obtain ⟨o, h1, h2, h3⟩ := r4.rel b l hb
      rw [List.getElem?_append_left hblt] at h1
      rw [List.getElem?_append_left (by omega)]
      rcases hH b with e | ⟨wr', vs2, vs, sz, e1, e2, e3, e4⟩
      · exact ⟨o, e.trans h1, h2, h3⟩
      · rw [h1] at e2; cases e2
        obtain ⟨k1, cs, E, fr, k2, k3, k4, k5, k6⟩ := h3
        exact ⟨_, e1, h2, k1, cs, E, fr, k2, by rw [e3]; exact k3, k4, fun i hi => e4 i ρ' _ r1 (k5 i (by rw [← e3]; exact hi)), k6⟩
    · by_cases hgl : g < H.length
      · rw [List.getElem?_append_left (by omega)] at hg'
        rcases hH g with e | ⟨_, _, _, _, e1, _⟩
        · exact r4.glob g vs sz (by rw [List.getElem?_append_left hgl, ← e]; exact hg')
        · rw [e1] at hg'; cases hg'
      · rw [List.getElem?_append_right (by omega)] at hg'
        have := List.mem_of_getElem? hg'
        simp at this
        exact absurd this.symm (hg vs sz)
    · have h1 := r4.isdead b hb
      have hblt : b < H.length := by
        by_cases e : b = H.length
        · rw [e, r1] at hb; cases hb
        · have := lt_of_some h1
          simp at this; omega
      rw [List.getElem?_append_left hblt] at h1
      rw [List.getElem?_append_left (by omega)]
      rcases hH b with e | ⟨_, _, _, _, _, e2, _⟩
      · exact e.trans h1
      · rw [h1] at e2; cases e2
  refine ⟨ρ', ⟨hheap, ⟨hs.tmps.1, fun t => hT t ρ' _ r1 ((hs.tmps.2 t).mono r3)⟩, ?_, by have := hs.len; show N0.length ≤ (H2 ++ [ob]).length; simp; have h2 : N0.length ≤ H.length := hs.len; omega, hs.entry.of fun b hb => .inl (hbl b (Nat.lt_of_lt_of_le hb hs.len))⟩, ?_⟩
  · refine DRel.frm _ _ (fun d _ l h1 h2 => ?_) hs.defers
    have hd := lt_of_some h2
    refine ⟨(hbl d hd).trans h1, ?_⟩
    change (H2 ++ [ob])[d]? = some .mark
    rw [List.getElem?_append_left (by have : d < H.length := hd; omega)]
    rcases hH d with e | ⟨_, _, _, _, _, e2, _⟩
    · exact e.trans h2
    · change H[d]? = some .mark at h2
      rw [h2] at e2; cases e2
  · refine ⟨rfl, rfl, rfl, Nat.le_refl _, fun _ _ _ => rfl, fun b hb => .inl (hbl b (Nat.lt_of_lt_of_le hb hs.len)), fun b l' hb hw => .inl ?_⟩
    have hblt : b < H.length := by
      by_cases e : b = H.length
      · rw [e, r1] at hb; cases hb
      · have := lt_of_some (r4.rel b l' hb).choose_spec.1
        simp at this; omega
    have hb0 := hb
    rw [hbl b hblt] at hb0
    obtain ⟨o, h1, h2⟩ := hwr b hw
    rw [List.getElem?_append_left hblt] at h1
    exact ⟨b, l', hb0, rfl, o, h1, h2⟩
section
variable {Fc : Fence} {n : Nat} {P : Program} {N0 : AHeap} {Q : AEx → ASt → Prop} {c : Code} {nt : Nat} {T : Nat → Value} {D : List Nat} {H0 : AHeap} {X : Nat → Prop} {Z : Rs} {H : AHeap} {F : List (Nat × AObj)}
/-- .. and one in a block. -/
theorem awp_nilc (hS : St H0 X Z H F) {j b o sz sz' : Nat} {vs : List Value} (hj : F[j]? = some (b, .cells true vs sz)) (hv : vs[o]? = some (.slice none 0 0)) (hk : ∀ b' H', H.length ≤ b' → St H0 X Z H' ((b', .cells true [] sz') :: F.set j (b, .cells true (vs.set o (.slice (some ⟨b', 0, none⟩) 0 0)) sz)) → awp Fc n P N0 c Q ⟨nt, T, D, H'⟩) : awp Fc n P N0 c Q ⟨nt, T, D, H⟩ := by
  have h1 := (hS.setAt hj (.cells true (vs.set o (.slice (some ⟨H.length, 0, none⟩) 0 0)) sz)).push (.cells true [] sz')
  rw [List.length_set] at h1
  refine awp_wk (wk_null (H2 := H.set b (.cells true (vs.set o (.slice (some ⟨H.length, 0, none⟩) 0 0)) sz)) (ob := .cells true [] sz') (T2 := T) (by simp) (fun u => .refl _ _) (by simp) (fun b' => ?_)) (hk _ _ (Nat.le_refl _) h1)
  by_cases e : b = b'
  · subst e
    refine .inr ⟨true, _, vs, sz, by rw [List.getElem?_set, if_pos rfl, if_pos (lt_of_some (hS.getj hj))], hS.getj hj, by simp, fun i => ?_⟩
    have ho := (List.getElem?_eq_some_iff.1 hv).1
    rw [List.getD_eq_getElem?_getD, List.getD_eq_getElem?_getD, List.getElem?_set]
    by_cases e : o = i
    · subst e; rw [if_pos rfl, if_pos ho, hv]; exact .nil _ _
    · rw [if_neg e]; exact .refl _ _
  · rw [List.getElem?_set, if_neg e]; exact .inl rfl
/-- The walk begins. -/
theorem acalls_st {f : FuncId} {fn : Func} {args : List Value} {Q : Value → AHeap → Prop} (hf : P.funcs[f]? = some fn) (hb : fn.body = some c) (hnt : fn.ntmps = nt) (hn : Nat.ble args.length nt = true) (h : awp Fence.wide 1 P H c (RetQ P H fn Q) ⟨nt, T0 args, [], H⟩) : ACalls P f args H Q := acalls_of hf hb hnt (Nat.le_of_ble_eq_true hn) h
end
end Go.Proofs.YtnafdgcikaifmaaGreatA


/-
  Empty literals; appends to these are quiet; numbers.
-/
namespace Go.Proofs.YtnafdgcikaifmaaGreatA
set_option linter.unusedVariables false
open Go Go.RowKit Go.Shelf
theorem hrel_grow {ρ : Ren} {H : AHeap} {w w1 : World} (hh : HRel ρ H w) (hsz : w.heap.size ≤ w1.heap.size) (hk : ∀ k, k < w.heap.size → w1.heap[k]? = w.heap[k]?) : HRel ρ H w1 :=
  ⟨hh.bound, fun b l hb => by
    obtain ⟨o, h1, h2, h3⟩ := hh.rel b l hb
    exact ⟨o, h1, Nat.lt_of_lt_of_le h2 hsz, h3.mono (fun _ _ => .inl rfl) (hk _ h2)⟩, hh.inj, hh.glob, hh.isdead⟩
section
variable {P : Program} {T : Nat → Value} {H : AHeap} {dst : Option Tmp} {ty : TypeId} {pos : String} {af : Array Edge} {g : Option (Nat × Bool)}
/-- A new name that stands for nil, or for a slice of no elements and no room: quiet. -/
theorem null_ext {ρ : Ren} {w w1 : World} (hh : HRel ρ H w) (ob : AObj) (hg : ∀ vs sz, ob ≠ .glob vs sz) (hsz : w.heap.size ≤ w1.heap.size) (hk : ∀ k, k < w.heap.size → w1.heap[k]? = w.heap[k]?) (hos : w1.os = w.os) (htape : w1.tape = w.tape) (hout : w1.output = w.output) :
    ∃ ρ', ρ' H.length = .null ∧ HRel ρ' (H ++ [ob]) w1 ∧ Ext ρ H w ρ' w1 := by
  obtain ⟨ρ', r1, r2, r3, r4⟩ := null_new (hrel_grow hh hsz hk) (o := ob) hg
  refine ⟨ρ', r1, r4, ⟨hos, htape, hout, hsz, fun k hk' _ => hk k hk', fun b hb => r2 b (by omega), fun b l' hb hl => ?_⟩⟩
  by_cases e : b = H.length
  · rw [e, r1] at hl; cases hl
  · rw [r2 b e, hh.bound b hb] at hl; cases hl
theorem q_emptyLit {t el : TypeId} {n : Nat} (hu : P.underlying t = some (.slice el)) (hs : ∀ w, (sizeOf el).run P w = .ok n w) :
    OpQ P ⟨dst, .buildSlice t 0 #[], ty, pos, af, g⟩ T H (.slice (some ⟨H.length, 0, none⟩) 0 0) [.null] := by
  refine ⟨by simp, by simp [AObj.wr], fun ρ e w hh he => ?_⟩
  have hr : (execOp e ⟨dst, .buildSlice t 0 #[], ty, pos, af, g⟩).run P w = .ok (.value (.slice (some ⟨w.heap.size, 0, none⟩) 0 0)) (w.alloc (.cells #[] el)) := by
    refine run_v ?_
    show (Instr.buildSlice t 0 (pmap e #[])).run P w = _
    rw [show pmap e #[] = #[] by simp [pmap]]
    unfold Instr.buildSlice
    simp only [Sem.run_bind, run_und hu, Result.andThen_ok, hs w, Nat.zero_mul]
    rw [if_neg (by omega), if_pos trivial]
    have h5 : Array.map (fun x => (#[] : Array Value)[x % (#[] : Array Value).size]!) (Array.range 0) = #[] := by simp
    simp only [Sem.run_bind, Sem.run_pure, Result.andThen_ok, h5]
    rfl
  rw [hr]
  obtain ⟨ρ', k1, k2, k3⟩ := null_ext (w1 := w.alloc (.cells #[] el)) hh .null (by simp) (by simp [World.size_alloc]) (fun k hk => Below.heap_alloc w _ k hk) rfl rfl rfl
  exact ⟨ρ', .empty k1, k2, k3⟩
theorem vrel_null {ρ : Ren} {w : World} (hh : HRel ρ H w) {b o : Nat} {v' : Value} (h : VRel ρ (.slice (some ⟨b, o, none⟩) 0 0) v') (hl : H[b]? = some .null) : ∃ a, v' = .slice a 0 0 := by
  cases h with
  | slice h =>
    obtain ⟨o, h1, h2, h3⟩ := hh.rel _ _ h
    rw [hl] at h1; cases h1
    exact h3.elim
  | empty h => exact ⟨_, rfl⟩
  | dead h => exact absurd (hh.isdead b h) (by rw [hl]; simp)
/-- append to an empty literal: a new block. It is quiet. -/
theorem q_append_null {x y : Operand} {sT yT el : TypeId} {i : TypeInfo} {z vy : Value} {b o m m' sz : Nat} {xs : List Value} (hm' : m = m') (hu : P.underlying sT = some (.slice el)) (hi : P.info? el = some i) (hiz : i.zero = some z) (hsz : i.size = sz) (hpos : 0 < i.bytes) (hzs : z.cells.size = sz)
    (hx : ev T x = .slice (some ⟨b, o, none⟩) 0 0) (hyv : ev T y = vy) (hH : H[b]? = some .null) (hy0 : ∀ ρ w v', HRel ρ H w → VRel ρ vy v' → ∃ ns, Src P sz yT v' m ns w ∧ LRel ρ xs ns) (hxs : xs.length = m * sz) (hbig : (2 * m' + 1000) * i.bytes ≤ 281474976710656) :
    OpQ P ⟨dst, .call { callee := .builtin .append, args := #[x, y], argTypes := #[sT, yT] }, ty, pos, af, g⟩ T H (.slice (some ⟨H.length, 0, none⟩) m' m') [.cells true xs sz] := by
  subst hm'
  refine ⟨by simp, by simp [AObj.wr], fun ρ e w hh he => ?_⟩
  have h1 := he x (by simp [Op.operands, Call.operands])
  have h2 := he y (by simp [Op.operands, Call.operands])
  rw [hx] at h1
  rw [hyv] at h2
  subst hsz
  obtain ⟨ba, e1⟩ := vrel_null hh h1 hH
  obtain ⟨ns, hS, hN⟩ := hy0 ρ w _ hh h2
  have hNl : ns.length = m * i.size := hS.newsLen
  have hexec : ∀ (v : Value) (w' : World), (Builtin.append_ #[sT, yT] ty #[e x, e y]).run P w = .ok v w' → (execOp e ⟨dst, .call { callee := .builtin .append, args := #[x, y], argTypes := #[sT, yT] }, ty, pos, af, g⟩).run P w = .ok (.value v) w' :=
    fun v w' h => run_builtin (us := #[e x, e y]) (by simp) (run_v h)
  by_cases hm0 : m = 0
  · subst hm0
    have hns : ns = [] := List.length_eq_zero_iff.1 (by rw [hNl, Nat.zero_mul])
    have hr : (Builtin.append_ #[sT, yT] ty #[e x, e y]).run P w = .ok (.slice ba 0 0) w := by
      rw [e1]
      exact append_zero w hu hi hS hns ba
    rw [hexec _ _ hr]
    obtain ⟨ρ', k1, k2, k3⟩ := null_ext hh (.cells true xs i.size) (by simp) (Nat.le_refl _) (fun _ _ => rfl) rfl rfl rfl
    exact ⟨ρ', .empty k1, k2, k3⟩
  · have hnb : m ≤ (2 * m + 1000) * i.bytes := Nat.le_trans (by omega) (Nat.le_mul_of_pos_right _ hpos)
    have hr := run_append_grow_src (P := P) w sT yT ty el i z hu hi hiz ba 0 0 [] (first_zero _ _ _) (e y) m ns hS (by omega) (by omega) (by rw [Nat.zero_add]; have := Nat.mul_le_mul_right i.bytes (nextcap_le (n := m) (o := 0) (by omega)); omega)
    simp only [Nat.zero_add] at hr
    rw [← e1] at hr
    rw [hexec _ _ hr]
    have hcap := grownCap_ge w m 0 el
    obtain ⟨ρ', k1, k2, k3, k4⟩ := new_cells (w1 := w.drew.alloc (.cells (([] ++ ns).toArray ++ Builtin.zeroCells z.cells (grownCap w m 0 el - m)) el)) (E := el) (fr := (0, 0)) (hh.drawn (w.drawn + 1)) i.size (vs := xs) (cs := ([] ++ ns).toArray ++ Builtin.zeroCells z.cells (grownCap w m 0 el - m))
      (fun p hp => by
        have := hN.2 p hp
        have hp' : p < ns.length := by have := hN.1; omega
        have e3 : (([] ++ ns).toArray ++ Builtin.zeroCells z.cells (grownCap w m 0 el - m)).getD (0 + p) undef = ns.getD p undef := by
          rw [Nat.zero_add, Array.getD_eq_getD_getElem?, List.getD_eq_getElem?_getD, Array.getElem?_append_left (by simpa using hp')]
          simp
        rw [e3]; exact this) (by simp [hNl]; omega) (frozen_none _) rfl rfl rfl rfl
    refine ⟨ρ', .slice k1 (Nat.le_refl _) (by omega) (.inl rfl) ?_, k3, ⟨k4.os, k4.tape, k4.output, k4.size, k4.keep, k4.old, k4.fresh⟩⟩
    show 0 + 0 + grownCap w m 0 el * i.size ≤ _
    simp only [List.nil_append, Array.size_append, List.size_toArray, hNl, size_zeroCells, hzs]
    rw [← Nat.add_mul]
    simp only [Nat.zero_add]
    exact Nat.mul_le_mul_right _ (by omega)
/-! ### Numbers -/
/-- A byte of a text; beyond its end there is nothing to say. -/
def byt (s : ByteArray) (i : Nat) : Nat := (s.data.toList.getD i 0).toNat
theorem byt_eq {s : ByteArray} {i : Nat} (h : i < s.size) : byt s i = s[i].toNat := by
  unfold byt
  have h' : i < s.data.toList.length := by simpa using h
  rw [List.getD_eq_getElem?_getD, List.getElem?_eq_getElem h']
  rfl
theorem q_byt {t : TypeId} {x y : Operand} {s : ByteArray} {k : IntKind} {i : Nat} (hu : P.underlying t = some .string) (hx : ev T x = .string s) (hy : ev T y = .int k i) (hi : i < s.size) :
    OpQ P ⟨dst, .index t x y, ty, pos, af, g⟩ T H (.int .u8 (byt s i : Nat)) [] := by
  rw [byt_eq hi]
  exact q_strix hu hx hy hi
end
def boolv (b : Bool) : Value := .bool b
def intv (z : Int) : Value := .int .i64 z
def u64v (n : Nat) : Value := .int .u64 (n : Int)
def u8v (n : Nat) : Value := .int .u8 (n : Int)
def LcAll (H : AHeap) : List Value → Prop
  | [] => True
  | v :: l => Lc H v ∧ LcAll H l
theorem lcsA {H : AHeap} : ∀ {l : List Value}, LcAll H l → ∀ u ∈ l, Lc H u
  | [], _, u, hu => by cases hu
  | v :: l, h, u, hu => by
    rcases List.mem_cons.1 hu with rfl | hu
    · exact h.1
    · exact lcsA h.2 u hu
section
variable {P : Program} {T : Nat → Value} {H : AHeap} {dst : Option Tmp} {ty : TypeId} {pos : String} {af : Array Edge} {g : Option (Nat × Bool)} {α : Type} {f : α → Value} {v : Value} {l : List α}
end
/-! ### What functions answer -/
/-- A new slice of a list's elements; else all is as it was. -/
def Fresh {α : Type} (f : α → Value) (l : List α) (H : AHeap) (v : Value) (H' : AHeap) : Prop :=
  K0 H H' ∧ ∃ b, v = .slice (some ⟨b, 0, none⟩) l.length l.length ∧ H.length ≤ b ∧ H'[b]? = some (.cells true (l.map f) 1)
theorem St.out {H0 : AHeap} {Z : Rs} {H : AHeap} {F : List (Nat × AObj)} (h : St H0 none0 Z H F) {j b : Nat} {o : AObj} (hj : F[j]? = some (b, o)) : H0.length ≤ b := (h.own _ (List.mem_of_getElem? hj)).resolve_right fun h => h
/-- An answer without blocks of its own; all is as it was. -/
def Pure (v : Value) (H : AHeap) (u : Value) (H' : AHeap) : Prop := K0 H H' ∧ u = v
end Go.Proofs.YtnafdgcikaifmaaGreatA


/-
  Ranges over functions, over blocks that bear names; what calls have turned.
-/
namespace Go.Proofs.YtnafdgcikaifmaaGreatA
set_option linter.unusedVariables false
open Go Go.RowKit Go.Shelf
section
variable {n : Nat} {P : Program} {N0 : AHeap} {nt : Nat} {T : Nat → Value} {D : List Nat} {Q : AEx → ASt → Prop}
/-- What is owed behind the function that was ranged over. -/
def RangeB (n : Nat) (P : Program) (N0 : AHeap) (d l : Nat) (lp : LoopState → Option Code → AObj) (nt : Nat) (T : Nat → Value) (D : List Nat) (Q : AEx → ASt → Prop) (H' : AHeap) : Prop :=
  (∀ e ∈ d :: D, H'[e]? = some .mark) ∧ ((H'[l]? = some (lp .ready none) ∧ ∃ s2, Wk N0 ⟨nt, T, d :: D, H'.set l .none⟩ s2 ∧ Q .normal s2) ∨ ∃ c, H'[l]? = some (lp .done (some c)) ∧ awp Fence.wide n P N0 c Q ⟨nt, T, d :: D, H'.set l .none⟩)
/-- How a round's body may be left. -/
def RoundB (l : Nat) (lp : LoopState → Option Code → AObj) (R : Bool → AHeap → Prop) : AEx → ASt → Prop
  | .normal, s => s.H[l]? = some (lp .busy none) ∧ R true (s.H.set l (lp .ready none))
  | .ret, s => s.H[l]? = some (lp .busy none) ∧ R false (s.H.set l (lp .done (some .ret)))
  | .exit id, s => s.H[l]? = some (lp .busy none) ∧ R false (s.H.set l (lp .done (some (.exit id))))
  | .goto t, s => s.H[l]? = some (lp .busy none) ∧ R false (s.H.set l (lp .done (some (.goto t))))
end
section
variable {H0 : AHeap} {X : Nat → Prop} {Z : Rs} {H H' : AHeap} {F F' : List (Nat × AObj)}
theorem St.nej (h : St H0 X Z H F) {i j b c : Nat} {o p : AObj} (hi : F[i]? = some (b, o)) (hj : F[j]? = some (c, p)) (hne : i ≠ j) : b ≠ c := h.ne hi hj hne
theorem St.kept (h : St H0 X Z H F) {Y : Nat → Prop} (k : Kp Y H H') {j b : Nat} {o : AObj} (hj : F[j]? = some (b, o)) (hy : ¬ Y b) : H'[b]? = some o := by
  have h1 := h.getj hj
  rw [k.get _ (lt_of_some h1) hy]; exact h1
/-- How some blocks stand. -/
def AllAt (H : AHeap) : List (Nat × AObj) → Prop
  | [] => True
  | p :: l => H[p.1]? = some p.2 ∧ AllAt H l
theorem AllAt.mem {H : AHeap} : ∀ {l : List (Nat × AObj)}, AllAt H l → ∀ p ∈ l, H[p.1]? = some p.2
  | [], _, p, hp => by cases hp
  | q :: l, h, p, hp => by
    rcases List.mem_cons.1 hp with rfl | hp
    · exact h.1
    · exact AllAt.mem h.2 p hp
end
end Go.Proofs.YtnafdgcikaifmaaGreatA


/-
  Marks of many ranges; more ends.
-/
namespace Go.Proofs.YtnafdgcikaifmaaGreatA
set_option linter.unusedVariables false
open Go Go.RowKit Go.Shelf
def marks (D : List Nat) : List (Nat × AObj) := D.map fun d => (d, AObj.mark)
section
variable {H0 : AHeap} {X : Nat → Prop} {Z : Rs} {H H' : AHeap} {F F' : List (Nat × AObj)}
theorem St.perm (h : St H0 X Z H F) (p : F'.Perm F) : St H0 X Z H F' :=
  ⟨h.kp, ((p.map (·.1)).nodup_iff).2 h.nd, fun q hq => h.get q (p.mem_iff.1 hq), fun q hq => h.own q (p.mem_iff.1 hq), fun b vs sz hz => ⟨(h.z b vs sz hz).1, fun q hq => (h.z b vs sz hz).2 q (p.mem_iff.1 hq)⟩⟩
theorem St.sub (h : St H0 X Z H F) (p : F'.Sublist F) : St H0 X Z H F' :=
  ⟨h.kp, h.nd.sublist (p.map _), fun q hq => h.get q (p.subset hq), fun q hq => h.own q (p.subset hq), fun b vs sz hz => ⟨(h.z b vs sz hz).1, fun q hq => (h.z b vs sz hz).2 q (p.subset hq)⟩⟩
end
section
variable {P : Program} {N0 H : AHeap} {nt : Nat} {T : Nat → Value} {fn : Func} {Q : Value → AHeap → Prop} {vs : List Value} {v : Value} {s : ASt} {D : List Nat} {Z : Rs} {E : List (Nat × AObj)}
end
section
variable {F : Fence} {n : Nat} {P : Program} {N0 : AHeap} {Q : AEx → ASt → Prop} {s : ASt}
end
/-- Nothing jumps. -/
def AEx.noGoto (Q : AEx → ASt → Prop) : AEx → ASt → Prop
  | .goto _, _ => False
  | e, s => Q e s
section
variable {Q : AEx → ASt → Prop} {s : ASt}
theorem ng_normal (h : Q .normal s) : AEx.noGoto Q .normal s := h
theorem ng_ret (h : Q .ret s) : AEx.noGoto Q .ret s := h
theorem ng_exit {i : Nat} (h : Q (.exit i) s) : AEx.noGoto Q (.exit i) s := h
end
/-- New blocks, each by its name; else all is as it was. -/
def NewL (H H' : AHeap) (L : List (Nat × AObj)) : Prop := K0 H H' ∧ (L.map (·.1)).Nodup ∧ (∀ p ∈ L, H.length ≤ p.1) ∧ AllAt H' L
theorem allAt_of {H : AHeap} : ∀ {l : List (Nat × AObj)}, (∀ p ∈ l, H[p.1]? = some p.2) → AllAt H l
  | [], _ => trivial
  | q :: l, h => ⟨h q List.mem_cons_self, allAt_of fun p hp => h p (List.mem_cons_of_mem _ hp)⟩
section
variable {H0 : AHeap} {X : Nat → Prop} {Z : Rs} {H H' : AHeap} {F L : List (Nat × AObj)}
theorem St.newL (h : St H0 none0 Z H F) : NewL H0 H F := ⟨h.kp, h.nd, fun p hp => (h.own p hp).resolve_right fun h => h, allAt_of h.get⟩
theorem St.callL (h : St H0 X Z H F) (k : NewL H H' L) : St H0 X Z H' (L ++ F) := by
  obtain ⟨k1, k2, k3, k4⟩ := k
  refine h.turn k1 (L ++ F) ?_ (fun p hp => ?_) (fun _ h => h.elim)
  · rw [List.map_append]
    refine List.nodup_append.2 ⟨k2, h.nd, fun a ha b hb e => ?_⟩
    obtain ⟨p, hp, rfl⟩ := List.mem_map.1 ha
    obtain ⟨q, hq, rfl⟩ := List.mem_map.1 hb
    have h1 := k3 p hp
    have h2 := lt_of_some (h.get q hq)
    omega
  · rcases List.mem_append.1 hp with hp | hp
    · exact .inr ⟨k4.mem p hp, .inl (k3 p hp)⟩
    · exact .inl ⟨hp, fun h => h⟩
end
/-- What may be read, some blocks aside. -/
abbrev Off (H : AHeap) (ks : List Nat) : Rs := fun b vs sz => Rd H b vs sz ∧ b ∉ ks
theorem off_kp {H H' : AHeap} {ks : List Nat} (k : Kp (· ∈ ks) H H') : ∀ b vs sz, Off H ks b vs sz → Off H' ks b vs sz := fun b vs sz h => ⟨k.rd h.1 h.2, h.2⟩
theorem SlZ.off {α : Type} {f : α → Value} {H H' : AHeap} {ks : List Nat} {v : Value} {l : List α} (h : SlZ f (Off H ks) v l) (k : Kp (· ∈ ks) H H') : SlZ f (Off H' ks) v l := h.mono (off_kp k)
section
variable {H0 : AHeap} {X : Nat → Prop} {Z : Rs} {H H' : AHeap} {F F' : List (Nat × AObj)} {α : Type} {f : α → Value}
theorem St.offj (h : St H0 X Z H F) {ks : List Nat} {j b n c : Nat} {w : Bool} {l : List α} (hj : F[j]? = some (b, .cells w (l.map f) 1)) (hb : b ∉ ks) (hn : l.length = n) (hc : n ≤ c) : SlZ f (Off H ks) (.slice (some ⟨b, 0, none⟩) n c) l := slz_full ⟨h.rd hj, hb⟩ hn hc
end
theorem allAt_mem {H : AHeap} {l : List (Nat × AObj)} (h : AllAt H l) : ∀ p ∈ l, H[p.1]? = some p.2 := fun p hp => h.mem p hp
theorem nin1 {a b : Nat} (h : a ≠ b) : a ∉ [b] := by simp [h]
theorem nin2 {a b c : Nat} (h : a ≠ b) (k : a ≠ c) : a ∉ [b, c] := by simp [h, k]
def keep1 (n b0 : Nat) : Nat → Option Nat := fun b => if b < n then some b else if b = n then some b0 else none
end Go.Proofs.YtnafdgcikaifmaaGreatA


/-
  Shifts and bits of natural numbers; texts and numbers.
-/
namespace Go.Proofs.YtnafdgcikaifmaaGreatA
set_option linter.unusedVariables false
open Go Go.RowKit Go.Shelf
section
variable {P : Program} {T : Nat → Value} {H : AHeap} {dst : Option Tmp} {ty : TypeId} {pos : String} {af : Array Edge} {g : Option (Nat × Bool)}
/-- x & m, of a signed number: what it comes to. -/
def imask (a : Int) (m : Nat) : Nat := (BitVec.ofInt 64 a).toNat &&& m
end
def bytv (b : UInt8) : Value := .int .u8 (b.toNat : Int)
/-! ### Numbers as bytes, the lowest first -/
def getN : List UInt8 → Nat
  | [] => 0
  | b :: l => b.toNat + 256 * getN l
def putL (n : Nat) : Nat → List UInt8
  | 0 => []
  | k + 1 => UInt8.ofNat n :: putL (n / 256) k
abbrev bl (s : ByteArray) : List UInt8 := s.data.toList
def getB (s : ByteArray) : Nat := getN (bl s)
def putB (n k : Nat) : ByteArray := ⟨(putL n k).toArray⟩
theorem bl_length (s : ByteArray) : (bl s).length = s.size := Array.length_toList
theorem bl_inj {a b : ByteArray} (h : bl a = bl b) : a = b := by
  obtain ⟨a⟩ := a; obtain ⟨b⟩ := b
  simp only [bl] at h
  rw [Array.toList_inj.1 h]
theorem bl_append (s t : ByteArray) : bl (s ++ t) = bl s ++ bl t := by simp [bl, ByteArray.data_append]
theorem size_append (s t : ByteArray) : (s ++ t).size = s.size + t.size := by rw [← bl_length, bl_append, List.length_append, bl_length, bl_length]
/-- A part that is there, or none. -/
def partV (s : ByteArray) (i n : Nat) : ByteArray := if i + n ≤ s.size then s.extract i (i + n) else ⟨#[]⟩
def atV (s : ByteArray) (i k : Nat) : Nat := if i + k ≤ s.size then getB (s.extract i (i + k)) else 0
end Go.Proofs.YtnafdgcikaifmaaGreatA


/-
  append in place, clear, a slice against nil; less of a block.
-/
namespace Go.Proofs.YtnafdgcikaifmaaGreatA
set_option linter.unusedVariables false
open Go Go.RowKit Go.Shelf
section
variable {F : Fence} {nn : Nat} {P : Program} {N0 : AHeap} {s : ASt} {dst : Option Tmp} {ty : TypeId} {pos : String} {af : Array Edge} {g : Option (Nat × Bool)}
end
section
variable {Fc : Fence} {n : Nat} {P : Program} {N0 : AHeap} {ops : Array Oper} {rest : List Oper} {K : ASt → Prop} {nt : Nat} {T : Nat → Value} {D : List Nat} {d : Tmp} {tab : List Nat} {i : Nat} {ty : TypeId} {pos : String} {af : Array Edge} {g : Option (Nat × Bool)}
variable {H0 : AHeap} {X : Nat → Prop} {Z : Rs} {H : AHeap} {F F' : List (Nat × AObj)}
end
/-! ### Slices of slices -/
section
variable {α : Type} {f : α → Value}
def Sl2Z (f : α → Value) (Z : Rs) (v : Value) (ll : List (List α)) : Prop :=
  (v = .slice none 0 0 ∧ ll = []) ∨ ∃ b o c vs, v = .slice (some ⟨b, o, none⟩) ll.length c ∧ Z b vs 1 ∧ o + ll.length ≤ vs.length ∧ ll.length ≤ c ∧ ∀ i (h : i < ll.length), ∃ u, vs[o + i]? = some u ∧ SlZ f Z u ll[i]
theorem Sl2Z.mono {Z Z' : Rs} {v : Value} {ll : List (List α)} (h : Sl2Z f Z v ll) (hz : ∀ b vs sz, Z b vs sz → Z' b vs sz) : Sl2Z f Z' v ll := by
  rcases h with h | ⟨b, o, c, vs, h1, h2, h3, h4, h5⟩
  · exact .inl h
  · refine .inr ⟨b, o, c, vs, h1, hz _ _ _ h2, h3, h4, fun i hi => ?_⟩
    obtain ⟨u, h6, h7⟩ := h5 i hi
    exact ⟨u, h6, h7.mono hz⟩
theorem Sl2Z.lc {Z : Rs} {H0 : AHeap} {X : Nat → Prop} {H : AHeap} {F : List (Nat × AObj)} (hS : St H0 X Z H F) {v : Value} {ll : List (List α)} (h : Sl2Z f Z v ll) : Lc H v := by
  rcases h with ⟨rfl, _⟩ | ⟨b, o, c, vs, rfl, h2, _⟩
  · exact lc_scalar rfl
  · exact lc_slice (hS.zrd h2).live
end
end Go.Proofs.YtnafdgcikaifmaaGreatA


/-
  a slice that may be nil, against nil; parts of an own slice; less capacity.
-/
namespace Go.Proofs.YtnafdgcikaifmaaGreatA
set_option linter.unusedVariables false
open Go Go.RowKit Go.Shelf
section
variable {F : Fence} {nn : Nat} {P : Program} {N0 : AHeap} {s : ASt} {dst : Option Tmp} {ty : TypeId} {pos : String} {af : Array Edge} {g : Option (Nat × Bool)}
end
section
variable {Fc : Fence} {n : Nat} {P : Program} {N0 : AHeap} {ops : Array Oper} {rest : List Oper} {K : ASt → Prop} {nt : Nat} {T : Nat → Value} {D : List Nat} {d : Tmp} {tab : List Nat} {i : Nat} {ty : TypeId} {pos : String} {af : Array Edge} {g : Option (Nat × Bool)}
variable {H0 : AHeap} {X : Nat → Prop} {Z : Rs} {H : AHeap} {F F' : List (Nat × AObj)}
end
section
variable {α : Type} {f : α → Value} {H : AHeap} {b : Nat} {L : List α}
end
end Go.Proofs.YtnafdgcikaifmaaGreatA


/-
  Slices whose elements are structs: of m cells each.
-/
namespace Go.Proofs.YtnafdgcikaifmaaGreatA
set_option linter.unusedVariables false
set_option linter.unusedSectionVars false
open Go Go.RowKit Go.Shelf
section
variable {α : Type} [Inhabited α] {f : α → List Value} {m : Nat} {l : List α}
def fl (f : α → List Value) (l : List α) : List Value := l.flatMap f
def Wm (f : α → List Value) (m : Nat) : Prop := ∀ x, (f x).length = m
theorem fl_len (h : Wm f m) : ∀ {l : List α}, (fl f l).length = l.length * m
  | [] => by simp [fl]
  | x :: l => by
    have := fl_len h (l := l)
    unfold fl at this ⊢
    rw [List.flatMap_cons, List.length_append, this, h x, List.length_cons, Nat.add_mul, Nat.one_mul, Nat.add_comm]
theorem fl_app (a b : List α) : fl f (a ++ b) = fl f a ++ fl f b := by simp [fl]
theorem fl_cons (x : α) (l : List α) : fl f (x :: l) = f x ++ fl f l := rfl
theorem fl_split (h : Wm f m) {i : Nat} (hi : i < l.length) : fl f l = fl f (l.take i) ++ f (nth l i) ++ fl f (l.drop (i + 1)) ∧ (fl f (l.take i)).length = i * m := by
  refine ⟨?_, by rw [fl_len h, List.length_take, Nat.min_eq_left (by omega)]⟩
  have e : l = l.take i ++ nth l i :: l.drop (i + 1) := by rw [nth_eq hi, ← List.drop_eq_getElem_cons hi, List.take_append_drop]
  have e2 : fl f l = fl f (l.take i ++ nth l i :: l.drop (i + 1)) := congrArg (fl f) e
  rw [e2, fl_app, fl_cons, List.append_assoc]
theorem fl_at (h : Wm f m) {i : Nat} (hi : i < l.length) : ((fl f l).drop (i * m)).take m = f (nth l i) := by
  obtain ⟨h1, h2⟩ := fl_split h hi
  rw [h1, List.append_assoc, List.drop_append, List.drop_of_length_le (by omega), h2, Nat.sub_self, List.nil_append, List.drop_zero, List.take_append_of_le_length (by rw [h]; exact Nat.le_refl _), List.take_of_length_le (by rw [h]; exact Nat.le_refl _)]
theorem fl_get (h : Wm f m) {i k : Nat} (hi : i < l.length) (hk : k < m) : (fl f l)[i * m + k]? = (f (nth l i))[k]? := by
  rw [← fl_at h hi, List.getElem?_take, if_pos hk, List.getElem?_drop]
def SlSZ (f : α → List Value) (m : Nat) (Z : Rs) (v : Value) (l : List α) : Prop :=
  (v = .slice none 0 0 ∧ l = []) ∨ ∃ b o c vs, v = .slice (some ⟨b, o, none⟩) l.length c ∧ Z b vs m ∧ o + l.length * m ≤ vs.length ∧ l.length ≤ c ∧ (vs.drop o).take (l.length * m) = fl f l
abbrev SlS (f : α → List Value) (m : Nat) (H : AHeap) (v : Value) (l : List α) : Prop := SlSZ f m (Rd H) v l
theorem SlSZ.mono {Z Z' : Rs} {v : Value} (h : SlSZ f m Z v l) (hz : ∀ b vs sz, Z b vs sz → Z' b vs sz) : SlSZ f m Z' v l := by
  rcases h with h | ⟨b, o, c, vs, h1, h2, h3⟩
  · exact .inl h
  · exact .inr ⟨b, o, c, vs, h1, hz _ _ _ h2, h3⟩
theorem SlSZ.nil {Z : Rs} : SlSZ f m Z (.slice none 0 0) [] := .inl ⟨rfl, rfl⟩
theorem slsz_full {Z : Rs} (h : Wm f m) {b n c : Nat} (hz : Z b (fl f l) m) (hn : l.length = n) (hc : n ≤ c) : SlSZ f m Z (.slice (some ⟨b, 0, none⟩) n c) l := by
  subst hn
  exact .inr ⟨b, 0, c, fl f l, rfl, hz, by rw [fl_len h]; omega, hc, by rw [List.drop_zero, List.take_of_length_le (by rw [fl_len h]; exact Nat.le_refl _)]⟩
section
variable {H0 : AHeap} {X : Nat → Prop} {Z : Rs} {H : AHeap} {F : List (Nat × AObj)}
theorem St.sls (h : St H0 X Z H F) {v : Value} (hs : SlSZ f m Z v l) : SlS f m H v l := hs.mono fun b vs sz hz => h.zrd hz
theorem St.slsj (h : St H0 X Z H F) (hw : Wm f m) {j b : Nat} {w : Bool} (hj : F[j]? = some (b, .cells w (fl f l) m)) {n c : Nat} (hn : l.length = n) (hc : n ≤ c) : SlS f m H (.slice (some ⟨b, 0, none⟩) n c) l := slsz_full hw (h.rd hj) hn hc
theorem SlSZ.k0 {H' : AHeap} {v : Value} (h : SlS f m H v l) (k : K0 H H') : SlS f m H' v l := h.mono fun b vs sz hz => k.rd hz (fun h => h)
end
section
variable {P : Program} {T : Nat → Value} {H : AHeap} {dst : Option Tmp} {ty : TypeId} {pos : String} {af : Array Edge} {g : Option (Nat × Bool)} {v : Value}
theorem SlS.at' (h : SlS f m H v l) {i : Nat} (hi : i < l.length) (hw : Wm f m) : ∃ b o c vs, v = .slice (some ⟨b, o, none⟩) l.length c ∧ Rd H b vs m ∧ o + i * m + m ≤ vs.length ∧ (vs.drop (o + i * m)).take m = f (nth l i) := by
  rcases h with ⟨_, rfl⟩ | ⟨b, o, c, vs, rfl, h2, h3, h4, h5⟩
  · simp at hi
  · have h6 : (i + 1) * m ≤ l.length * m := Nat.mul_le_mul_right m hi
    rw [Nat.add_mul, Nat.one_mul] at h6
    refine ⟨b, o, c, vs, rfl, h2, by omega, ?_⟩
    rw [← fl_at hw hi, ← h5, List.drop_take, List.take_take, List.drop_drop, Nat.min_eq_left (by omega)]
theorem q_index_sls {t el : TypeId} {x y : Operand} {k : IntKind} {i : Nat} (hu : P.underlying t = some (.slice el)) (hs : ∀ w, (sizeOf el).run P w = .ok m w) (h : SlS f m H v l) (hw : Wm f m) (hx : ev T x = v) (hy : ev T y = .int k (i : Nat)) (hi : i < l.length) :
    OpQ P ⟨dst, .indexAddr t x y, ty, pos, af, g⟩ T H (.pointer (some ⟨sb v, so v + i * m, none⟩)) [] := by
  obtain ⟨b, o, c, vs, rfl, h2, _⟩ := h.at' hi hw
  exact q_index (u := 0) hu hs hx hy hi h2
theorem sls_cell {b o i k : Nat} {vs : List Value} (h4 : (vs.drop (o + i * m)).take m = f (nth l i)) (hk : k < m) : vs[o + i * m + k]? = (f (nth l i))[k]? := by
  rw [← h4, List.getElem?_take, if_pos hk, List.getElem?_drop]
theorem q_load_sls {t : TypeId} {x : Operand} {i k : Nat} {u : Value} (hu : ∀ w, (isAgg t).run P w = .ok false w) (h : SlS f m H v l) (hw : Wm f m) (hx : ev T x = .pointer (some ⟨sb v, so v + i * m + k, none⟩)) (hi : i < l.length) (hk : k < m) (hg : (f (nth l i))[k]? = some u) :
    OpQ P ⟨dst, .load t x, ty, pos, af, g⟩ T H u [] := by
  obtain ⟨b, o, c, vs, rfl, h2, h3, h4⟩ := h.at' hi hw
  exact q_load hu hx h2 ((sls_cell (b := b) h4 hk).trans hg)
theorem q_load_sls0 {t : TypeId} {x : Operand} {i : Nat} {u : Value} (hu : ∀ w, (isAgg t).run P w = .ok false w) (h : SlS f m H v l) (hw : Wm f m) (hx : ev T x = .pointer (some ⟨sb v, so v + i * m, none⟩)) (hi : i < l.length) (hk : 0 < m) (hg : (f (nth l i))[0]? = some u) :
    OpQ P ⟨dst, .load t x, ty, pos, af, g⟩ T H u [] := q_load_sls (k := 0) hu h hw hx hi hk hg
theorem q_field_sls {s : TypeId} {x : Operand} {i j n oo : Nat} {fs : Array Field} {fd : Field} (hu : P.underlying s = some (.struct fs)) (hf : fs[j]? = some fd) (hz : ∀ w, (sizeOf fd.type).run P w = .ok (n + 1) w) (h : SlS f m H v l) (hw : Wm f m) (hx : ev T x = .pointer (some ⟨sb v, oo, none⟩)) (hi : i < l.length) :
    OpQ P ⟨dst, .fieldAddr s x j, ty, pos, af, g⟩ T H (.pointer (some ⟨sb v, oo + fd.offset, none⟩)) [] := by
  obtain ⟨b, o, c, vs, rfl, h2, h3, h4⟩ := h.at' hi hw
  exact q_field hu hf hz hx h2
theorem q_len_sls {t el : TypeId} {x : Operand} (hu : P.underlying t = some (.slice el)) (h : SlS f m H v l) (hx : ev T x = v) :
    OpQ P ⟨dst, .call { callee := .builtin .len, args := #[x], argTypes := #[t] }, ty, pos, af, g⟩ T H (.int .i64 (l.length : Nat)) [] := by
  rcases h with ⟨rfl, rfl⟩ | ⟨b, o, c, vs, rfl, h2, _⟩
  · exact q_len_nil hu hx
  · exact q_len_slice hu hx h2
theorem SlS.lc (h : SlS f m H v l) : Lc H v := by
  rcases h with ⟨rfl, _⟩ | ⟨b, o, c, vs, rfl, h2, _⟩
  · exact lc_scalar rfl
  · exact lc_slice h2.live
theorem src_sls {y : Value} {yT e' : TypeId} (hw : Wm f m) (hf : ∀ x ∈ l, ∀ u ∈ f x, Lc H u) (hy : P.underlying yT = some (.slice e')) (h : SlS f m H y l) : ∀ ρ w v', HRel ρ H w → VRel ρ y v' → ∃ ns, Src P m yT v' l.length ns w ∧ LRel ρ (fl f l) ns := by
  intro ρ w v' hh hv
  rcases h with ⟨rfl, rfl⟩ | ⟨b, o, c, vs, rfl, hR, hl, hc, hg⟩
  · have e := hv.scalar_eq rfl
    subst e
    exact ⟨[], ⟨.inl ⟨e', hy⟩, fun w' => rfl, first_zero _ _ _, rfl, by simp, fun u hu => by simp at hu⟩, .nil ρ⟩
  · obtain ⟨ns, h1, h2⟩ := src_of (P := P) (m := m) hh hy hR hv hl (fun u hu => by
      rw [hg] at hu
      obtain ⟨x, hx, hux⟩ := List.mem_flatMap.1 hu
      exact hf x hx u hux)
    rw [hg] at h2
    exact ⟨ns, h1, h2⟩
end
end
section
variable {Fc : Fence} {n : Nat} {P : Program} {N0 : AHeap} {ops : Array Oper} {rest : List Oper} {K : ASt → Prop} {nt : Nat} {T : Nat → Value} {D : List Nat} {d : Tmp} {tab : List Nat} {i : Nat} {ty : TypeId} {pos : String} {af : Array Edge} {g : Option (Nat × Bool)}
variable {H0 : AHeap} {X : Nat → Prop} {Z : Rs} {H : AHeap} {F : List (Nat × AObj)}
/-- append to a slice of one's own, of structs. -/
theorem x_appendS {α : Type} [Inhabited α] {f : α → List Value} {m : Nat} {l l0 l' : List α} (fls : List Nat) (hF : Wd Fc) (hS : St H0 X Z H F) (hfl : floatOk ops tab i fls = true) {x y : Operand} {sT yT el e' : TypeId} {ti : TypeInfo} {z vy : Value} {j b nn c : Nat} (n' : Nat) (hn' : nn + l.length = n') (hg : GYes ops ⟨some d, .call { callee := .builtin .append, args := #[x, y], argTypes := #[sT, yT] }, ty, pos, af, g⟩ T) (hu : P.underlying sT = some (.slice el)) (hy : P.underlying yT = some (.slice e')) (hi : P.info? el = some ti) (hiz : ti.zero = some z) (hsz : ti.size = m) (hpos : 0 < ti.bytes) (hzs : z.cells.size = m)
    (hw : Wm f m) (hx : ev T x = .slice (some ⟨b, 0, none⟩) nn c) (hyv : ev T y = vy) (hj : F[j]? = some (b, .cells true (fl f l0) m)) (hSl : SlS f m H vy l) (hf : ∀ x ∈ l, ∀ u ∈ f x, Lc H u) (htail : nn = l0.length) (hbig : (2 * n' + 1000) * ti.bytes ≤ 281474976710656) (hcx : cOk H x) (hcy : cOk H y) (hd : d < nt) (hfx : offF ops fls x = true) (hfy : offF ops fls y = true)
    (hl' : l0 ++ l = l') (hk : ∀ b' H', H.length ≤ b' → St H0 X Z H' (F.set j (b', .cells true (fl f l') m)) → PendL P ops ⟨nt, upd T d (.slice (some ⟨b', 0, none⟩) n' n'), D, H'⟩ fls ∧ dList Fc n P N0 ops tab (i + 1) rest K ⟨nt, upd T d (.slice (some ⟨b', 0, none⟩) n' n'), D, H'⟩) :
    dList Fc n P N0 ops tab i (⟨some d, .call { callee := .builtin .append, args := #[x, y], argTypes := #[sT, yT] }, ty, pos, af, g⟩ :: rest) K ⟨nt, T, D, H⟩ :=
  x_appendG fls hF hS hfl n' hn' hg hu hi hiz hsz hpos hzs hx hyv hj (fun ρ w v' hh hv => src_sls hw hf hy hSl ρ w v' hh hv) (by rw [Nat.zero_add, htail, fl_len hw]) (fl_len hw) hbig hcx hcy hd hfx hfy (by rw [List.drop_zero, ← fl_app, hl']) hk
end
def FreshS {α : Type} (f : α → List Value) (m : Nat) (l : List α) (H : AHeap) (v : Value) (H' : AHeap) : Prop :=
  K0 H H' ∧ ∃ b, v = .slice (some ⟨b, 0, none⟩) l.length l.length ∧ H.length ≤ b ∧ H'[b]? = some (.cells true (l.flatMap f) m)
end Go.Proofs.YtnafdgcikaifmaaGreatA


/-
  Ends whose results hold what the caller had: nothing is changed, what is new is dropped.
-/
namespace Go.Proofs.YtnafdgcikaifmaaGreatA
set_option linter.unusedVariables false
open Go Go.RowKit Go.Proofs
theorem vsub_tupL {φ : Nat → Option Nat} {l : List Value} (h : LSub φ l l) : VSub φ (.tuple l.toArray) (.tuple l.toArray) := .tuple rfl fun i hi => by
  have := h.at i
  simpa [Array.getD_eq_getD_getElem?, List.getD_eq_getElem?_getD] using this
theorem vsub_ptr {H : AHeap} {b o : Nat} (h : b < H.length) : VSub (keep0 H.length) (.pointer (some ⟨b, o, none⟩)) (.pointer (some ⟨b, o, none⟩)) := .ptr (if_pos h)
section
variable {P : Program} {N0 H : AHeap} {nt : Nat} {T : Nat → Value} {fn : Func} {Q : Value → AHeap → Prop} {vs : List Value} {v : Value} {s : ASt}
theorem ret_noneV (hs : s = ⟨nt, T, [], H⟩) (k : K0 N0 H) (hr : ARes P s fn.results.toList vs) (hv : retv vs = v) (hn : VSub (keep0 N0.length) v v) (hQ : Q v N0) : Ret P N0 fn Q s := by
  subst hs hv
  exact ⟨.nil, .inr ⟨vs, _, _, N0, hr, gc_none k, hn, hQ⟩⟩
end
def keep2 (n b0 c0 : Nat) : Nat → Option Nat := fun b => if b < n then some b else if b = n then some b0 else if b = n + 1 then some c0 else none
end Go.Proofs.YtnafdgcikaifmaaGreatA


/-
  append(nil, make([]T, n)...), cap of nil, less capacity told.
-/
namespace Go.Proofs.YtnafdgcikaifmaaGreatA
set_option linter.unusedVariables false
open Go Go.RowKit Go.Shelf
section
variable {P : Program} {T : Nat → Value} {H : AHeap} {dst : Option Tmp} {ty : TypeId} {pos : String} {af : Array Edge} {g : Option (Nat × Bool)}
end
end Go.Proofs.YtnafdgcikaifmaaGreatA


/-
  A region that draws its order, walked in another order than it is written in.
-/
namespace Go.Proofs.YtnafdgcikaifmaaGreatA
set_option linter.unusedVariables false
open Go Go.RowKit Go.Shelf
def relab (q : List Nat) (o : Oper) : Oper := { o with after := o.after.map fun e => { e with on := q.getD e.on 0 }, guard := o.guard.map fun g => (q.getD g.1 0, g.2) }
/-- The operations in the order p; q tells where each stands then. -/
def reord (p q : List Nat) (l : List Oper) : List Oper := p.map fun i => relab q (l.getD i default)
def permOk (p q : List Nat) (l : List Oper) : Bool := p.length == l.length && q.length == l.length && (List.range l.length).all (fun i => decide (p.getD i 0 < l.length) && decide (q.getD i 0 < l.length) && p.getD (q.getD i 0) 0 == i && q.getD (p.getD i 0) 0 == i) && l.all fun o => o.after.all (fun e => decide (e.on < l.length)) && (match o.guard with | some g => decide (g.1 < l.length) | none => true)
section
variable {F : Fence} {n : Nat} {P : Program} {l : List Oper} {p q : List Nat}
structure PermP (p q : List Nat) (l : List Oper) : Prop where
  pl : p.length = l.length
  ql : q.length = l.length
  pp : ∀ i, i < l.length → p.getD i 0 < l.length
  qq : ∀ i, i < l.length → q.getD i 0 < l.length
  pq : ∀ i, i < l.length → p.getD (q.getD i 0) 0 = i
  qp : ∀ i, i < l.length → q.getD (p.getD i 0) 0 = i
  af : ∀ o ∈ l, ∀ e ∈ o.after.toList, e.on < l.length
  gd : ∀ o ∈ l, ∀ g, o.guard = some g → g.1 < l.length
theorem permP (h : permOk p q l = true) : PermP p q l := by
  unfold permOk at h
  simp only [Bool.and_eq_true, beq_iff_eq, List.all_eq_true, List.mem_range, decide_eq_true_eq] at h
  obtain ⟨⟨⟨h1, h2⟩, h3⟩, h4⟩ := h
  refine ⟨h1, h2, fun i hi => (h3 i hi).1.1.1, fun i hi => (h3 i hi).1.1.2, fun i hi => (h3 i hi).1.2, fun i hi => (h3 i hi).2, fun o ho e he => ?_, fun o ho g hg => ?_⟩
  · have := (h4 o ho).1
    rw [Array.all_eq_true_iff_forall_mem] at this
    exact of_decide_eq_true (this e (by simpa using he))
  · have := (h4 o ho).2
    rw [hg] at this
    exact of_decide_eq_true this
theorem reord_len (h : PermP p q l) : (reord p q l).length = l.length := by unfold reord; rw [List.length_map, h.pl]
theorem reord_at (h : PermP p q l) {i : Nat} (hi : i < l.length) : (reord p q l).toArray[q.getD i 0]? = some (relab q l[i]) := by
  have hq := h.qq i hi
  have hqp : q.getD i 0 < p.length := by rw [h.pl]; exact hq
  have e1 : p[q.getD i 0]'hqp = i := by
    have := h.pq i hi
    rw [List.getD_eq_getElem?_getD (l := p), List.getElem?_eq_getElem hqp] at this
    exact this
  unfold reord
  simp only [List.getElem?_toArray, List.getElem?_map, List.getElem?_eq_getElem hqp, Option.map_some, e1]
  rw [List.getD_eq_getElem?_getD, List.getElem?_eq_getElem hi]; rfl
theorem dp_reord (h : PermP p q l) {i : Nat} (hi : i < l.length) : dp (reord p q l).toArray (q.getD i 0) = (dp l.toArray i).map fun k => q.getD k 0 := by
  unfold dp
  rw [reord_at h hi]
  simp only [List.getElem?_toArray, List.getElem?_eq_getElem hi, Option.map_some, Option.getD_some]
  unfold relab
  simp only [Array.toList_map, List.filterMap_map, List.map_filterMap]
  congr 1
  funext e
  show (if Region.binds .any e = true then some (q.getD e.on 0) else none) = Option.map _ (if Region.binds .any e = true then some e.on else none)
  split <;> rfl
theorem dp_in (h : PermP p q l) {i k : Nat} (hk : k ∈ dp l.toArray i) : k < l.length := by
  unfold dp at hk
  cases ho : l.toArray[i]? with
  | none => rw [ho] at hk; simp at hk
  | some o =>
    rw [ho] at hk
    simp only [Option.map_some, Option.getD_some, List.mem_filterMap] at hk
    obtain ⟨e, he, h2⟩ := hk
    split at h2
    · cases h2
      have hm : o ∈ l := by
        rw [List.getElem?_toArray] at ho
        exact List.mem_of_getElem? ho
      exact h.af o hm e he
    · cases h2
theorem yield_reord (h : PermP p q l) {j : Nat} (hj : j < l.length) (tmps : Array Value) : yielded (reord p q l).toArray tmps (q.getD j 0) = yielded l.toArray tmps j := by
  unfold yielded
  rw [reord_at h hj]
  simp only [List.getElem?_toArray, List.getElem?_eq_getElem hj]
  rfl
theorem wpOp_reord (h : PermP p q l) {Q : Exit → Act → World → Prop} {K K' : Act → World → Prop} {i : Nat} (hi : i < l.length) (hK : ∀ a w, K' a w → K a w) {a : Act} {w : World} (hh : wpOpIn F n P (reord p q l).toArray Q (q.getD i 0) K' a w) : wpOpIn F n P l.toArray Q i K a w := by
  refine wpOpIn_mono hK ?_
  unfold wpOpIn at hh ⊢
  rw [reord_at h hi] at hh
  simp only [List.getElem?_toArray, List.getElem?_eq_getElem hi] at hh ⊢
  have e : Region.wanted (relab q l[i]) (yielded (reord p q l).toArray a.tmps) = Region.wanted l[i] (yielded l.toArray a.tmps) := by
    unfold Region.wanted
    show (match (l[i].guard.map fun g => (q.getD g.1 0, g.2)) with | none => true | some (j, want) => yielded (reord p q l).toArray a.tmps j == some want) = _
    cases hg : l[i].guard with
    | none => rfl
    | some g =>
      obtain ⟨j, want⟩ := g
      have hj := h.gd l[i] (List.getElem_mem hi) (j, want) hg
      show (yielded (reord p q l).toArray a.tmps (q.getD j 0) == some want) = (yielded l.toArray a.tmps j == some want)
      rw [yield_reord h hj]
  rw [e] at hh
  exact hh
theorem wpAny_reord (h : PermP p q l) {Q : Exit → Act → World → Prop} : ∀ (fuel : Nat) (ls ls' : Array Bool) (a : Act) (w : World), ls.size = l.length → ls'.size = l.length → (∀ i, i < l.length → Lof ls' (q.getD i 0) = Lof ls i) →
    wpAnyIn F n P .any (reord p q l).toArray Q fuel ls' a w → wpAnyIn F n P .any l.toArray Q fuel ls a w := by
  intro fuel
  have hrl := reord_len h
  have rdy : ∀ (ls ls' : Array Bool), ls.size = l.length → ls'.size = l.length → (∀ i, i < l.length → Lof ls' (q.getD i 0) = Lof ls i) → ∀ i, i ∈ Region.ready .any l.toArray ls → q.getD i 0 ∈ Region.ready .any (reord p q l).toArray ls' := fun ls ls' h1 h2 h3 i hi => by
    obtain ⟨r1, r2, r3⟩ := ready_mem (ops := l.toArray) (by simpa using h1) hi
    have r1' : i < l.length := by simpa using r1
    refine ready_of (by simp [hrl, h2]) (by simp [hrl]; exact h.qq i r1') (by rw [h3 i r1']; exact r2) fun k hk => ?_
    rw [dp_reord h r1'] at hk
    obtain ⟨k0, hk0, rfl⟩ := List.mem_map.1 hk
    rw [h3 k0 (dp_in h hk0)]
    exact r3 k0 hk0
  have rdy2 : ∀ (ls ls' : Array Bool), ls.size = l.length → ls'.size = l.length → (∀ i, i < l.length → Lof ls' (q.getD i 0) = Lof ls i) → Region.ready .any l.toArray ls = [] → Region.ready .any (reord p q l).toArray ls' = [] := fun ls ls' h1 h2 h3 hn => by
    refine List.eq_nil_iff_forall_not_mem.2 fun j hj => ?_
    obtain ⟨r1, r2, r3⟩ := ready_mem (ops := (reord p q l).toArray) (by simp [hrl, h2]) hj
    have r1' : j < l.length := by simpa [hrl] using r1
    have hm : p.getD j 0 ∈ Region.ready .any l.toArray ls := by
      have hpj := h.pp j r1'
      refine ready_of (by simpa using h1) (by simpa using hpj) (by rw [← h3 _ hpj, h.qp j r1']; exact r2) fun k hk => ?_
      have hkl := dp_in h hk
      rw [← h3 k hkl]
      refine r3 _ ?_
      rw [← h.qp j r1', dp_reord h hpj]
      exact List.mem_map.2 ⟨k, hk, rfl⟩
    rw [hn] at hm
    cases hm
  induction fuel with
  | zero =>
    intro ls ls' a w h1 h2 h3 hh
    refine ⟨?_, hh.2⟩
    refine List.eq_nil_iff_forall_not_mem.2 fun i hi => ?_
    have := rdy ls ls' h1 h2 h3 i hi
    rw [hh.1] at this
    cases this
  | succ fuel ih =>
    intro ls ls' a w h1 h2 h3 hh
    refine ⟨fun hn => hh.1 (rdy2 ls ls' h1 h2 h3 hn), fun i hi => ?_⟩
    obtain ⟨r1, r2, r3⟩ := ready_mem (ops := l.toArray) (by simpa using h1) hi
    have r1' : i < l.length := by simpa using r1
    refine wpOp_reord h r1' (fun a w hk => ?_) (hh.2 _ (rdy ls ls' h1 h2 h3 i hi))
    refine ih _ _ _ _ (by simpa using h1) (by simpa using h2) (fun k hk => ?_) hk
    have hq := h.qq i r1'
    rw [lof_set (by omega), lof_set (by omega)]
    by_cases e : k = i
    · subst e; simp
    · have e2 : q.getD k 0 ≠ q.getD i 0 := fun e2 => e (by rw [← h.pq k hk, e2, h.pq i r1'])
      simp only [if_neg e, if_neg e2]
      exact h3 k hk
end
section
variable {F : Fence} {n : Nat} {P : Program} {N0 : AHeap}
theorem any_goal (hF : Wd F) {Q : AEx → ASt → Prop} {s : ASt} {l : List Oper} (tab : List Nat) (ht : tabOk l.toArray tab = true) (hs : ssaOk l.toArray tab = true)
    (h : dList F n P N0 l.toArray tab 0 l (Q .normal) s) {ρ : Ren} {a : Act} {w : World} (hs0 : SRel N0 ρ s a w) : wpAnyIn F n P .any l.toArray (APost N0 Q ρ s.H w) l.toArray.size (Array.replicate l.toArray.size false) a { w with drawn := w.drawn + 1 } := by
  obtain ⟨e, st, hce, hst, hch, hend⟩ := chain_of (ops := l.toArray) l 0 s (fun j => by simp) h
  have hL : ∀ k, Lof (Array.replicate l.toArray.size false) k = false := fun k => by
    unfold Lof
    by_cases hk : k < l.length <;> simp [hk]
  have hs1 := hs0.drawn (w.drawn + 1)
  have hf0 : Fr N0.length ρ s.H w ρ s.H { w with drawn := w.drawn + 1 } := (Fr.refl N0.length ρ s.H { w with drawn := w.drawn + 1 }).drew
  have hM : Mid P N0 l.toArray st 0 e (Lof (Array.replicate l.toArray.size false)) ρ a { w with drawn := w.drawn + 1 } :=
    .start hch hce (fun k hk => by rw [hL k] at hk; cases hk) (fun k hk => by omega) (fun i j h1 h2 => by omega) (fun k _ => hL k) (T0 := (st 0).T) (fun _ _ => rfl) (by rw [hst]; exact hs1)
  refine any_sound (R := APost N0 Q ρ s.H w) hF ht hs (fun hl => by obtain ⟨a, w, x, s', ρ', h, _⟩ := hl; cases x <;> cases h) ρ s.H w (fun s' ρ' a' w' hk hs' hf => ⟨.normal, s', ρ', rfl, hk, hs', hf⟩) _ _ ρ a _ st 0 e (by simp) ?_ hce hch hM ?_ ?_
  · unfold left
    rw [List.filter_eq_self.2 (fun i _ => by rw [hL i]; rfl)]
    simp
  · refine ⟨hf0.os, hf0.tape, hf0.output, hf0.size, hf0.keep, hf0.oldA, fun b l' hb hw => .inl ⟨b, l', hb, rfl, ?_⟩⟩
    obtain ⟨o2, p1, p2⟩ := hw
    have hb2 : b < (st 0).H.length := by
      by_cases e1 : b < (st 0).H.length
      · exact e1
      · rw [hst] at e1; rw [hs0.heap.bound b (by omega)] at hb; cases hb
    exact ⟨o2, by rw [← hst, ← chain_get hch (Nat.le_refl _) hce (Nat.le_refl _) hb2]; exact p1, p2⟩
  · rcases hend with ⟨q1, q2⟩ | ⟨o', r', q1, q2, q3, q4, q5⟩
    · exact .inl ⟨by simpa using q1, q2⟩
    · exact .inr ⟨o', r', q1, q2, q5⟩
/-- A region that draws its order, in the order p. -/
theorem awp_regp (hF : Wd F) (hm : P.follows .mixedOrders = true) (p q : List Nat) {id : Nat} {Q : AEx → ASt → Prop} {s : ASt} {l : List Oper} (hp : permOk p q l = true) (ht : tabOk (reord p q l).toArray (tabOf (reord p q l).toArray) = true) (hs : ssaOk (reord p q l).toArray (tabOf (reord p q l).toArray) = true)
    (h : dList F n P N0 (reord p q l).toArray (tabOf (reord p q l).toArray) 0 (reord p q l) (fun s' => ∃ s2, Wk N0 s' s2 ∧ Q .normal s2) s) : awp F n P N0 (.region id l.toArray true) Q s := by
  have hP := permP hp
  have hl := reord_len hP
  refine awp_post ?_
  intro ρ a w hs0
  refine wpIn_region_any hm ?_
  have h2 := any_goal (Q := fun e s' => ∃ s2, Wk N0 s' s2 ∧ Q e s2) hF _ ht hs h hs0
  have e : (reord p q l).toArray.size = l.toArray.size := by simpa using hl
  rw [e] at h2
  refine wpAny_reord hP _ _ _ a _ (by simp) (by simp) (fun i hi => ?_) h2
  have hL : ∀ k, Lof (Array.replicate l.toArray.size false) k = false := fun k => by
    unfold Lof
    by_cases hk : k < l.length <;> simp [hk]
  rw [hL, hL]
end
section
variable {H0 : AHeap} {X : Nat → Prop} {Z : Rs}
theorem St.unmark {E : List (Nat × AObj)} : ∀ (D : List Nat) {H : AHeap}, St H0 X Z H (E ++ marks D) → St H0 X Z (unmark D H) E
  | [], H, h => by rw [show marks [] = [] from rfl, List.append_nil] at h; exact h
  | d :: D, H, h => by
    have h1 : St H0 X Z H ((d, .mark) :: (E ++ marks D)) := h.perm List.perm_middle.symm
    exact St.unmark D ((h1.setAt (j := 0) rfl .none).forget 0)
end
end Go.Proofs.YtnafdgcikaifmaaGreatA


/-
  A region that draws its order, walked in two ways: one operation ahead of another, and behind it.
-/
namespace Go.Proofs.YtnafdgcikaifmaaGreatA
set_option linter.unusedVariables false
open Go Go.RowKit Go.Shelf
/-- Operation y waits on operation x, too. -/
def addE (x y : Nat) (l : List Oper) : List Oper := (List.range l.length).map fun i => if i = y then { l.getD i default with after := (l.getD i default).after.push ⟨x, .data⟩ } else l.getD i default
def plainOp : Op → Bool
  | .move _ | .assign _ | .load _ _ | .buildSlice _ _ _ | .indexAddr _ _ _ => true
  | _ => false
def plainR : Result Next → Prop
  | .ok (.enter _ _) _ => False
  | .ok (.row _ _) _ => False
  | .ok (.round _ _ _ _ _) _ => False
  | _ => True
section
variable {F : Fence} {n : Nat} {P : Program} {l : List Oper} {x y : Nat} {Q : Exit → Act → World → Prop}
def splitOk (x y : Nat) (l : List Oper) : Bool := x != y && (List.range l.length).all fun i => i == x || i == y || (l[i]?.map fun o => plainOp o.op).getD false || (dp l.toArray i).contains x || (dp l.toArray i).contains y
end
section
variable {F : Fence} {n : Nat} {P : Program} {N0 : AHeap}
end
end Go.Proofs.YtnafdgcikaifmaaGreatA


/-
  An element of an array's value.
-/
namespace Go.Proofs.YtnafdgcikaifmaaGreatA
set_option linter.unusedVariables false
open Go Go.RowKit Go.Shelf
section
variable {P : Program} {T : Nat → Value} {H : AHeap} {dst : Option Tmp} {ty : TypeId} {pos : String} {af : Array Edge} {g : Option (Nat × Bool)}
end
/-- Nil within a value. -/
theorem PS.agg {N : Nat} {vs2 vs : Array Value} (h : vs2.size = vs.size) (hi : ∀ i, i < vs2.size → PS N (vs2.getD i undef) (vs.getD i undef)) : PS N (.agg vs2) (.agg vs) := fun ρ v' hn hv => by
  obtain ⟨vs', rfl, h3, h4⟩ := vrel_agg hv
  exact .agg (h.trans h3) fun i hi' => hi i hi' ρ _ hn (h4 i (h ▸ hi'))
end Go.Proofs.YtnafdgcikaifmaaGreatA


/-
  Method values, pointers against nil.
-/
namespace Go.Proofs.YtnafdgcikaifmaaGreatA
set_option linter.unusedVariables false
open Go Go.RowKit Go.Shelf
section
variable {P : Program} {T : Nat → Value} {H : AHeap} {dst : Option Tmp} {ty : TypeId} {pos : String} {af : Array Edge} {g : Option (Nat × Bool)}
theorem q_ptrnil_f {t u : TypeId} {x y : Operand} {e : TypeId} {b o : Nat} (hu : P.underlying t = some (.pointer e)) (hx : ev T x = .pointer (some ⟨b, o, none⟩)) (hl : H[b]? ≠ some .dead) (hy : ev T y = .pointer none) :
    OpQ P ⟨dst, .binOp .eql t x y u, ty, pos, af, g⟩ T H (.bool false) [] :=
  q_val (by simp) fun ρ e w hh h => by
    have h1 := h x (by simp [Op.operands])
    have h2 := h y (by simp [Op.operands])
    rw [hx] at h1
    rw [hy] at h2
    obtain ⟨l, _, e1⟩ := vrel_ptr hh h1 hl
    have e2 := h2.scalar_eq rfl
    refine ⟨.bool false, ?_, .bool _⟩
    have he : (Op.equalIn Op.maxDepth t (.pointer (some ⟨l.blk, l.base + o, none⟩)) (.pointer none)).run P w = .ok false w := by
      show (Op.equalIn (9999 + 1) t _ _).run _ _ = _
      unfold Op.equalIn
      simp [go_sem, run_und hu]
    simp [execOp, e1, e2, eqGuard, binOp, Op.equal, he, go_sem]
end
theorem SlS.cells {α : Type} [Inhabited α] {f : α → List Value} {m : Nat} {H : AHeap} {v : Value} {l : List α} (h : SlS f m H v l) : v.cells.toList = [v] := by
  rcases h with ⟨rfl, _⟩ | ⟨b, o, c, vs, rfl, _⟩ <;> rfl
end Go.Proofs.YtnafdgcikaifmaaGreatA


/-
  Blocks of a known type: strings.Builder, and its row of bytes.
-/
namespace Go.Proofs.YtnafdgcikaifmaaGreatA
set_option linter.unusedVariables false
open Go Go.RowKit Go.Shelf
section
variable {F : Fence} {n : Nat} {P : Program} {N0 : AHeap} {s : ASt} {dst : Option Tmp} {ty : TypeId} {pos : String} {af : Array Edge} {g : Option (Nat × Bool)}
end
section
variable {P : Program} {F : Fence} {nn : Nat} {N0 : AHeap} {s : ASt} {dst : Option Tmp} {ty : TypeId} {pos : String} {af : Array Edge} {g : Option (Nat × Bool)}
end
section
variable {P : Program} {T : Nat → Value} {H : AHeap} {dst : Option Tmp} {ty : TypeId} {pos : String} {af : Array Edge} {g : Option (Nat × Bool)}
end
section
variable {F : Fence} {n : Nat} {P : Program} {N0 : AHeap} {s : ASt} {dst : Option Tmp} {ty : TypeId} {pos : String} {af : Array Edge} {g : Option (Nat × Bool)}
end
section
variable {Fc : Fence} {n : Nat} {P : Program} {N0 : AHeap} {ops : Array Oper} {o : Oper} {rest : List Oper} {K : ASt → Prop} {nt : Nat} {T : Nat → Value} {D : List Nat} {d : Tmp} {v : Value} {tab : List Nat} {i : Nat} {op : Op} {ty : TypeId} {pos : String} {af : Array Edge} {g : Option (Nat × Bool)}
variable {H0 : AHeap} {X : Nat → Prop} {Z : Rs} {H : AHeap} {F F' : List (Nat × AObj)}
end
end Go.Proofs.YtnafdgcikaifmaaGreatA


/-
  Walks of functions of the given program, and what they compute.
-/
namespace Go.Proofs.YtnafdgcikaifmaaGreatA
set_option linter.unusedVariables false
open Go Go.RowKit Go.Shelf Go.Proofs
def firstK (p : Nat → Bool) (n : Nat) : Nat := ((List.range n).find? p).getD n
theorem firstK_yes {p : Nat → Bool} {n i : Nat} (hi : i < n) (h : p i = true) (hn : ∀ j, j < i → p j = false) : firstK p n = i := by
  have : (List.range n).find? p = some i := by
    rw [List.find?_range_eq_some]
    exact ⟨h, List.mem_range.2 hi, fun j hj => by rw [hn j hj]; rfl⟩
  unfold firstK; rw [this]; rfl
theorem firstK_no {p : Nat → Bool} {n : Nat} (hn : ∀ j, j < n → p j = false) : firstK p n = n := by
  have : (List.range n).find? p = none := by
    rw [List.find?_range_eq_none]
    exact fun j hj => by rw [hn j hj]; rfl
  unfold firstK; rw [this]; rfl
theorem ACalls.castV {P : Program} {f : FuncId} {a : List Value} {H : AHeap} {H' : AHeap} {v v' : Value} (h : ACalls P f a H (Rets v H')) (e : v = v') : ACalls P f a H (Rets v' H') := e ▸ h
def ptv (c : Nat) : Value := .pointer (some ⟨c, 0, none⟩)
abbrev Fl := ByteArray × ByteArray
@[reducible] def fcell (x : Fl) : List Value := [.string x.1, .string x.2, .bool false, .pointer none, .int .i64 0, .int .u64 0, .string ⟨#[]⟩]
structure FZ (Z : Rs) (ps : List Nat) (l : List Fl) : Prop where
  len : ps.length = l.length
  at_ : ∀ i, i < l.length → Z (nth ps i) (fcell (nth l i)) 7
theorem FZ.mono {Z Z' : Rs} {ps : List Nat} {l : List Fl} (h : FZ Z ps l) (hz : ∀ b vs sz, Z b vs sz → Z' b vs sz) : FZ Z' ps l := ⟨h.len, fun i hi => hz _ _ _ (h.at_ i hi)⟩
theorem nthS_mem {α : Type} [Inhabited α] {l : List α} {k : Nat} (h : k < l.length) : nth l k ∈ l := by rw [nth_eq h]; exact List.getElem_mem h
def fI (l : List Fl) (s : ByteArray) : Nat := firstK (fun i => decide ((nth l i).1 = s)) l.length
def ixF (l : List Fl) (s : ByteArray) : Int := if fI l s < l.length then ((fI l s : Nat) : Int) else -1
theorem ixF_y {l : List Fl} {s : ByteArray} {i : Nat} (hi : i < l.length) (h : (nth l i).1 = s) (hn : ∀ j, j < i → (nth l j).1 ≠ s) : ixF l s = ((i : Nat) : Int) := by
  have e : fI l s = i := firstK_yes hi (decide_eq_true h) fun j hj => decide_eq_false (hn j hj)
  unfold ixF; rw [e, if_pos hi]
theorem ixF_n {l : List Fl} {s : ByteArray} (hn : ∀ j, j < l.length → (nth l j).1 ≠ s) : ixF l s = -1 := by
  have e : fI l s = l.length := firstK_no fun j hj => decide_eq_false (hn j hj)
  unfold ixF; rw [e, if_neg (Nat.lt_irrefl _)]
theorem lt_succ_casesN {p : Nat → Prop} {i : Nat} (h : ∀ j, j < i → p j) (hi : p i) : ∀ j, j < i + 1 → p j := fun j hj => by
  by_cases e : j = i
  · subst e; exact hi
  · exact h j (by omega)
def nmB (b : Nat) : Bool := decide (33 ≤ b) && decide (b ≤ 126)
def nmOk (s : ByteArray) : Bool := decide (1 ≤ s.size) && decide (s.size ≤ 32) && (List.range s.size).all fun i => nmB (byt s i)
theorem nmOk_size {s : ByteArray} (h : s.size < 1 ∨ 32 < s.size) : nmOk s = false := by
  unfold nmOk
  rcases h with h | h
  · rw [decide_eq_false (show ¬ 1 ≤ s.size by omega)]; rfl
  · rw [decide_eq_false (show ¬ s.size ≤ 32 by omega), Bool.and_false]; rfl
theorem nmOk_bad {s : ByteArray} {i : Nat} (hi : i < s.size) (h : byt s i < 33 ∨ 126 < byt s i) : nmOk s = false := by
  have : ((List.range s.size).all fun i => nmB (byt s i)) = false := by
    rw [List.all_eq_false]
    refine ⟨i, List.mem_range.2 hi, ?_⟩
    unfold nmB
    rcases h with h | h
    · rw [decide_eq_false (show ¬ 33 ≤ byt s i by omega)]; simp
    · rw [decide_eq_false (show ¬ byt s i ≤ 126 by omega)]; simp
  unfold nmOk
  rw [this, Bool.and_false]
theorem nmOk_yes {s : ByteArray} (h1 : 1 ≤ s.size) (h2 : s.size ≤ 32) (h : ∀ j, j < s.size → 33 ≤ byt s j ∧ byt s j ≤ 126) : nmOk s = true := by
  unfold nmOk
  rw [decide_eq_true h1, decide_eq_true h2]
  refine List.all_eq_true.2 fun i hi => ?_
  obtain ⟨q1, q2⟩ := h i (List.mem_range.1 hi)
  unfold nmB
  rw [decide_eq_true q1, decide_eq_true q2]; rfl
theorem size_pos {s : ByteArray} (h : ¬ s = ⟨#[]⟩) : 1 ≤ s.size := by
  refine Decidable.byContradiction fun hn => h (bl_inj ?_)
  refine List.eq_nil_of_length_eq_zero ?_
  rw [bl_length]; omega
def addV (l : List Fl) (n b : ByteArray) : Nat := if nmOk n = false then 25 else if 65536 < b.size then 6 else if fI l n < l.length then 26 else if 16 ≤ l.length then 6 else 0
set_option maxRecDepth 100000 in
set_option maxHeartbeats 4000000 in
theorem named_ok {H0 : AHeap} (s : ByteArray) (hs : s.size ≤ 9223372036854775807) : ACalls Tryz.prog 15 [.string s] H0 (Rets (.bool (nmOk s)) H0) := by
  have hF : Wd Fence.wide := .inl rfl
  have hM : Tryz.prog.follows .mixedOrders = true := by kernel_rfl
  have s0 := St.begin H0
  refine acalls_st Tryz.func15 rfl Tryz.ntmps15 rfl ?_
  refine awp_seq ?_
  refine awp_regs hF ?_
  refine dv (gyes_none rfl) (q_as (v := .bool false) rfl) rfl (by decide) (cok1 (cconst rfl)) ?_
  refine ⟨_, Wk.refl _ _, ?_⟩
  show awp _ _ _ _ _ _ _
  refine awp_seq ?_
  refine awp_seq ?_
  refine awp_regs hF ?_
  refine dv (gyes_none rfl) (q_mv (v := .string s) rfl) rfl (by decide) (cok1 trivial) ?_
  refine dvb (gyes_none rfl) (q_streq rfl rfl) rfl (by decide) (cok2 trivial (cconst rfl)) (fun c1 => ?_) (fun c1 => ?_)
  ·
    replace c1 := of_decide_eq_true c1
    have hz : s.size = 0 := by rw [c1]; rfl
    refine dv (gyes_none rfl) (q_mv (v := .bool true) rfl) rfl (by decide) (cok1 trivial) ?_
    refine dno rfl (.inl rfl) rfl (by decide) ?_
    refine dno rfl (.inl rfl) rfl (by decide) ?_
    refine dno rfl (.inl rfl) rfl (by decide) ?_
    refine dv (gyes_none rfl) (q_pt (v := .bool true) rfl rfl) rfl (by decide) (call_ok rfl) ?_
    refine ⟨_, Wk.refl _ _, ?_⟩
    show awp _ _ _ _ _ _ _
    refine awp_cond_t rfl ?_
    refine awp_seq ?_
    refine awp_regs hF ?_
    refine dv (gyes_none rfl) (q_as (v := .bool false) rfl) rfl (by decide) (cok1 (cconst rfl)) ?_
    refine ⟨_, Wk.refl _ _, ?_⟩
    show awp _ _ _ _ _ _ _
    refine awp_ret_wk ?_
    refine ⟨_, Wk.refl _ _, ?_⟩
    repeat (with_reducible first | refine then_ret ?_ | refine blk_ret ?_ | refine then_exit ?_ | refine blk_exit ?_ | refine blk_exit' (by decide) ?_ | refine blk_normal ?_ | refine then_normal ?_ | refine retq_ret ?_ | refine retq_normal ?_ | refine ng_normal ?_ | refine ng_ret ?_ | refine ng_exit ?_)
    exact ret_none (v := .bool false) rfl s0.kp (.tmp rfl .nil) rfl rfl ⟨by rw [nmOk_size (by omega)], rfl⟩
  ·
    replace c1 := of_decide_eq_false c1
    have hz := size_pos c1
    refine dv (gyes_none rfl) (q_mv (v := .bool false) rfl) rfl (by decide) (cok1 trivial) ?_
    refine dv (gyes_some rfl rfl) (q_mv (v := .string s) rfl) rfl (by decide) (cok1 trivial) ?_
    refine dv (gyes_some rfl rfl) (q_len_str Tryz.underlying9 rfl) rfl (by decide) (cok1 trivial) ?_
    refine dvb (gyes_some rfl rfl) (q_int rfl rfl rfl) rfl (by decide) (cok2 trivial (cconst rfl)) (fun c2 => ?_) (fun c2 => ?_)
    ·
      replace c2 := of_decide_eq_true c2
      refine dv (gyes_none rfl) (q_pf (v := .bool true) rfl rfl) rfl (by decide) (call_ok rfl) ?_
      refine ⟨_, Wk.refl _ _, ?_⟩
      show awp _ _ _ _ _ _ _
      refine awp_cond_t rfl ?_
      refine awp_seq ?_
      refine awp_regs hF ?_
      refine dv (gyes_none rfl) (q_as (v := .bool false) rfl) rfl (by decide) (cok1 (cconst rfl)) ?_
      refine ⟨_, Wk.refl _ _, ?_⟩
      show awp _ _ _ _ _ _ _
      refine awp_ret_wk ?_
      refine ⟨_, Wk.refl _ _, ?_⟩
      repeat (with_reducible first | refine then_ret ?_ | refine blk_ret ?_ | refine then_exit ?_ | refine blk_exit ?_ | refine blk_exit' (by decide) ?_ | refine blk_normal ?_ | refine then_normal ?_ | refine retq_ret ?_ | refine retq_normal ?_ | refine ng_normal ?_ | refine ng_ret ?_ | refine ng_exit ?_)
      exact ret_none (v := .bool false) rfl s0.kp (.tmp rfl .nil) rfl rfl ⟨by rw [nmOk_size (by omega)], rfl⟩
    ·
      replace c2 := of_decide_eq_false c2
      refine dv (gyes_none rfl) (q_pf (v := .bool false) rfl rfl) rfl (by decide) (call_ok rfl) ?_
      refine ⟨_, Wk.refl _ _, ?_⟩
      show awp _ _ _ _ _ _ _
      refine awp_cond_f rfl ?_
      refine awp_skip_wk ?_
      refine ⟨_, Wk.refl _ _, ?_⟩
      show awp _ _ _ _ _ _ _
      refine awp_seq ?_
      refine awp_seq ?_
      refine awp_regs hF ?_
      refine dv (gyes_none rfl) (q_mv (v := .string s) rfl) rfl (by decide) (cok1 trivial) ?_
      refine dv (gyes_none rfl) (q_len_str Tryz.underlying9 rfl) rfl (by decide) (cok1 trivial) ?_
      refine dv (gyes_none rfl) (q_mv (v := .int .i64 0) rfl) rfl (by decide) (cok1 (cconst rfl)) ?_
      refine ⟨_, Wk.refl _ _, ?_⟩
      show awp _ _ _ _ _ _ _
      refine awp_block ?_
      refine awp_wk (Wk.U [(0, .string s), (12, .int .i64 ((s.size : Nat) : Int)), (13, .int .i64 0)] ⟨rfl, rfl, rfl, trivial⟩) ?_
      refine awp_loop (fun (i : Nat) st => ∃ (H1 : AHeap), st = ⟨27, U [(0, .string s), (12, .int .i64 ((s.size : Nat) : Int)), (13, .int .i64 ((i : Nat) : Int))], [], H1⟩ ∧ St H0 (none0) (Rd H0) H1 [] ∧ (i ≤ s.size ∧ ∀ j, j < i → 33 ≤ byt s j ∧ byt s j ≤ 126)) (fun (i : Nat) => s.size - i) (x0 := (0)) ?h0 ?round
      case h0 =>
        exact ⟨_, rfl, s0, ⟨Nat.zero_le _, fun j h => absurd h (Nat.not_lt_zero _)⟩⟩
      case round =>
        rintro i _ ⟨H1, rfl, s2, hi⟩
        refine awp_seq ?_
        refine awp_regs hF ?_
        refine dvb (gyes_none rfl) (q_int rfl rfl rfl) rfl (by decide) (cok2 trivial trivial) (fun c3 => ?_) (fun c3 => ?_)
        ·
          replace c3 := of_decide_eq_true c3
          refine ⟨_, Wk.refl _ _, ?_⟩
          show awp _ _ _ _ _ _ _
          refine awp_seq ?_
          refine awp_cond_t rfl ?_
          refine awp_skip_wk ?_
          refine ⟨_, Wk.refl _ _, ?_⟩
          show awp _ _ _ _ _ _ _
          refine awp_seq ?_
          refine awp_block ?_
          refine awp_seq ?_
          refine awp_regs hF ?_
          refine dv (gyes_none rfl) (q_mv (v := .int .i64 ((i : Nat) : Int)) rfl) rfl (by decide) (cok1 trivial) ?_
          refine dv (gyes_none rfl) (q_as (v := .int .i64 ((i : Nat) : Int)) rfl) rfl (by decide) (cok1 trivial) ?_
          refine ⟨_, Wk.refl _ _, ?_⟩
          show awp _ _ _ _ _ _ _
          refine awp_seq ?_
          refine awp_regs hF ?_
          refine dv (gyes_none rfl) (q_mv (v := .string s) rfl) rfl (by decide) (cok1 trivial) ?_
          refine dv (gyes_none rfl) (q_mv (v := .int .i64 ((i : Nat) : Int)) rfl) rfl (by decide) (cok1 trivial) ?_
          refine dv (gyes_none rfl) (q_byt (i := i) Tryz.underlying9 rfl rfl (by omega)) rfl (by decide) (cok2 trivial trivial) ?_
          refine dvb (gyes_none rfl) (q_int rfl rfl rfl) rfl (by decide) (cok2 trivial (cconst rfl)) (fun c4 => ?_) (fun c4 => ?_)
          ·
            replace c4 := of_decide_eq_true c4
            refine dv (gyes_none rfl) (q_mv (v := .bool true) rfl) rfl (by decide) (cok1 trivial) ?_
            refine dno rfl (.inl rfl) rfl (by decide) ?_
            refine dno rfl (.inl rfl) rfl (by decide) ?_
            refine dno rfl (.inl rfl) rfl (by decide) ?_
            refine dno rfl (.inl rfl) rfl (by decide) ?_
            refine dv (gyes_none rfl) (q_pt (v := .bool true) rfl rfl) rfl (by decide) (call_ok rfl) ?_
            refine ⟨_, Wk.refl _ _, ?_⟩
            show awp _ _ _ _ _ _ _
            refine awp_cond_t rfl ?_
            refine awp_seq ?_
            refine awp_regs hF ?_
            refine dv (gyes_none rfl) (q_as (v := .bool false) rfl) rfl (by decide) (cok1 (cconst rfl)) ?_
            refine ⟨_, Wk.refl _ _, ?_⟩
            show awp _ _ _ _ _ _ _
            refine awp_ret_wk ?_
            refine ⟨_, Wk.refl _ _, ?_⟩
            repeat (with_reducible first | refine then_ret ?_ | refine blk_ret ?_ | refine then_exit ?_ | refine blk_exit ?_ | refine blk_exit' (by decide) ?_ | refine blk_normal ?_ | refine then_normal ?_ | refine retq_ret ?_ | refine retq_normal ?_ | refine ng_normal ?_ | refine ng_ret ?_ | refine ng_exit ?_)
            exact ret_none (v := .bool false) rfl s2.kp (.tmp rfl .nil) rfl rfl ⟨by rw [nmOk_bad (i := i) (by omega) (by omega)], rfl⟩
          ·
            replace c4 := of_decide_eq_false c4
            refine dv (gyes_none rfl) (q_mv (v := .bool false) rfl) rfl (by decide) (cok1 trivial) ?_
            refine dv (gyes_some rfl rfl) (q_mv (v := .string s) rfl) rfl (by decide) (cok1 trivial) ?_
            refine dv (gyes_some rfl rfl) (q_mv (v := .int .i64 ((i : Nat) : Int)) rfl) rfl (by decide) (cok1 trivial) ?_
            refine dv (gyes_some rfl rfl) (q_byt (i := i) Tryz.underlying9 rfl rfl (by omega)) rfl (by decide) (cok2 trivial trivial) ?_
            refine dvb (gyes_some rfl rfl) (q_int rfl rfl rfl) rfl (by decide) (cok2 trivial (cconst rfl)) (fun c5 => ?_) (fun c5 => ?_)
            ·
              replace c5 := of_decide_eq_true c5
              refine dv (gyes_none rfl) (q_pf (v := .bool true) rfl rfl) rfl (by decide) (call_ok rfl) ?_
              refine ⟨_, Wk.refl _ _, ?_⟩
              show awp _ _ _ _ _ _ _
              refine awp_cond_t rfl ?_
              refine awp_seq ?_
              refine awp_regs hF ?_
              refine dv (gyes_none rfl) (q_as (v := .bool false) rfl) rfl (by decide) (cok1 (cconst rfl)) ?_
              refine ⟨_, Wk.refl _ _, ?_⟩
              show awp _ _ _ _ _ _ _
              refine awp_ret_wk ?_
              refine ⟨_, Wk.refl _ _, ?_⟩
              repeat (with_reducible first | refine then_ret ?_ | refine blk_ret ?_ | refine then_exit ?_ | refine blk_exit ?_ | refine blk_exit' (by decide) ?_ | refine blk_normal ?_ | refine then_normal ?_ | refine retq_ret ?_ | refine retq_normal ?_ | refine ng_normal ?_ | refine ng_ret ?_ | refine ng_exit ?_)
              exact ret_none (v := .bool false) rfl s2.kp (.tmp rfl .nil) rfl rfl ⟨by rw [nmOk_bad (i := i) (by omega) (by omega)], rfl⟩
            ·
              replace c5 := of_decide_eq_false c5
              refine dv (gyes_none rfl) (q_pf (v := .bool false) rfl rfl) rfl (by decide) (call_ok rfl) ?_
              refine ⟨_, Wk.refl _ _, ?_⟩
              show awp _ _ _ _ _ _ _
              refine awp_cond_f rfl ?_
              refine awp_skip_wk ?_
              refine ⟨_, Wk.refl _ _, ?_⟩
              show awp _ _ _ _ _ _ _
              refine awp_regs hF ?_
              refine dv (gyes_none rfl) (OpQ.cast (v' := .int .i64 ((i + 1 : Nat) : Int)) (q_int rfl rfl rfl) (congrArg _ ((i64_in (by omega)).trans (by first | rfl | omega | (push_cast; rfl))))) rfl (by decide) (cok2 trivial (cconst rfl)) ?_
              refine dv (gyes_none rfl) (q_mv (v := .int .i64 ((i + 1 : Nat) : Int)) rfl) rfl (by decide) (cok1 trivial) ?_
              refine ⟨_, Wk.U [(0, .string s), (12, .int .i64 ((s.size : Nat) : Int)), (13, .int .i64 (((i + 1) : Nat) : Int))] ⟨rfl, rfl, rfl, trivial⟩, (i + 1), ⟨_, rfl, s2, ⟨by omega, lt_succ_casesN hi.2 ⟨by omega, by omega⟩⟩⟩, (by omega)⟩
        ·
          replace c3 := of_decide_eq_false c3
          refine ⟨_, Wk.refl _ _, ?_⟩
          show awp _ _ _ _ _ _ _
          refine awp_seq ?_
          refine awp_cond_f rfl ?_
          refine awp_exit_wk ?_
          refine ⟨_, Wk.refl _ _, ?_⟩
          show awp _ _ _ _ _ _ _
          refine awp_seq ?_
          refine awp_regs hF ?_
          refine dv (gyes_none rfl) (q_as (v := .bool true) rfl) rfl (by decide) (cok1 (cconst rfl)) ?_
          refine ⟨_, Wk.refl _ _, ?_⟩
          show awp _ _ _ _ _ _ _
          refine awp_ret_wk ?_
          refine ⟨_, Wk.refl _ _, ?_⟩
          repeat (with_reducible first | refine then_ret ?_ | refine blk_ret ?_ | refine then_exit ?_ | refine blk_exit ?_ | refine blk_exit' (by decide) ?_ | refine blk_normal ?_ | refine then_normal ?_ | refine retq_ret ?_ | refine retq_normal ?_ | refine ng_normal ?_ | refine ng_ret ?_ | refine ng_exit ?_)
          exact ret_none (v := .bool true) rfl s2.kp (.tmp rfl .nil) rfl rfl ⟨by rw [nmOk_yes (by omega) (by omega) (fun j hj => hi.2 j (by omega))], rfl⟩
set_option maxRecDepth 100000 in
set_option maxHeartbeats 4000000 in
theorem find1_ok {H0 : AHeap} (c bx : Nat) (x : Fl) (s : ByteArray) (hc : Rd H0 c (fcell x) 7) (hx : Rd H0 bx [.string s] 1) : ACalls Tryz.prog 21 [.pointer (some ⟨c, 0, none⟩), .pointer (some ⟨bx, 0, none⟩)] H0 (Rets (.bool (decide (x.1 = s))) H0) := by
  have hF : Wd Fence.wide := .inl rfl
  have hM : Tryz.prog.follows .mixedOrders = true := by kernel_rfl
  have s0 := St.begin H0
  refine acalls_st Tryz.func21 rfl Tryz.ntmps21 rfl ?_
  refine awp_seq ?_
  refine awp_regs hF ?_
  refine dv (gyes_none rfl) (q_as (v := .bool false) rfl) rfl (by decide) (cok1 (cconst rfl)) ?_
  refine ⟨_, Wk.refl _ _, ?_⟩
  show awp _ _ _ _ _ _ _
  refine awp_seq ?_
  refine awp_regt hF hM (by kernel_rfl) (by kernel_rfl) ?_
  refine dv (gyes_none rfl) (q_mv (v := .pointer (some ⟨c, 0, none⟩)) rfl) rfl (by decide) (cok1 trivial) ?_
  refine dv (gyes_none rfl) (q_nilCheck rfl (Rd.live (s0.zrd hc))) rfl (by decide) (cok1 trivial) ?_
  refine dv (gyes_none rfl) (q_field Tryz.underlying56 rfl Tryz.sizeOf9 rfl (s0.zrd hc)) rfl (by decide) (cok1 trivial) ?_
  refine dv (gyes_none rfl) (q_load (v := .string x.1) Tryz.isAgg9 rfl (s0.zrd hc) rfl) rfl (by decide) (cok1 trivial) ?_
  refine dv (gyes_none rfl) (q_load (v := .string s) Tryz.isAgg9 rfl (s0.zrd hx) rfl) rfl (by decide) (cok1 trivial) ?_
  refine dv (gyes_none rfl) (q_streq rfl rfl) rfl (by decide) (cok2 trivial trivial) ?_
  refine dv (gyes_none rfl) (q_as (v := .bool (decide (x.1 = s))) rfl) rfl (by decide) (cok1 trivial) ?_
  refine ⟨_, Wk.refl _ _, ?_⟩
  show awp _ _ _ _ _ _ _
  refine awp_ret_wk ?_
  refine ⟨_, Wk.refl _ _, ?_⟩
  repeat (with_reducible first | refine then_ret ?_ | refine blk_ret ?_ | refine then_exit ?_ | refine blk_exit ?_ | refine blk_exit' (by decide) ?_ | refine blk_normal ?_ | refine then_normal ?_ | refine retq_ret ?_ | refine retq_normal ?_ | refine ng_normal ?_ | refine ng_ret ?_ | refine ng_exit ?_)
  exact ret_none (v := .bool (decide (x.1 = s))) rfl s0.kp (.tmp rfl .nil) rfl rfl ⟨rfl, rfl⟩
set_option maxRecDepth 100000 in
set_option maxHeartbeats 4000000 in
theorem index_ok {H0 : AHeap} (vP : Value) (ps : List Nat) (l : List Fl) (hl : l.length ≤ 1000) (hP : Sl ptv H0 vP ps) (hz : FZ (Rd H0) ps l) (bx : Nat) (s : ByteArray) (hx : Rd H0 bx [.string s] 1) : ACalls Tryz.prog 20 [vP, .func (.func 21) #[] #[.pointer (some ⟨bx, 0, none⟩)]] H0 (Rets (.int .i64 (ixF l s)) H0) := by
  have hF : Wd Fence.wide := .inl rfl
  have hM : Tryz.prog.follows .mixedOrders = true := by kernel_rfl
  have hpl := hz.len
  have s0 := St.begin H0
  refine acalls_st Tryz.func20 rfl Tryz.ntmps20 rfl ?_
  refine awp_seq ?_
  refine awp_regs hF ?_
  refine dv (gyes_none rfl) (q_as (v := .int .i64 0) rfl) rfl (by decide) (cok1 (cconst rfl)) ?_
  refine ⟨_, Wk.refl _ _, ?_⟩
  show awp _ _ _ _ _ _ _
  refine awp_seq ?_
  refine awp_seq ?_
  refine awp_regs hF ?_
  refine dv (gyes_none rfl) (q_mv (v := vP) rfl) rfl (by decide) (cok1 trivial) ?_
  refine dv (gyes_none rfl) (q_len_sl (l := ps) Tryz.underlying24 (s0.sl hP) rfl) rfl (by decide) (cok1 trivial) ?_
  refine dv (gyes_none rfl) (q_mv (v := .int .i64 0) rfl) rfl (by decide) (cok1 (cconst rfl)) ?_
  refine ⟨_, Wk.refl _ _, ?_⟩
  show awp _ _ _ _ _ _ _
  refine awp_block ?_
  refine awp_wk (Wk.U [(0, vP), (1, .func (.func 21) #[] #[.pointer (some ⟨bx, 0, none⟩)]), (7, .int .i64 ((ps.length : Nat) : Int)), (8, .int .i64 0)] ⟨rfl, rfl, rfl, rfl, trivial⟩) ?_
  refine awp_loop (fun (i : Nat) st => ∃ (H1 : AHeap), st = ⟨19, U [(0, vP), (1, .func (.func 21) #[] #[.pointer (some ⟨bx, 0, none⟩)]), (7, .int .i64 ((ps.length : Nat) : Int)), (8, .int .i64 ((i : Nat) : Int))], [], H1⟩ ∧ St H0 (none0) (Rd H0) H1 [] ∧ (i ≤ l.length ∧ ∀ j, j < i → (nth l j).1 ≠ s)) (fun (i : Nat) => l.length - i) (x0 := (0)) ?h0 ?round
  case h0 =>
    exact ⟨_, rfl, s0, ⟨Nat.zero_le _, fun j h => absurd h (Nat.not_lt_zero _)⟩⟩
  case round =>
    rintro i _ ⟨H1, rfl, s2, hi⟩
    refine awp_seq ?_
    refine awp_regs hF ?_
    refine dvb (gyes_none rfl) (q_int rfl rfl rfl) rfl (by decide) (cok2 trivial trivial) (fun c1 => ?_) (fun c1 => ?_)
    ·
      replace c1 := of_decide_eq_true c1
      refine ⟨_, Wk.refl _ _, ?_⟩
      show awp _ _ _ _ _ _ _
      refine awp_seq ?_
      refine awp_cond_t rfl ?_
      refine awp_skip_wk ?_
      refine ⟨_, Wk.refl _ _, ?_⟩
      show awp _ _ _ _ _ _ _
      refine awp_seq ?_
      refine awp_block ?_
      refine awp_seq ?_
      refine awp_regs hF ?_
      refine dv (gyes_none rfl) (q_mv (v := .int .i64 ((i : Nat) : Int)) rfl) rfl (by decide) (cok1 trivial) ?_
      refine dv (gyes_none rfl) (q_as (v := .int .i64 ((i : Nat) : Int)) rfl) rfl (by decide) (cok1 trivial) ?_
      refine ⟨_, Wk.refl _ _, ?_⟩
      show awp _ _ _ _ _ _ _
      refine awp_seq ?_
      refine awp_regs hF ?_
      refine dv (gyes_none rfl) (q_mv (v := .func (.func 21) #[] #[.pointer (some ⟨bx, 0, none⟩)]) rfl) rfl (by decide) (cok1 trivial) ?_
      refine dv (gyes_none rfl) (q_mv (v := vP) rfl) rfl (by decide) (cok1 trivial) ?_
      refine dv (gyes_none rfl) (q_mv (v := .int .i64 ((i : Nat) : Int)) rfl) rfl (by decide) (cok1 trivial) ?_
      refine dv (gyes_none rfl) (q_index_sl (l := ps) (i := i) Tryz.underlying24 Tryz.sizeOf51 (s2.sl hP) rfl rfl (by omega)) rfl (by decide) (cok2 trivial trivial) ?_
      refine dv (gyes_none rfl) (q_load_sl (l := ps) (i := i) Tryz.isAgg51 (s2.sl hP) rfl (by omega)) rfl (by decide) (cok1 trivial) ?_
      refine dvb (gyes_none rfl) (q_callv0 Tryz.call21 rfl rfl (find1_ok (nth ps i) bx (nth l i) s (s2.zrd (hz.at_ i (by omega))) (s2.zrd hx))) rfl (by decide) (cok2 trivial trivial) (fun c2 => ?_) (fun c2 => ?_)
      ·
        replace c2 := of_decide_eq_true c2
        refine ⟨_, Wk.refl _ _, ?_⟩
        show awp _ _ _ _ _ _ _
        refine awp_cond_t rfl ?_
        refine awp_seq ?_
        refine awp_regs hF ?_
        refine dv (gyes_none rfl) (q_mv (v := .int .i64 ((i : Nat) : Int)) rfl) rfl (by decide) (cok1 trivial) ?_
        refine dv (gyes_none rfl) (q_as (v := .int .i64 ((i : Nat) : Int)) rfl) rfl (by decide) (cok1 trivial) ?_
        refine ⟨_, Wk.refl _ _, ?_⟩
        show awp _ _ _ _ _ _ _
        refine awp_ret_wk ?_
        refine ⟨_, Wk.refl _ _, ?_⟩
        repeat (with_reducible first | refine then_ret ?_ | refine blk_ret ?_ | refine then_exit ?_ | refine blk_exit ?_ | refine blk_exit' (by decide) ?_ | refine blk_normal ?_ | refine then_normal ?_ | refine retq_ret ?_ | refine retq_normal ?_ | refine ng_normal ?_ | refine ng_ret ?_ | refine ng_exit ?_)
        exact ret_none (v := .int .i64 ((i : Nat) : Int)) rfl s2.kp (.tmp rfl .nil) rfl rfl ⟨by rw [ixF_y (i := i) (by omega) (by assumption) hi.2], rfl⟩
      ·
        replace c2 := of_decide_eq_false c2
        refine ⟨_, Wk.refl _ _, ?_⟩
        show awp _ _ _ _ _ _ _
        refine awp_cond_f rfl ?_
        refine awp_skip_wk ?_
        refine ⟨_, Wk.refl _ _, ?_⟩
        show awp _ _ _ _ _ _ _
        refine awp_regs hF ?_
        refine dv (gyes_none rfl) (OpQ.cast (v' := .int .i64 ((i + 1 : Nat) : Int)) (q_int rfl rfl rfl) (congrArg _ ((i64_in (by omega)).trans (by first | rfl | omega | (push_cast; rfl))))) rfl (by decide) (cok2 trivial (cconst rfl)) ?_
        refine dv (gyes_none rfl) (q_mv (v := .int .i64 ((i + 1 : Nat) : Int)) rfl) rfl (by decide) (cok1 trivial) ?_
        refine ⟨_, Wk.U [(0, vP), (1, .func (.func 21) #[] #[.pointer (some ⟨bx, 0, none⟩)]), (7, .int .i64 ((ps.length : Nat) : Int)), (8, .int .i64 (((i + 1) : Nat) : Int))] ⟨rfl, rfl, rfl, rfl, trivial⟩, (i + 1), ⟨_, rfl, s2, ⟨by omega, lt_succ_casesN hi.2 (by assumption)⟩⟩, (by omega)⟩
    ·
      replace c1 := of_decide_eq_false c1
      refine ⟨_, Wk.refl _ _, ?_⟩
      show awp _ _ _ _ _ _ _
      refine awp_seq ?_
      refine awp_cond_f rfl ?_
      refine awp_exit_wk ?_
      refine ⟨_, Wk.refl _ _, ?_⟩
      show awp _ _ _ _ _ _ _
      refine awp_seq ?_
      refine awp_regs hF ?_
      refine dv (gyes_none rfl) (q_as (v := .int .i64 (-1)) rfl) rfl (by decide) (cok1 (cconst rfl)) ?_
      refine ⟨_, Wk.refl _ _, ?_⟩
      show awp _ _ _ _ _ _ _
      refine awp_ret_wk ?_
      refine ⟨_, Wk.refl _ _, ?_⟩
      repeat (with_reducible first | refine then_ret ?_ | refine blk_ret ?_ | refine then_exit ?_ | refine blk_exit ?_ | refine blk_exit' (by decide) ?_ | refine blk_normal ?_ | refine then_normal ?_ | refine retq_ret ?_ | refine retq_normal ?_ | refine ng_normal ?_ | refine ng_ret ?_ | refine ng_exit ?_)
      exact ret_none (v := .int .i64 (-1)) rfl s2.kp (.tmp rfl .nil) rfl rfl ⟨by rw [ixF_n (fun j hj => hi.2 j (by omega))], rfl⟩
set_option maxRecDepth 100000 in
set_option maxHeartbeats 4000000 in
theorem find_yes {H0 : AHeap} (bf : Nat) (vP : Value) (ps : List Nat) (l : List Fl) (hl : l.length ≤ 1000) (hf : Rd H0 bf [vP] 1) (hP : Sl ptv H0 vP ps) (hz : FZ (Rd H0) ps l) (s : ByteArray) (h : fI l s < l.length) : ACalls Tryz.prog 14 [.pointer (some ⟨bf, 0, none⟩), .string s] H0 (Rets (.tuple #[.pointer (some ⟨nth ps (fI l s), 0, none⟩), .bool true]) H0) := by
  have hF : Wd Fence.wide := .inl rfl
  have hM : Tryz.prog.follows .mixedOrders = true := by kernel_rfl
  have hpl := hz.len
  have s0 := St.begin H0
  refine acalls_st Tryz.func14 rfl Tryz.ntmps14 rfl ?_
  refine awp_seq ?_
  refine awp_regs hF ?_
  refine x_new (fun b => .pointer (some ⟨b, 0, none⟩)) s0 (gyes_none rfl) (q_box (v := .string s) (vs := [.string s]) 1 rfl (by exact trivial) rfl) rfl (by decide) (cok1 trivial) (fun b1 H2 hb4 s3 => ?_)
  refine dv (gyes_none rfl) (q_as (v := .pointer none) rfl) rfl (by decide) (cok1 (cconst rfl)) ?_
  refine dv (gyes_none rfl) (q_as (v := .bool false) rfl) rfl (by decide) (cok1 (cconst rfl)) ?_
  refine ⟨_, Wk.refl _ _, ?_⟩
  show awp _ _ _ _ _ _ _
  refine awp_seq ?_
  refine awp_seq ?_
  refine awp_regs hF ?_
  refine dv (gyes_none rfl) (q_mv (v := .pointer (some ⟨bf, 0, none⟩)) rfl) rfl (by decide) (cok1 trivial) ?_
  refine dv (gyes_none rfl) (q_ptrnil_f Tryz.underlying50 rfl (Rd.live (s3.zrd hf)) rfl) rfl (by decide) (cok2 trivial (cconst rfl)) ?_
  refine ⟨_, Wk.refl _ _, ?_⟩
  show awp _ _ _ _ _ _ _
  refine awp_cond_f rfl ?_
  refine awp_skip_wk ?_
  refine ⟨_, Wk.refl _ _, ?_⟩
  show awp _ _ _ _ _ _ _
  refine awp_seq ?_
  refine awp_regs hF ?_
  refine dv (gyes_none rfl) (q_mv (v := .pointer (some ⟨bf, 0, none⟩)) rfl) rfl (by decide) (cok1 trivial) ?_
  refine dv (gyes_none rfl) (q_nilCheck rfl (Rd.live (s3.zrd hf))) rfl (by decide) (cok1 trivial) ?_
  refine dv (gyes_none rfl) (q_field Tryz.underlying26 rfl Tryz.sizeOf24 rfl (s3.zrd hf)) rfl (by decide) (cok1 trivial) ?_
  refine dv (gyes_none rfl) (q_load (v := vP) Tryz.isAgg24 rfl (s3.zrd hf) rfl) rfl (by decide) (cok1 trivial) ?_
  refine dv (gyes_none rfl) (q_makeFuncL [.pointer (some ⟨b1, 0, none⟩)] ⟨rfl, trivial⟩) rfl (by decide) (cok1 trivial) ?_
  refine dv (gyes_none rfl) (q_call0 Tryz.call20 rfl (ACalls.castV (v' := .int .i64 ((fI l s : Nat) : Int)) (index_ok vP ps l hl (s3.sl hP) (hz.mono fun _ _ _ h => s3.zrd h) b1 s (s3.rd (j := 0) rfl)) (by unfold ixF; first | rw [if_pos h] | rw [if_neg h]))) rfl (by decide) (call_ok rfl) ?_
  refine dv (gyes_none rfl) (q_as (v := .int .i64 ((fI l s : Nat) : Int)) rfl) rfl (by decide) (cok1 trivial) ?_
  refine ⟨_, Wk.refl _ _, ?_⟩
  show awp _ _ _ _ _ _ _
  refine awp_seq ?_
  refine awp_seq ?_
  refine awp_regs hF ?_
  refine dv (gyes_none rfl) (q_mv (v := .int .i64 ((fI l s : Nat) : Int)) rfl) rfl (by decide) (cok1 trivial) ?_
  refine dv (gyes_none rfl) (OpQ.cast (v' := .bool false) (q_int rfl rfl rfl) (congrArg Value.bool (decide_eq_false (by omega)))) rfl (by decide) (cok2 trivial (cconst rfl)) ?_
  refine ⟨_, Wk.refl _ _, ?_⟩
  show awp _ _ _ _ _ _ _
  refine awp_cond_f rfl ?_
  refine awp_skip_wk ?_
  refine ⟨_, Wk.refl _ _, ?_⟩
  show awp _ _ _ _ _ _ _
  refine awp_seq ?_
  refine awp_regs hF ?_
  refine dv (gyes_none rfl) (q_mv (v := .pointer (some ⟨bf, 0, none⟩)) rfl) rfl (by decide) (cok1 trivial) ?_
  refine dv (gyes_none rfl) (q_nilCheck rfl (Rd.live (s3.zrd hf))) rfl (by decide) (cok1 trivial) ?_
  refine dv (gyes_none rfl) (q_field Tryz.underlying26 rfl Tryz.sizeOf24 rfl (s3.zrd hf)) rfl (by decide) (cok1 trivial) ?_
  refine dv (gyes_none rfl) (q_load (v := vP) Tryz.isAgg24 rfl (s3.zrd hf) rfl) rfl (by decide) (cok1 trivial) ?_
  refine dv (gyes_none rfl) (q_mv (v := .int .i64 ((fI l s : Nat) : Int)) rfl) rfl (by decide) (cok1 trivial) ?_
  refine dv (gyes_none rfl) (q_index_sl (l := ps) (i := (fI l s)) Tryz.underlying24 Tryz.sizeOf51 (s3.sl hP) rfl rfl (by omega)) rfl (by decide) (cok2 trivial trivial) ?_
  refine dv (gyes_none rfl) (q_load_sl (l := ps) (i := (fI l s)) Tryz.isAgg51 (s3.sl hP) rfl (by omega)) rfl (by decide) (cok1 trivial) ?_
  refine dv (gyes_none rfl) (q_as (v := .pointer (some ⟨nth ps (fI l s), 0, none⟩)) rfl) rfl (by decide) (cok1 trivial) ?_
  refine dv (gyes_none rfl) (q_as (v := .bool true) rfl) rfl (by decide) (cok1 (cconst rfl)) ?_
  refine ⟨_, Wk.refl _ _, ?_⟩
  show awp _ _ _ _ _ _ _
  refine awp_ret_wk ?_
  refine ⟨_, Wk.refl _ _, ?_⟩
  repeat (with_reducible first | refine then_ret ?_ | refine blk_ret ?_ | refine then_exit ?_ | refine blk_exit ?_ | refine blk_exit' (by decide) ?_ | refine blk_normal ?_ | refine then_normal ?_ | refine retq_ret ?_ | refine retq_normal ?_ | refine ng_normal ?_ | refine ng_ret ?_ | refine ng_exit ?_)
  exact ret_noneV (v := .tuple #[.pointer (some ⟨nth ps (fI l s), 0, none⟩), .bool true]) rfl s3.kp (.tmp rfl (.tmp rfl .nil)) rfl (vsub_tupL ⟨vsub_ptr (hz.at_ _ h).lt, .scalar rfl, trivial⟩) ⟨rfl, rfl⟩
set_option maxRecDepth 100000 in
set_option maxHeartbeats 4000000 in
theorem find_no {H0 : AHeap} (bf : Nat) (vP : Value) (ps : List Nat) (l : List Fl) (hl : l.length ≤ 1000) (hf : Rd H0 bf [vP] 1) (hP : Sl ptv H0 vP ps) (hz : FZ (Rd H0) ps l) (s : ByteArray) (h : ¬ fI l s < l.length) : ACalls Tryz.prog 14 [.pointer (some ⟨bf, 0, none⟩), .string s] H0 (Rets (.tuple #[.pointer none, .bool false]) H0) := by
  have hF : Wd Fence.wide := .inl rfl
  have hM : Tryz.prog.follows .mixedOrders = true := by kernel_rfl
  have hpl := hz.len
  have s0 := St.begin H0
  refine acalls_st Tryz.func14 rfl Tryz.ntmps14 rfl ?_
  refine awp_seq ?_
  refine awp_regs hF ?_
  refine x_new (fun b => .pointer (some ⟨b, 0, none⟩)) s0 (gyes_none rfl) (q_box (v := .string s) (vs := [.string s]) 1 rfl (by exact trivial) rfl) rfl (by decide) (cok1 trivial) (fun b1 H2 hb4 s3 => ?_)
  refine dv (gyes_none rfl) (q_as (v := .pointer none) rfl) rfl (by decide) (cok1 (cconst rfl)) ?_
  refine dv (gyes_none rfl) (q_as (v := .bool false) rfl) rfl (by decide) (cok1 (cconst rfl)) ?_
  refine ⟨_, Wk.refl _ _, ?_⟩
  show awp _ _ _ _ _ _ _
  refine awp_seq ?_
  refine awp_seq ?_
  refine awp_regs hF ?_
  refine dv (gyes_none rfl) (q_mv (v := .pointer (some ⟨bf, 0, none⟩)) rfl) rfl (by decide) (cok1 trivial) ?_
  refine dv (gyes_none rfl) (q_ptrnil_f Tryz.underlying50 rfl (Rd.live (s3.zrd hf)) rfl) rfl (by decide) (cok2 trivial (cconst rfl)) ?_
  refine ⟨_, Wk.refl _ _, ?_⟩
  show awp _ _ _ _ _ _ _
  refine awp_cond_f rfl ?_
  refine awp_skip_wk ?_
  refine ⟨_, Wk.refl _ _, ?_⟩
  show awp _ _ _ _ _ _ _
  refine awp_seq ?_
  refine awp_regs hF ?_
  refine dv (gyes_none rfl) (q_mv (v := .pointer (some ⟨bf, 0, none⟩)) rfl) rfl (by decide) (cok1 trivial) ?_
  refine dv (gyes_none rfl) (q_nilCheck rfl (Rd.live (s3.zrd hf))) rfl (by decide) (cok1 trivial) ?_
  refine dv (gyes_none rfl) (q_field Tryz.underlying26 rfl Tryz.sizeOf24 rfl (s3.zrd hf)) rfl (by decide) (cok1 trivial) ?_
  refine dv (gyes_none rfl) (q_load (v := vP) Tryz.isAgg24 rfl (s3.zrd hf) rfl) rfl (by decide) (cok1 trivial) ?_
  refine dv (gyes_none rfl) (q_makeFuncL [.pointer (some ⟨b1, 0, none⟩)] ⟨rfl, trivial⟩) rfl (by decide) (cok1 trivial) ?_
  refine dv (gyes_none rfl) (q_call0 Tryz.call20 rfl (ACalls.castV (v' := .int .i64 (-1)) (index_ok vP ps l hl (s3.sl hP) (hz.mono fun _ _ _ h => s3.zrd h) b1 s (s3.rd (j := 0) rfl)) (by unfold ixF; first | rw [if_pos h] | rw [if_neg h]))) rfl (by decide) (call_ok rfl) ?_
  refine dv (gyes_none rfl) (q_as (v := .int .i64 (-1)) rfl) rfl (by decide) (cok1 trivial) ?_
  refine ⟨_, Wk.refl _ _, ?_⟩
  show awp _ _ _ _ _ _ _
  refine awp_seq ?_
  refine awp_seq ?_
  refine awp_regs hF ?_
  refine dv (gyes_none rfl) (q_mv (v := .int .i64 (-1)) rfl) rfl (by decide) (cok1 trivial) ?_
  refine dv (gyes_none rfl) (OpQ.cast (v' := .bool true) (q_int rfl rfl rfl) (congrArg Value.bool (decide_eq_true (by decide)))) rfl (by decide) (cok2 trivial (cconst rfl)) ?_
  refine ⟨_, Wk.refl _ _, ?_⟩
  show awp _ _ _ _ _ _ _
  refine awp_cond_t rfl ?_
  refine awp_seq ?_
  refine awp_regs hF ?_
  refine dv (gyes_none rfl) (q_as (v := .pointer none) rfl) rfl (by decide) (cok1 (cconst rfl)) ?_
  refine dv (gyes_none rfl) (q_as (v := .bool false) rfl) rfl (by decide) (cok1 (cconst rfl)) ?_
  refine ⟨_, Wk.refl _ _, ?_⟩
  show awp _ _ _ _ _ _ _
  refine awp_ret_wk ?_
  refine ⟨_, Wk.refl _ _, ?_⟩
  repeat (with_reducible first | refine then_ret ?_ | refine blk_ret ?_ | refine then_exit ?_ | refine blk_exit ?_ | refine blk_exit' (by decide) ?_ | refine blk_normal ?_ | refine then_normal ?_ | refine retq_ret ?_ | refine retq_normal ?_ | refine ng_normal ?_ | refine ng_ret ?_ | refine ng_exit ?_)
  exact ret_none (v := .tuple #[.pointer none, .bool false]) rfl s3.kp (.tmp rfl (.tmp rfl .nil)) rfl rfl ⟨rfl, rfl⟩

end Go.Proofs.YtnafdgcikaifmaaGreatA


/-
  Walks of functions of the given program, and what they compute.
-/
namespace Go.Proofs.YtnafdgcikaifmaaGreatA
set_option linter.unusedVariables false
open Go Go.RowKit Go.Shelf Go.Proofs
theorem St.turn2 {H0 : AHeap} {X : Nat → Prop} {Z : Rs} {H H' : AHeap} {F : List (Nat × AObj)} (h : St H0 X Z H F) {j9 jl b9 bl bn : Nat} {o9 ol o9' on : AObj} (h9 : F[j9]? = some (b9, o9)) (hl : F[jl]? = some (bl, ol)) (hij : j9 ≠ jl) (k : Kp (· ∈ [b9, bl]) H H') (hb : H.length ≤ bn ∨ bn ∈ [b9, bl]) (hne : bn ≠ b9) (h9' : H'[b9]? = some o9') (hn : H'[bn]? = some on) : St H0 X Z H' ((F.set j9 (b9, o9')).set jl (bn, on)) := by
  have m9 : b9 ∈ F.map (·.1) := List.mem_map.2 ⟨_, List.mem_of_getElem? h9, rfl⟩
  have ml : bl ∈ F.map (·.1) := List.mem_map.2 ⟨_, List.mem_of_getElem? hl, rfl⟩
  have hjl := (List.getElem?_eq_some_iff.1 hl).1
  refine h.turn k _ ?_ (fun p hp => ?_) (fun b hb => ?_)
  · have e1 : ((F.set j9 (b9, o9')).set jl (bn, on)).map (·.1) = (F.map (·.1)).set jl bn := by rw [List.map_set, keys_set h9]
    rw [e1]
    refine nodup_of_inj fun i j x hi hj => ?_
    rw [List.getElem?_set] at hi hj
    have nb : ∀ q, q ≠ jl → (F.map (·.1))[q]? ≠ some bn := fun q hq e => by
      rw [List.getElem?_map] at e
      obtain ⟨y, hy, hy2⟩ := Option.map_eq_some_iff.1 e
      rcases hb with hb | hb
      · have := lt_of_some (h.getj (b := y.1) (o := y.2) hy)
        omega
      · rcases List.mem_cons.1 hb with hb | hb
        · exact hne hb
        · have hb : bn = bl := by simpa using hb
          exact h.ne hy hl hq (hy2.trans hb)
    by_cases ei : jl = i
    · by_cases ej : jl = j
      · omega
      · rw [if_pos ei, if_pos (by simpa using hjl)] at hi
        rw [if_neg ej] at hj
        cases hi
        exact absurd hj (nb j (Ne.symm ej))
    · rw [if_neg ei] at hi
      by_cases ej : jl = j
      · rw [if_pos ej, if_pos (by simpa using hjl)] at hj
        cases hj
        exact absurd hi (nb i (Ne.symm ei))
      · rw [if_neg ej] at hj
        exact nodup_inj h.nd hi hj
  · rcases mem_set_cases hp with rfl | ⟨i, hi, hp⟩
    · refine .inr ⟨hn, hb.imp id fun hb => ?_⟩
      rcases List.mem_cons.1 hb with hb | hb
      · exact absurd hb hne
      · have hb : bn = bl := by simpa using hb
        show bn ∈ _
        rw [hb]; exact ml
    · rw [List.getElem?_set] at hp
      by_cases e : j9 = i
      · rw [if_pos e, if_pos (List.getElem?_eq_some_iff.1 h9).1] at hp
        cases hp
        exact .inr ⟨h9', .inr m9⟩
      · rw [if_neg e] at hp
        refine .inl ⟨List.mem_of_getElem? hp, fun hm => ?_⟩
        rcases List.mem_cons.1 hm with hm | hm
        · exact h.ne hp h9 (Ne.symm e) hm
        · have hm : p.1 = bl := by simpa using hm
          exact h.ne hp hl hi hm
  · rcases List.mem_cons.1 hb with rfl | hb
    · exact m9
    · have hb : b = bl := by simpa using hb
      rw [hb]; exact ml
theorem FZ.off {H0 : AHeap} {X : Nat → Prop} {Z : Rs} {H : AHeap} {F : List (Nat × AObj)} {ps : List Nat} {l : List Fl} (hz : FZ Z ps l) (h : St H0 X Z H F) {ks : List Nat} (hk : ∀ b ∈ ks, b ∈ F.map (·.1)) : FZ (Off H ks) ps l := hz.mono fun b vs sz hz => ⟨h.zrd hz, fun hb => by
  obtain ⟨p, hp, e⟩ := List.mem_map.1 (hk b hb)
  exact (h.z b vs sz hz).2 p hp e⟩
set_option maxRecDepth 100000 in
set_option maxHeartbeats 4000000 in
theorem add_f {H0 : AHeap} (bf bs : Nat) (ps : List Nat) (l : List Fl) (hl : l.length ≤ 1000) (hne : bf ≠ bs) (h1 : H0[bf]? = some (.cells true [.slice (some ⟨bs, 0, none⟩) ps.length ps.length] 1)) (h2 : H0[bs]? = some (.cells true (ps.map ptv) 1)) (hz : FZ (Off H0 [bf, bs]) ps l) (n b : ByteArray) (hn : n.size ≤ 9223372036854775807) (hb : b.size ≤ 9223372036854775807)  (hf : fI l n < l.length) : ACalls Tryz.prog 6 [.pointer (some ⟨bf, 0, none⟩), .string n, .string b] H0 (fun v H' => v = .int .i64 ((addV l n b : Nat) : Int) ∧ Kp (· ∈ [bf, bs]) H0 H' ∧ ((addV l n b ≠ 0 ∧ H'[bf]? = some (.cells true [.slice (some ⟨bs, 0, none⟩) ps.length ps.length] 1) ∧ H'[bs]? = some (.cells true (ps.map ptv) 1)) ∨ (addV l n b = 0 ∧ ∃ bn c, (H0.length ≤ bn ∨ bn ∈ [bf, bs]) ∧ H0.length ≤ c ∧ c ≠ bn ∧ bn ≠ bf ∧ H'[bf]? = some (.cells true [.slice (some ⟨bn, 0, none⟩) (ps.length + 1) (ps.length + 1)] 1) ∧ H'[bn]? = some (.cells true ((ps ++ [c]).map ptv) 1) ∧ H'[c]? = some (.cells true (fcell (n, b)) 7)))) := by
  have hF : Wd Fence.wide := .inl rfl
  have hM : Tryz.prog.follows .mixedOrders = true := by kernel_rfl
  have hpl := hz.len
  have s0 : St H0 (· ∈ [bf, bs]) (Off H0 [bf, bs]) H0 [(bf, .cells true [.slice (some ⟨bs, 0, none⟩) ps.length ps.length] 1), (bs, .cells true (ps.map ptv) 1)] := St.beginL [(bf, .cells true [.slice (some ⟨bs, 0, none⟩) ps.length ps.length] 1), (bs, .cells true (ps.map ptv) 1)] (by simp [hne]) (allAt_mem ⟨h1, h2, trivial⟩)
  refine acalls_st Tryz.func6 rfl Tryz.ntmps6 rfl ?_
  refine awp_seq ?_
  refine awp_regs hF ?_
  refine dv (gyes_none rfl) (q_as (v := .int .i64 0) rfl) rfl (by decide) (cok1 (cconst rfl)) ?_
  refine ⟨_, Wk.refl _ _, ?_⟩
  show awp _ _ _ _ _ _ _
  refine awp_seq ?_
  refine awp_regs hF ?_
  refine dv (gyes_none rfl) (q_mv (v := .pointer (some ⟨bf, 0, none⟩)) rfl) rfl (by decide) (cok1 trivial) ?_
  refine dv (gyes_none rfl) (q_mv (v := .string n) rfl) rfl (by decide) (cok1 trivial) ?_
  refine dv (gyes_none rfl) (q_call0 Tryz.call14 rfl (find_yes bf _ ps l (by omega) (s0.rd (j := 0) rfl) (s0.slj (j := 1) rfl rfl (Nat.le_refl _)) (hz.mono fun _ _ _ h => s0.zrd h) n (by assumption))) rfl (by decide) (call_ok rfl) ?_
  refine dv (gyes_none rfl) (q_mv (v := .tuple #[.pointer (some ⟨(nth ps (fI l n)), 0, none⟩), .bool true]) rfl) rfl (by decide) (cok1 trivial) ?_
  refine dv (gyes_none rfl) (q_extract (v := .pointer (some ⟨(nth ps (fI l n)), 0, none⟩)) rfl rfl) rfl (by decide) (cok1 trivial) ?_
  refine dv (gyes_none rfl) (q_extract (v := .bool true) rfl rfl) rfl (by decide) (cok1 trivial) ?_
  refine dv (gyes_none rfl) (q_as (v := .pointer (some ⟨(nth ps (fI l n)), 0, none⟩)) rfl) rfl (by decide) (cok1 trivial) ?_
  refine dv (gyes_none rfl) (q_as (v := .bool true) rfl) rfl (by decide) (cok1 trivial) ?_
  refine ⟨_, Wk.refl _ _, ?_⟩
  show awp _ _ _ _ _ _ _
  refine awp_seq ?_
  refine awp_block ?_
  refine awp_seq ?_
  refine awp_regs hF ?_
  refine dv (gyes_none rfl) (q_mv (v := .pointer (some ⟨bf, 0, none⟩)) rfl) rfl (by decide) (cok1 trivial) ?_
  refine dv (gyes_none rfl) (q_ptrnil_f Tryz.underlying50 rfl (s0.live (j := 0) rfl) rfl) rfl (by decide) (cok2 trivial (cconst rfl)) ?_
  refine dv (gyes_none rfl) (q_as (v := .bool false) rfl) rfl (by decide) (cok1 trivial) ?_
  refine ⟨_, Wk.refl _ _, ?_⟩
  show awp _ _ _ _ _ _ _
  refine awp_cond_f rfl ?_
  refine awp_seq ?_
  refine awp_regs hF ?_
  refine dv (gyes_none rfl) (q_mv (v := .string n) rfl) rfl (by decide) (cok1 trivial) ?_
  refine dvb (gyes_none rfl) (q_call0 Tryz.call15 rfl (named_ok n hn)) rfl (by decide) (cok2 trivial trivial) (fun c1 => ?_) (fun c1 => ?_)
  ·
    refine dv (gyes_none rfl) (q_not (b := true) rfl) rfl (by decide) (cok1 trivial) ?_
    refine dv (gyes_none rfl) (q_as (v := .bool false) rfl) rfl (by decide) (cok1 trivial) ?_
    refine ⟨_, Wk.refl _ _, ?_⟩
    show awp _ _ _ _ _ _ _
    refine awp_cond_f rfl ?_
    refine awp_seq ?_
    refine awp_regs hF ?_
    refine dv (gyes_none rfl) (q_mv (v := .string b) rfl) rfl (by decide) (cok1 trivial) ?_
    refine dv (gyes_none rfl) (q_len_str Tryz.underlying9 rfl) rfl (by decide) (cok1 trivial) ?_
    refine dvb (gyes_none rfl) (q_int rfl rfl rfl) rfl (by decide) (cok2 trivial (cconst rfl)) (fun c2 => ?_) (fun c2 => ?_)
    ·
      replace c2 := of_decide_eq_true c2
      refine dv (gyes_none rfl) (q_as (v := .bool true) rfl) rfl (by decide) (cok1 trivial) ?_
      refine ⟨_, Wk.refl _ _, ?_⟩
      show awp _ _ _ _ _ _ _
      refine awp_cond_t rfl ?_
      refine awp_seq ?_
      refine awp_regs hF ?_
      refine dv (gyes_none rfl) (q_as (v := .int .i64 6) rfl) rfl (by decide) (cok1 (cconst rfl)) ?_
      refine ⟨_, Wk.refl _ _, ?_⟩
      show awp _ _ _ _ _ _ _
      refine awp_ret_wk ?_
      have hv : addV l n b = 6 := by unfold addV; rw [if_neg (by simp [*]), if_pos (by omega)]
      refine ⟨_, Wk.refl _ _, ?_⟩
      repeat (with_reducible first | refine then_ret ?_ | refine blk_ret ?_ | refine then_exit ?_ | refine blk_exit ?_ | refine blk_exit' (by decide) ?_ | refine blk_normal ?_ | refine then_normal ?_ | refine retq_ret ?_ | refine retq_normal ?_ | refine ng_normal ?_ | refine ng_ret ?_ | refine ng_exit ?_)
      refine ret_is (v := .int .i64 6) rfl (.tmp rfl .nil) rfl ?_
      exact ⟨by rw [hv]; first | done | rfl, s0.kp, .inl ⟨by rw [hv]; decide, s0.getj (j := 0) rfl, s0.getj (j := 1) rfl⟩⟩
    ·
      replace c2 := of_decide_eq_false c2
      refine dv (gyes_none rfl) (q_as (v := .bool false) rfl) rfl (by decide) (cok1 trivial) ?_
      refine ⟨_, Wk.refl _ _, ?_⟩
      show awp _ _ _ _ _ _ _
      refine awp_cond_f rfl ?_
      refine awp_seq ?_
      refine awp_regs hF ?_
      refine dv (gyes_none rfl) (q_mv (v := .bool true) rfl) rfl (by decide) (cok1 trivial) ?_
      refine dv (gyes_none rfl) (q_as (v := .bool true) rfl) rfl (by decide) (cok1 trivial) ?_
      refine ⟨_, Wk.refl _ _, ?_⟩
      show awp _ _ _ _ _ _ _
      refine awp_cond_t rfl ?_
      refine awp_seq ?_
      refine awp_regs hF ?_
      refine dv (gyes_none rfl) (q_as (v := .int .i64 26) rfl) rfl (by decide) (cok1 (cconst rfl)) ?_
      refine ⟨_, Wk.refl _ _, ?_⟩
      show awp _ _ _ _ _ _ _
      refine awp_ret_wk ?_
      have hv : addV l n b = 26 := by unfold addV; rw [if_neg (by simp [*]), if_neg (by omega), if_pos hf]
      refine ⟨_, Wk.refl _ _, ?_⟩
      repeat (with_reducible first | refine then_ret ?_ | refine blk_ret ?_ | refine then_exit ?_ | refine blk_exit ?_ | refine blk_exit' (by decide) ?_ | refine blk_normal ?_ | refine then_normal ?_ | refine retq_ret ?_ | refine retq_normal ?_ | refine ng_normal ?_ | refine ng_ret ?_ | refine ng_exit ?_)
      refine ret_is (v := .int .i64 26) rfl (.tmp rfl .nil) rfl ?_
      exact ⟨by rw [hv]; first | done | rfl, s0.kp, .inl ⟨by rw [hv]; decide, s0.getj (j := 0) rfl, s0.getj (j := 1) rfl⟩⟩
  ·
    refine dv (gyes_none rfl) (q_not (b := false) rfl) rfl (by decide) (cok1 trivial) ?_
    refine dv (gyes_none rfl) (q_as (v := .bool true) rfl) rfl (by decide) (cok1 trivial) ?_
    refine ⟨_, Wk.refl _ _, ?_⟩
    show awp _ _ _ _ _ _ _
    refine awp_cond_t rfl ?_
    refine awp_seq ?_
    refine awp_regs hF ?_
    refine dv (gyes_none rfl) (q_as (v := .int .i64 25) rfl) rfl (by decide) (cok1 (cconst rfl)) ?_
    refine ⟨_, Wk.refl _ _, ?_⟩
    show awp _ _ _ _ _ _ _
    refine awp_ret_wk ?_
    have hv : addV l n b = 25 := by unfold addV; rw [if_pos (by assumption)]
    refine ⟨_, Wk.refl _ _, ?_⟩
    repeat (with_reducible first | refine then_ret ?_ | refine blk_ret ?_ | refine then_exit ?_ | refine blk_exit ?_ | refine blk_exit' (by decide) ?_ | refine blk_normal ?_ | refine then_normal ?_ | refine retq_ret ?_ | refine retq_normal ?_ | refine ng_normal ?_ | refine ng_ret ?_ | refine ng_exit ?_)
    refine ret_is (v := .int .i64 25) rfl (.tmp rfl .nil) rfl ?_
    exact ⟨by rw [hv]; first | done | rfl, s0.kp, .inl ⟨by rw [hv]; decide, s0.getj (j := 0) rfl, s0.getj (j := 1) rfl⟩⟩
set_option maxRecDepth 100000 in
set_option maxHeartbeats 4000000 in
theorem add_n {H0 : AHeap} (bf bs : Nat) (ps : List Nat) (l : List Fl) (hl : l.length ≤ 1000) (hne : bf ≠ bs) (h1 : H0[bf]? = some (.cells true [.slice (some ⟨bs, 0, none⟩) ps.length ps.length] 1)) (h2 : H0[bs]? = some (.cells true (ps.map ptv) 1)) (hz : FZ (Off H0 [bf, bs]) ps l) (n b : ByteArray) (hn : n.size ≤ 9223372036854775807) (hb : b.size ≤ 9223372036854775807)  (hf : ¬ fI l n < l.length) : ACalls Tryz.prog 6 [.pointer (some ⟨bf, 0, none⟩), .string n, .string b] H0 (fun v H' => v = .int .i64 ((addV l n b : Nat) : Int) ∧ Kp (· ∈ [bf, bs]) H0 H' ∧ ((addV l n b ≠ 0 ∧ H'[bf]? = some (.cells true [.slice (some ⟨bs, 0, none⟩) ps.length ps.length] 1) ∧ H'[bs]? = some (.cells true (ps.map ptv) 1)) ∨ (addV l n b = 0 ∧ ∃ bn c, (H0.length ≤ bn ∨ bn ∈ [bf, bs]) ∧ H0.length ≤ c ∧ c ≠ bn ∧ bn ≠ bf ∧ H'[bf]? = some (.cells true [.slice (some ⟨bn, 0, none⟩) (ps.length + 1) (ps.length + 1)] 1) ∧ H'[bn]? = some (.cells true ((ps ++ [c]).map ptv) 1) ∧ H'[c]? = some (.cells true (fcell (n, b)) 7)))) := by
  have hF : Wd Fence.wide := .inl rfl
  have hM : Tryz.prog.follows .mixedOrders = true := by kernel_rfl
  have hpl := hz.len
  have s0 : St H0 (· ∈ [bf, bs]) (Off H0 [bf, bs]) H0 [(bf, .cells true [.slice (some ⟨bs, 0, none⟩) ps.length ps.length] 1), (bs, .cells true (ps.map ptv) 1)] := St.beginL [(bf, .cells true [.slice (some ⟨bs, 0, none⟩) ps.length ps.length] 1), (bs, .cells true (ps.map ptv) 1)] (by simp [hne]) (allAt_mem ⟨h1, h2, trivial⟩)
  refine acalls_st Tryz.func6 rfl Tryz.ntmps6 rfl ?_
  refine awp_seq ?_
  refine awp_regs hF ?_
  refine dv (gyes_none rfl) (q_as (v := .int .i64 0) rfl) rfl (by decide) (cok1 (cconst rfl)) ?_
  refine ⟨_, Wk.refl _ _, ?_⟩
  show awp _ _ _ _ _ _ _
  refine awp_seq ?_
  refine awp_regs hF ?_
  refine dv (gyes_none rfl) (q_mv (v := .pointer (some ⟨bf, 0, none⟩)) rfl) rfl (by decide) (cok1 trivial) ?_
  refine dv (gyes_none rfl) (q_mv (v := .string n) rfl) rfl (by decide) (cok1 trivial) ?_
  refine dv (gyes_none rfl) (q_call0 Tryz.call14 rfl (find_no bf _ ps l (by omega) (s0.rd (j := 0) rfl) (s0.slj (j := 1) rfl rfl (Nat.le_refl _)) (hz.mono fun _ _ _ h => s0.zrd h) n (by assumption))) rfl (by decide) (call_ok rfl) ?_
  refine dv (gyes_none rfl) (q_mv (v := .tuple #[.pointer none, .bool false]) rfl) rfl (by decide) (cok1 trivial) ?_
  refine dv (gyes_none rfl) (q_extract (v := .pointer none) rfl rfl) rfl (by decide) (cok1 trivial) ?_
  refine dv (gyes_none rfl) (q_extract (v := .bool false) rfl rfl) rfl (by decide) (cok1 trivial) ?_
  refine dv (gyes_none rfl) (q_as (v := .pointer none) rfl) rfl (by decide) (cok1 trivial) ?_
  refine dv (gyes_none rfl) (q_as (v := .bool false) rfl) rfl (by decide) (cok1 trivial) ?_
  refine ⟨_, Wk.refl _ _, ?_⟩
  show awp _ _ _ _ _ _ _
  refine awp_seq ?_
  refine awp_block ?_
  refine awp_seq ?_
  refine awp_regs hF ?_
  refine dv (gyes_none rfl) (q_mv (v := .pointer (some ⟨bf, 0, none⟩)) rfl) rfl (by decide) (cok1 trivial) ?_
  refine dv (gyes_none rfl) (q_ptrnil_f Tryz.underlying50 rfl (s0.live (j := 0) rfl) rfl) rfl (by decide) (cok2 trivial (cconst rfl)) ?_
  refine dv (gyes_none rfl) (q_as (v := .bool false) rfl) rfl (by decide) (cok1 trivial) ?_
  refine ⟨_, Wk.refl _ _, ?_⟩
  show awp _ _ _ _ _ _ _
  refine awp_cond_f rfl ?_
  refine awp_seq ?_
  refine awp_regs hF ?_
  refine dv (gyes_none rfl) (q_mv (v := .string n) rfl) rfl (by decide) (cok1 trivial) ?_
  refine dvb (gyes_none rfl) (q_call0 Tryz.call15 rfl (named_ok n hn)) rfl (by decide) (cok2 trivial trivial) (fun c1 => ?_) (fun c1 => ?_)
  ·
    refine dv (gyes_none rfl) (q_not (b := true) rfl) rfl (by decide) (cok1 trivial) ?_
    refine dv (gyes_none rfl) (q_as (v := .bool false) rfl) rfl (by decide) (cok1 trivial) ?_
    refine ⟨_, Wk.refl _ _, ?_⟩
    show awp _ _ _ _ _ _ _
    refine awp_cond_f rfl ?_
    refine awp_seq ?_
    refine awp_regs hF ?_
    refine dv (gyes_none rfl) (q_mv (v := .string b) rfl) rfl (by decide) (cok1 trivial) ?_
    refine dv (gyes_none rfl) (q_len_str Tryz.underlying9 rfl) rfl (by decide) (cok1 trivial) ?_
    refine dvb (gyes_none rfl) (q_int rfl rfl rfl) rfl (by decide) (cok2 trivial (cconst rfl)) (fun c2 => ?_) (fun c2 => ?_)
    ·
      replace c2 := of_decide_eq_true c2
      refine dv (gyes_none rfl) (q_as (v := .bool true) rfl) rfl (by decide) (cok1 trivial) ?_
      refine ⟨_, Wk.refl _ _, ?_⟩
      show awp _ _ _ _ _ _ _
      refine awp_cond_t rfl ?_
      refine awp_seq ?_
      refine awp_regs hF ?_
      refine dv (gyes_none rfl) (q_as (v := .int .i64 6) rfl) rfl (by decide) (cok1 (cconst rfl)) ?_
      refine ⟨_, Wk.refl _ _, ?_⟩
      show awp _ _ _ _ _ _ _
      refine awp_ret_wk ?_
      have hv : addV l n b = 6 := by unfold addV; rw [if_neg (by simp [*]), if_pos (by omega)]
      refine ⟨_, Wk.refl _ _, ?_⟩
      repeat (with_reducible first | refine then_ret ?_ | refine blk_ret ?_ | refine then_exit ?_ | refine blk_exit ?_ | refine blk_exit' (by decide) ?_ | refine blk_normal ?_ | refine then_normal ?_ | refine retq_ret ?_ | refine retq_normal ?_ | refine ng_normal ?_ | refine ng_ret ?_ | refine ng_exit ?_)
      refine ret_is (v := .int .i64 6) rfl (.tmp rfl .nil) rfl ?_
      exact ⟨by rw [hv]; first | done | rfl, s0.kp, .inl ⟨by rw [hv]; decide, s0.getj (j := 0) rfl, s0.getj (j := 1) rfl⟩⟩
    ·
      replace c2 := of_decide_eq_false c2
      refine dv (gyes_none rfl) (q_as (v := .bool false) rfl) rfl (by decide) (cok1 trivial) ?_
      refine ⟨_, Wk.refl _ _, ?_⟩
      show awp _ _ _ _ _ _ _
      refine awp_cond_f rfl ?_
      refine awp_seq ?_
      refine awp_regs hF ?_
      refine dv (gyes_none rfl) (q_mv (v := .bool false) rfl) rfl (by decide) (cok1 trivial) ?_
      refine dv (gyes_none rfl) (q_as (v := .bool false) rfl) rfl (by decide) (cok1 trivial) ?_
      refine ⟨_, Wk.refl _ _, ?_⟩
      show awp _ _ _ _ _ _ _
      refine awp_cond_f rfl ?_
      refine awp_seq ?_
      refine awp_regs hF ?_
      refine dv (gyes_none rfl) (q_mv (v := .pointer (some ⟨bf, 0, none⟩)) rfl) rfl (by decide) (cok1 trivial) ?_
      refine dv (gyes_none rfl) (q_nilCheck rfl (s0.live (j := 0) rfl)) rfl (by decide) (cok1 trivial) ?_
      refine dv (gyes_none rfl) (q_field Tryz.underlying26 rfl Tryz.sizeOf24 rfl (s0.rd (j := 0) rfl)) rfl (by decide) (cok1 trivial) ?_
      refine dv (gyes_none rfl) (q_load (v := .slice (some ⟨bs, 0, none⟩) ps.length ps.length) Tryz.isAgg24 rfl (s0.rd (j := 0) rfl) rfl) rfl (by decide) (cok1 trivial) ?_
      refine dv (gyes_none rfl) (q_len_slice Tryz.underlying24 rfl (s0.rd (j := 1) rfl)) rfl (by decide) (cok1 trivial) ?_
      refine dvb (gyes_none rfl) (q_int rfl rfl rfl) rfl (by decide) (cok2 trivial (cconst rfl)) (fun c3 => ?_) (fun c3 => ?_)
      ·
        replace c3 := of_decide_eq_true c3
        refine dv (gyes_none rfl) (q_as (v := .bool true) rfl) rfl (by decide) (cok1 trivial) ?_
        refine ⟨_, Wk.refl _ _, ?_⟩
        show awp _ _ _ _ _ _ _
        refine awp_cond_t rfl ?_
        refine awp_seq ?_
        refine awp_regs hF ?_
        refine dv (gyes_none rfl) (q_as (v := .int .i64 6) rfl) rfl (by decide) (cok1 (cconst rfl)) ?_
        refine ⟨_, Wk.refl _ _, ?_⟩
        show awp _ _ _ _ _ _ _
        refine awp_ret_wk ?_
        have hv : addV l n b = 6 := by unfold addV; rw [if_neg (by simp [*]), if_neg (by omega), if_neg hf, if_pos (by omega)]
        refine ⟨_, Wk.refl _ _, ?_⟩
        repeat (with_reducible first | refine then_ret ?_ | refine blk_ret ?_ | refine then_exit ?_ | refine blk_exit ?_ | refine blk_exit' (by decide) ?_ | refine blk_normal ?_ | refine then_normal ?_ | refine retq_ret ?_ | refine retq_normal ?_ | refine ng_normal ?_ | refine ng_ret ?_ | refine ng_exit ?_)
        refine ret_is (v := .int .i64 6) rfl (.tmp rfl .nil) rfl ?_
        exact ⟨by rw [hv]; first | done | rfl, s0.kp, .inl ⟨by rw [hv]; decide, s0.getj (j := 0) rfl, s0.getj (j := 1) rfl⟩⟩
      ·
        replace c3 := of_decide_eq_false c3
        refine dv (gyes_none rfl) (q_as (v := .bool false) rfl) rfl (by decide) (cok1 trivial) ?_
        refine ⟨_, Wk.refl _ _, ?_⟩
        show awp _ _ _ _ _ _ _
        refine awp_cond_f rfl ?_
        refine awp_skip_wk ?_
        refine ⟨_, Wk.refl _ _, ?_⟩
        show awp _ _ _ _ _ _ _
        refine awp_seq ?_
        refine awp_regs hF ?_
        refine dv (gyes_none rfl) (q_mv (v := .pointer (some ⟨bf, 0, none⟩)) rfl) rfl (by decide) (cok1 trivial) ?_
        refine dv (gyes_none rfl) (q_mv (v := .pointer (some ⟨bf, 0, none⟩)) rfl) rfl (by decide) (cok1 trivial) ?_
        refine dv (gyes_none rfl) (q_nilCheck rfl (s0.live (j := 0) rfl)) rfl (by decide) (cok1 trivial) ?_
        refine dv (gyes_none rfl) (q_field Tryz.underlying26 rfl Tryz.sizeOf24 rfl (s0.rd (j := 0) rfl)) rfl (by decide) (cok1 trivial) ?_
        refine dv (gyes_none rfl) (q_load (v := .slice (some ⟨bs, 0, none⟩) ps.length ps.length) Tryz.isAgg24 rfl (s0.rd (j := 0) rfl) rfl) rfl (by decide) (cok1 trivial) ?_
        refine dv (gyes_none rfl) (q_mv (v := .string n) rfl) rfl (by decide) (cok1 trivial) ?_
        refine dv (gyes_none rfl) (q_mv (v := .string b) rfl) rfl (by decide) (cok1 trivial) ?_
        refine dv (gyes_none rfl) (q_buildL (ds := [.string n, .string b, .bool false, .pointer none, .int .i64 0, .int .u64 0, .string ⟨#[]⟩]) [(0, 1), (1, 1), (2, 1), (3, 1), (4, 3)] [.string n, .string b] Tryz.underlying56 Tryz.zeroValue56 (by first | exact flat_agg rfl | exact flat_scalar rfl) (by kernel_rfl) ⟨rfl, rfl, trivial⟩ (lvsC (by exact trivial) (lvsC (by exact trivial) lvs0)) rfl) rfl (by decide) (cok2 trivial trivial) ?_
        refine x_new (fun b => .pointer (some ⟨b, 0, none⟩)) s0 (gyes_none rfl) (q_box (v := .agg #[.string n, .string b, .bool false, .pointer none, .int .i64 0, .int .u64 0, .string ⟨#[]⟩]) (vs := [.string n, .string b, .bool false, .pointer none, .int .i64 0, .int .u64 0, .string ⟨#[]⟩]) 7 rfl (by exact trivial) rfl) rfl (by decide) (cok1 trivial) (fun b1 H2 hb4 s3 => ?_)
        refine x_new (fun b => .slice (some ⟨b, 0, none⟩) 1 1) s3 (gyes_none rfl) (q_buildSliceL (ds := [.pointer (some ⟨b1, 0, none⟩)]) [.pointer (some ⟨b1, 0, none⟩)] rfl Tryz.underlying24 Tryz.sizeOf51 Tryz.zeroValue51 rfl (by decide) (by decide) ⟨rfl, trivial⟩ (lvsC (s3.live (j := 0) rfl) lvs0) rfl rfl) rfl (by decide) (cok1 trivial) (fun b5 H6 hb8 s7 => ?_)
        refine x_append (l := [()]) (f := fun _ : Unit => Value.pointer (some ⟨b1, 0, none⟩)) [] hF s7 (by kernel_rfl) (j := 3) (ps.length + 1) rfl (gyes_none rfl) Tryz.underlying24 Tryz.underlying24 Tryz.type51 rfl rfl (by decide) rfl rfl rfl rfl (s7.slj (l := [()]) (f := fun _ : Unit => Value.pointer (some ⟨b1, 0, none⟩)) (j := 0) rfl rfl (Nat.le_refl _)) (fun _ => (lc_ptr (s7.live (j := 1) rfl))) (by simp) (by show (2 * (_ + 1) + 1000) * 8 ≤ _; omega) trivial trivial (by decide) rfl rfl (vs' := (ps ++ [b1]).map ptv) (by simp [ptv]) (fun b9 H10 hb12 s11 => ⟨?_, ?_⟩)
        · exact trivial
        refine dv (gyes_none rfl) (q_nilCheck rfl (s11.live (j := 2) rfl)) rfl (by decide) (cok1 trivial) ?_
        refine dv (gyes_none rfl) (q_field Tryz.underlying26 rfl Tryz.sizeOf24 rfl (s11.rd (j := 2) rfl)) rfl (by decide) (cok1 trivial) ?_
        refine x_store1 [] hF s11 (by kernel_rfl) (gyes_none rfl) (j := 2) (v := .slice (some ⟨b9, 0, none⟩) (ps.length + 1) (ps.length + 1)) rfl Tryz.sizeOf24 rfl rfl rfl (lc_slice (s11.live (j := 3) rfl)) (Nat.le_of_ble_eq_true rfl) trivial trivial rfl rfl (F' := [(b5, .cells true [.pointer (some ⟨b1, 0, none⟩)] 1), (b1, .cells true [.string n, .string b, .bool false, .pointer none, .int .i64 0, .int .u64 0, .string ⟨#[]⟩] 7), (bf, .cells true [.slice (some ⟨b9, 0, none⟩) (ps.length + 1) (ps.length + 1)] 1), (b9, .cells true ((ps ++ [b1]).map ptv) 1)]) rfl (fun H13 s14 => ⟨?_, ?_⟩)
        · exact trivial
        refine ⟨_, Wk.refl _ _, ?_⟩
        show awp _ _ _ _ _ _ _
        refine awp_seq ?_
        refine awp_regs hF ?_
        refine dv (gyes_none rfl) (q_as (v := .int .i64 0) rfl) rfl (by decide) (cok1 (cconst rfl)) ?_
        refine ⟨_, Wk.refl _ _, ?_⟩
        show awp _ _ _ _ _ _ _
        refine awp_ret_wk ?_
        have hv : addV l n b = 0 := by unfold addV; rw [if_neg (by simp [*]), if_neg (by omega), if_neg hf, if_neg (by omega)]
        refine ⟨_, Wk.refl _ _, ?_⟩
        repeat (with_reducible first | refine then_ret ?_ | refine blk_ret ?_ | refine then_exit ?_ | refine blk_exit ?_ | refine blk_exit' (by decide) ?_ | refine blk_normal ?_ | refine then_normal ?_ | refine retq_ret ?_ | refine retq_normal ?_ | refine ng_normal ?_ | refine ng_ret ?_ | refine ng_exit ?_)
        refine ret_is (v := .int .i64 0) rfl (.tmp rfl .nil) rfl ?_
        exact ⟨by rw [hv]; first | done | rfl, s14.kp, .inr ⟨hv, b9, b1, s14.own _ (List.mem_of_getElem? (i := 3) rfl), by omega, s14.nej (i := 1) (j := 3) rfl rfl (by decide), s14.nej (i := 3) (j := 2) rfl rfl (by decide), s14.getj (j := 2) rfl, s14.getj (j := 3) rfl, s14.getj (j := 1) rfl⟩⟩
  ·
    refine dv (gyes_none rfl) (q_not (b := false) rfl) rfl (by decide) (cok1 trivial) ?_
    refine dv (gyes_none rfl) (q_as (v := .bool true) rfl) rfl (by decide) (cok1 trivial) ?_
    refine ⟨_, Wk.refl _ _, ?_⟩
    show awp _ _ _ _ _ _ _
    refine awp_cond_t rfl ?_
    refine awp_seq ?_
    refine awp_regs hF ?_
    refine dv (gyes_none rfl) (q_as (v := .int .i64 25) rfl) rfl (by decide) (cok1 (cconst rfl)) ?_
    refine ⟨_, Wk.refl _ _, ?_⟩
    show awp _ _ _ _ _ _ _
    refine awp_ret_wk ?_
    have hv : addV l n b = 25 := by unfold addV; rw [if_pos (by assumption)]
    refine ⟨_, Wk.refl _ _, ?_⟩
    repeat (with_reducible first | refine then_ret ?_ | refine blk_ret ?_ | refine then_exit ?_ | refine blk_exit ?_ | refine blk_exit' (by decide) ?_ | refine blk_normal ?_ | refine then_normal ?_ | refine retq_ret ?_ | refine retq_normal ?_ | refine ng_normal ?_ | refine ng_ret ?_ | refine ng_exit ?_)
    refine ret_is (v := .int .i64 25) rfl (.tmp rfl .nil) rfl ?_
    exact ⟨by rw [hv]; first | done | rfl, s0.kp, .inl ⟨by rw [hv]; decide, s0.getj (j := 0) rfl, s0.getj (j := 1) rfl⟩⟩

end Go.Proofs.YtnafdgcikaifmaaGreatA


/-
  Walks of functions of the given program, and what they compute.
-/
namespace Go.Proofs.YtnafdgcikaifmaaGreatA
set_option linter.unusedVariables false
open Go Go.RowKit Go.Shelf Go.Proofs
set_option maxRecDepth 100000 in
set_option maxHeartbeats 4000000 in
theorem bytes_yes {H0 : AHeap} (bf : Nat) (vP : Value) (ps : List Nat) (l : List Fl) (hl : l.length ≤ 1000) (hf : Rd H0 bf [vP] 1) (hP : Sl ptv H0 vP ps) (hz : FZ (Rd H0) ps l) (s : ByteArray) (h : fI l s < l.length) : ACalls Tryz.prog 10 [.pointer (some ⟨bf, 0, none⟩), .string s] H0 (Rets (.tuple #[.string (nth l (fI l s)).2, .bool true]) H0) := by
  have hF : Wd Fence.wide := .inl rfl
  have hM : Tryz.prog.follows .mixedOrders = true := by kernel_rfl
  have s0 := St.begin H0
  refine acalls_st Tryz.func10 rfl Tryz.ntmps10 rfl ?_
  refine awp_seq ?_
  refine awp_regs hF ?_
  refine dv (gyes_none rfl) (q_as (v := .string (⟨#[]⟩ : ByteArray)) rfl) rfl (by decide) (cok1 (cconst rfl)) ?_
  refine dv (gyes_none rfl) (q_as (v := .bool false) rfl) rfl (by decide) (cok1 (cconst rfl)) ?_
  refine ⟨_, Wk.refl _ _, ?_⟩
  show awp _ _ _ _ _ _ _
  refine awp_seq ?_
  refine awp_regs hF ?_
  refine dv (gyes_none rfl) (q_mv (v := .pointer (some ⟨bf, 0, none⟩)) rfl) rfl (by decide) (cok1 trivial) ?_
  refine dv (gyes_none rfl) (q_mv (v := .string s) rfl) rfl (by decide) (cok1 trivial) ?_
  refine dv (gyes_none rfl) (q_call0 Tryz.call14 rfl (find_yes bf vP ps l hl (s0.zrd hf) (s0.sl hP) (hz.mono fun _ _ _ h => s0.zrd h) s h)) rfl (by decide) (call_ok rfl) ?_
  refine dv (gyes_none rfl) (q_mv (v := .tuple #[.pointer (some ⟨(nth ps (fI l s)), 0, none⟩), .bool true]) rfl) rfl (by decide) (cok1 trivial) ?_
  refine dv (gyes_none rfl) (q_extract (v := .pointer (some ⟨(nth ps (fI l s)), 0, none⟩)) rfl rfl) rfl (by decide) (cok1 trivial) ?_
  refine dv (gyes_none rfl) (q_extract (v := .bool true) rfl rfl) rfl (by decide) (cok1 trivial) ?_
  refine dv (gyes_none rfl) (q_as (v := .pointer (some ⟨(nth ps (fI l s)), 0, none⟩)) rfl) rfl (by decide) (cok1 trivial) ?_
  refine dv (gyes_none rfl) (q_as (v := .bool true) rfl) rfl (by decide) (cok1 trivial) ?_
  refine ⟨_, Wk.refl _ _, ?_⟩
  show awp _ _ _ _ _ _ _
  refine awp_seq ?_
  refine awp_seq ?_
  refine awp_regs hF ?_
  refine dv (gyes_none rfl) (q_mv (v := .bool true) rfl) rfl (by decide) (cok1 trivial) ?_
  refine dv (gyes_none rfl) (q_not (b := true) rfl) rfl (by decide) (cok1 trivial) ?_
  refine ⟨_, Wk.refl _ _, ?_⟩
  show awp _ _ _ _ _ _ _
  refine awp_cond_f rfl ?_
  refine awp_skip_wk ?_
  refine ⟨_, Wk.refl _ _, ?_⟩
  show awp _ _ _ _ _ _ _
  refine awp_seq ?_
  refine awp_regs hF ?_
  refine dv (gyes_none rfl) (q_mv (v := .pointer (some ⟨(nth ps (fI l s)), 0, none⟩)) rfl) rfl (by decide) (cok1 trivial) ?_
  refine dv (gyes_none rfl) (q_nilCheck rfl (Rd.live (s0.zrd (hz.at_ _ h)))) rfl (by decide) (cok1 trivial) ?_
  refine dv (gyes_none rfl) (q_field Tryz.underlying56 rfl Tryz.sizeOf9 rfl (s0.zrd (hz.at_ _ h))) rfl (by decide) (cok1 trivial) ?_
  refine dv (gyes_none rfl) (q_load (v := .string ((nth l (fI l s)).2)) Tryz.isAgg9 rfl (s0.zrd (hz.at_ _ h)) rfl) rfl (by decide) (cok1 trivial) ?_
  refine dv (gyes_none rfl) (q_as (v := .string ((nth l (fI l s)).2)) rfl) rfl (by decide) (cok1 trivial) ?_
  refine dv (gyes_none rfl) (q_as (v := .bool true) rfl) rfl (by decide) (cok1 (cconst rfl)) ?_
  refine ⟨_, Wk.refl _ _, ?_⟩
  show awp _ _ _ _ _ _ _
  refine awp_ret_wk ?_
  refine ⟨_, Wk.refl _ _, ?_⟩
  repeat (with_reducible first | refine then_ret ?_ | refine blk_ret ?_ | refine then_exit ?_ | refine blk_exit ?_ | refine blk_exit' (by decide) ?_ | refine blk_normal ?_ | refine then_normal ?_ | refine retq_ret ?_ | refine retq_normal ?_ | refine ng_normal ?_ | refine ng_ret ?_ | refine ng_exit ?_)
  exact ret_none (v := .tuple #[.string ((nth l (fI l s)).2), .bool true]) rfl s0.kp (.tmp rfl (.tmp rfl .nil)) rfl rfl ⟨rfl, rfl⟩
set_option maxRecDepth 100000 in
set_option maxHeartbeats 4000000 in
theorem bytes_no {H0 : AHeap} (bf : Nat) (vP : Value) (ps : List Nat) (l : List Fl) (hl : l.length ≤ 1000) (hf : Rd H0 bf [vP] 1) (hP : Sl ptv H0 vP ps) (hz : FZ (Rd H0) ps l) (s : ByteArray) (h : ¬ fI l s < l.length) : ACalls Tryz.prog 10 [.pointer (some ⟨bf, 0, none⟩), .string s] H0 (Rets (.tuple #[.string ⟨#[]⟩, .bool false]) H0) := by
  have hF : Wd Fence.wide := .inl rfl
  have hM : Tryz.prog.follows .mixedOrders = true := by kernel_rfl
  have s0 := St.begin H0
  refine acalls_st Tryz.func10 rfl Tryz.ntmps10 rfl ?_
  refine awp_seq ?_
  refine awp_regs hF ?_
  refine dv (gyes_none rfl) (q_as (v := .string (⟨#[]⟩ : ByteArray)) rfl) rfl (by decide) (cok1 (cconst rfl)) ?_
  refine dv (gyes_none rfl) (q_as (v := .bool false) rfl) rfl (by decide) (cok1 (cconst rfl)) ?_
  refine ⟨_, Wk.refl _ _, ?_⟩
  show awp _ _ _ _ _ _ _
  refine awp_seq ?_
  refine awp_regs hF ?_
  refine dv (gyes_none rfl) (q_mv (v := .pointer (some ⟨bf, 0, none⟩)) rfl) rfl (by decide) (cok1 trivial) ?_
  refine dv (gyes_none rfl) (q_mv (v := .string s) rfl) rfl (by decide) (cok1 trivial) ?_
  refine dv (gyes_none rfl) (q_call0 Tryz.call14 rfl (find_no bf vP ps l hl (s0.zrd hf) (s0.sl hP) (hz.mono fun _ _ _ h => s0.zrd h) s h)) rfl (by decide) (call_ok rfl) ?_
  refine dv (gyes_none rfl) (q_mv (v := .tuple #[.pointer none, .bool false]) rfl) rfl (by decide) (cok1 trivial) ?_
  refine dv (gyes_none rfl) (q_extract (v := .pointer none) rfl rfl) rfl (by decide) (cok1 trivial) ?_
  refine dv (gyes_none rfl) (q_extract (v := .bool false) rfl rfl) rfl (by decide) (cok1 trivial) ?_
  refine dv (gyes_none rfl) (q_as (v := .pointer none) rfl) rfl (by decide) (cok1 trivial) ?_
  refine dv (gyes_none rfl) (q_as (v := .bool false) rfl) rfl (by decide) (cok1 trivial) ?_
  refine ⟨_, Wk.refl _ _, ?_⟩
  show awp _ _ _ _ _ _ _
  refine awp_seq ?_
  refine awp_seq ?_
  refine awp_regs hF ?_
  refine dv (gyes_none rfl) (q_mv (v := .bool false) rfl) rfl (by decide) (cok1 trivial) ?_
  refine dv (gyes_none rfl) (q_not (b := false) rfl) rfl (by decide) (cok1 trivial) ?_
  refine ⟨_, Wk.refl _ _, ?_⟩
  show awp _ _ _ _ _ _ _
  refine awp_cond_t rfl ?_
  refine awp_seq ?_
  refine awp_regs hF ?_
  refine dv (gyes_none rfl) (q_as (v := .string (⟨#[]⟩ : ByteArray)) rfl) rfl (by decide) (cok1 (cconst rfl)) ?_
  refine dv (gyes_none rfl) (q_as (v := .bool false) rfl) rfl (by decide) (cok1 (cconst rfl)) ?_
  refine ⟨_, Wk.refl _ _, ?_⟩
  show awp _ _ _ _ _ _ _
  refine awp_ret_wk ?_
  refine ⟨_, Wk.refl _ _, ?_⟩
  repeat (with_reducible first | refine then_ret ?_ | refine blk_ret ?_ | refine then_exit ?_ | refine blk_exit ?_ | refine blk_exit' (by decide) ?_ | refine blk_normal ?_ | refine then_normal ?_ | refine retq_ret ?_ | refine retq_normal ?_ | refine ng_normal ?_ | refine ng_ret ?_ | refine ng_exit ?_)
  exact ret_none (v := .tuple #[.string (⟨#[]⟩ : ByteArray), .bool false]) rfl s0.kp (.tmp rfl (.tmp rfl .nil)) rfl rfl ⟨rfl, rfl⟩
set_option maxRecDepth 100000 in
set_option maxHeartbeats 4000000 in
theorem all_ok {H0 : AHeap} (bf : Nat) (vP : Value) (hf : Rd H0 bf [vP] 1) : ACalls Tryz.prog 7 [.pointer (some ⟨bf, 0, none⟩)] H0 (fun v H' => ∃ bi, v = .func (.func 16) #[] #[.pointer (some ⟨bi, 0, none⟩)] ∧ NewL H0 H' [(bi, .cells true [.pointer (some ⟨bf, 0, none⟩)] 1)]) := by
  have hF : Wd Fence.wide := .inl rfl
  have hM : Tryz.prog.follows .mixedOrders = true := by kernel_rfl
  have s0 := St.begin H0
  refine acalls_st Tryz.func7 rfl Tryz.ntmps7 rfl ?_
  refine awp_seq ?_
  refine awp_regs hF ?_
  refine x_new (fun b => .pointer (some ⟨b, 0, none⟩)) s0 (gyes_none rfl) (q_box (v := .pointer (some ⟨bf, 0, none⟩)) (vs := [.pointer (some ⟨bf, 0, none⟩)]) 1 rfl (Rd.live (s0.zrd hf)) rfl) rfl (by decide) (cok1 trivial) (fun b1 H2 hb4 s3 => ?_)
  refine dv (gyes_none rfl) (q_as (v := .nilFunc) rfl) rfl (by decide) (cok1 (cconst rfl)) ?_
  refine ⟨_, Wk.refl _ _, ?_⟩
  show awp _ _ _ _ _ _ _
  refine awp_seq ?_
  refine awp_regs hF ?_
  refine dv (gyes_none rfl) (q_makeFuncL [.pointer (some ⟨b1, 0, none⟩)] ⟨rfl, trivial⟩) rfl (by decide) (cok1 trivial) ?_
  refine dv (gyes_none rfl) (q_as (v := .func (.func 16) #[] #[.pointer (some ⟨b1, 0, none⟩)]) rfl) rfl (by decide) (cok1 trivial) ?_
  refine ⟨_, Wk.refl _ _, ?_⟩
  show awp _ _ _ _ _ _ _
  refine awp_ret_wk ?_
  refine ⟨_, Wk.refl _ _, ?_⟩
  repeat (with_reducible first | refine then_ret ?_ | refine blk_ret ?_ | refine then_exit ?_ | refine blk_exit ?_ | refine blk_exit' (by decide) ?_ | refine blk_normal ?_ | refine then_normal ?_ | refine retq_ret ?_ | refine retq_normal ?_ | refine ng_normal ?_ | refine ng_ret ?_ | refine ng_exit ?_)
  refine ret_is (v := .func (.func 16) #[] #[.pointer (some ⟨b1, 0, none⟩)]) rfl (.tmp rfl .nil) rfl ?_
  exact ⟨_, rfl, s3.newL⟩
set_option maxRecDepth 100000 in
set_option maxHeartbeats 4000000 in
theorem all1_ok {H0 : AHeap} (bf : Nat) (vP : Value) (ps : List Nat) (l : List Fl) (hl : l.length ≤ 1000) (y : Value) (bi : Nat) (Iv E' : Nat → AHeap → Prop) (h0 : Iv 0 H0)
    (hm : ∀ i H H', Iv i H → K0 H H' → Iv i H')
    (hb : ∀ i H, Iv i H → Rd H bi [.pointer (some ⟨bf, 0, none⟩)] 1 ∧ Rd H bf [vP] 1 ∧ Sl ptv H vP ps ∧ FZ (Rd H) ps l)
    (hy : ∀ i H, Iv i H → i < l.length → Ylds Tryz.prog y [.string (nth l i).1, .string (nth l i).2] H (fun b H' => (b = true → Iv (i + 1) H') ∧ (b = false → E' (i + 1) H'))) : ACalls Tryz.prog 16 [y, .pointer (some ⟨bi, 0, none⟩)] H0 (fun v H' => v = .tuple #[] ∧ (Iv l.length H' ∨ ∃ i, i < l.length ∧ E' (i + 1) H')) := by
  have hF : Wd Fence.wide := .inl rfl
  have hM : Tryz.prog.follows .mixedOrders = true := by kernel_rfl
  have s0 := St.begin H0
  obtain ⟨hi_, hf_, hP, hz⟩ := hb _ _ h0
  have hpl := hz.len
  refine acalls_st Tryz.func16 rfl Tryz.ntmps16 rfl ?_
  refine awp_seq ?_
  refine awp_seq ?_
  refine awp_regs hF ?_
  refine dv (gyes_none rfl) (q_load (v := .pointer (some ⟨bf, 0, none⟩)) Tryz.isAgg50 rfl (s0.zrd hi_) rfl) rfl (by decide) (cok1 trivial) ?_
  refine dv (gyes_none rfl) (q_ptrnil_f Tryz.underlying50 rfl (Rd.live (s0.zrd hf_)) rfl) rfl (by decide) (cok2 trivial (cconst rfl)) ?_
  refine ⟨_, Wk.refl _ _, ?_⟩
  show awp _ _ _ _ _ _ _
  refine awp_cond_f rfl ?_
  refine awp_skip_wk ?_
  refine ⟨_, Wk.refl _ _, ?_⟩
  show awp _ _ _ _ _ _ _
  refine awp_seq ?_
  refine awp_regs hF ?_
  refine dv (gyes_none rfl) (q_load (v := .pointer (some ⟨bf, 0, none⟩)) Tryz.isAgg50 rfl (s0.zrd hi_) rfl) rfl (by decide) (cok1 trivial) ?_
  refine dv (gyes_none rfl) (q_nilCheck rfl (Rd.live (s0.zrd hf_))) rfl (by decide) (cok1 trivial) ?_
  refine dv (gyes_none rfl) (q_field Tryz.underlying26 rfl Tryz.sizeOf24 rfl (s0.zrd hf_)) rfl (by decide) (cok1 trivial) ?_
  refine dv (gyes_none rfl) (q_load (v := vP) Tryz.isAgg24 rfl (s0.zrd hf_) rfl) rfl (by decide) (cok1 trivial) ?_
  refine dv (gyes_none rfl) (q_len_sl (l := ps) Tryz.underlying24 (hP) rfl) rfl (by decide) (cok1 trivial) ?_
  refine dv (gyes_none rfl) (q_mv (v := .int .i64 0) rfl) rfl (by decide) (cok1 (cconst rfl)) ?_
  refine ⟨_, Wk.refl _ _, ?_⟩
  show awp _ _ _ _ _ _ _
  refine awp_block ?_
  refine awp_wk (Wk.U [(0, y), (1, .pointer (some ⟨bi, 0, none⟩)), (10, vP), (11, .int .i64 ((ps.length : Nat) : Int)), (12, .int .i64 0)] ⟨rfl, rfl, rfl, rfl, rfl, trivial⟩) ?_
  refine awp_loop (fun (i : Nat) st => ∃ (H1 : AHeap), st = ⟨28, U [(0, y), (1, .pointer (some ⟨bi, 0, none⟩)), (10, vP), (11, .int .i64 ((ps.length : Nat) : Int)), (12, .int .i64 ((i : Nat) : Int))], [], H1⟩ ∧ St H1 (none0) (Rd H1) H1 [] ∧ (i ≤ l.length ∧ Iv i H1)) (fun (i : Nat) => l.length - i) (x0 := (0)) ?h0 ?round
  case h0 =>
    exact ⟨_, rfl, s0, ⟨Nat.zero_le _, hm _ _ _ h0 s0.kp⟩⟩
  case round =>
    rintro i _ ⟨H1, rfl, s2, hI⟩
    obtain ⟨hi_, hf_, hP, hz⟩ := hb _ _ hI.2
    refine awp_seq ?_
    refine awp_regs hF ?_
    refine dvb (gyes_none rfl) (q_int rfl rfl rfl) rfl (by decide) (cok2 trivial trivial) (fun c1 => ?_) (fun c1 => ?_)
    ·
      replace c1 := of_decide_eq_true c1
      refine ⟨_, Wk.refl _ _, ?_⟩
      show awp _ _ _ _ _ _ _
      refine awp_seq ?_
      refine awp_cond_t rfl ?_
      refine awp_skip_wk ?_
      refine ⟨_, Wk.refl _ _, ?_⟩
      show awp _ _ _ _ _ _ _
      refine awp_seq ?_
      refine awp_block ?_
      refine awp_seq ?_
      refine awp_regs hF ?_
      refine dv (gyes_none rfl) (q_index_sl (l := ps) (i := i) Tryz.underlying24 Tryz.sizeOf51 (hP) rfl rfl (by omega)) rfl (by decide) (cok2 trivial trivial) ?_
      refine dv (gyes_none rfl) (q_load_sl (l := ps) (i := i) Tryz.isAgg51 (hP) rfl (by omega)) rfl (by decide) (cok1 trivial) ?_
      refine dv (gyes_none rfl) (q_as (v := .pointer (some ⟨nth ps i, 0, none⟩)) rfl) rfl (by decide) (cok1 trivial) ?_
      refine ⟨_, Wk.refl _ _, ?_⟩
      show awp _ _ _ _ _ _ _
      refine awp_seq ?_
      refine awp_regt hF hM (by kernel_rfl) (by kernel_rfl) ?_
      refine dv (gyes_none rfl) (q_mv (v := y) rfl) rfl (by decide) (cok1 trivial) ?_
      refine dv (gyes_none rfl) (q_mv (v := .pointer (some ⟨nth ps i, 0, none⟩)) rfl) rfl (by decide) (cok1 trivial) ?_
      refine dv (gyes_none rfl) (q_nilCheck rfl (Rd.live (s2.zrd (hz.at_ i (by omega))))) rfl (by decide) (cok1 trivial) ?_
      refine dv (gyes_none rfl) (q_field Tryz.underlying56 rfl Tryz.sizeOf9 rfl (s2.zrd (hz.at_ i (by omega)))) rfl (by decide) (cok1 trivial) ?_
      refine dv (gyes_none rfl) (q_load (v := .string ((nth l i).1)) Tryz.isAgg9 rfl (s2.zrd (hz.at_ i (by omega))) rfl) rfl (by decide) (cok1 trivial) ?_
      refine dv (gyes_none rfl) (q_mv (v := .pointer (some ⟨nth ps i, 0, none⟩)) rfl) rfl (by decide) (cok1 trivial) ?_
      refine dv (gyes_none rfl) (q_nilCheck rfl (Rd.live (s2.zrd (hz.at_ i (by omega))))) rfl (by decide) (cok1 trivial) ?_
      refine dv (gyes_none rfl) (q_field Tryz.underlying56 rfl Tryz.sizeOf9 rfl (s2.zrd (hz.at_ i (by omega)))) rfl (by decide) (cok1 trivial) ?_
      refine dv (gyes_none rfl) (q_load (v := .string ((nth l i).2)) Tryz.isAgg9 rfl (s2.zrd (hz.at_ i (by omega))) rfl) rfl (by decide) (cok1 trivial) ?_
      refine x_yield [] (by kernel_rfl) (gyes_none rfl) (y := y) (args := [.string ((nth l i).1), .string ((nth l i).2)]) rfl rfl (hy i _ (hm _ _ _ hI.2 s2.kp) (by omega)) (show _ < _ by decide) (cok2 trivial trivial) rfl rfl (fun y3 H4 hy5 => ⟨trivial, ?_⟩)
      show dList _ _ _ _ _ _ _ _ _ _
      cases y3
      case false =>
        refine dv (gyes_none rfl) (q_not (b := false) rfl) rfl (by decide) (cok1 trivial) ?_
        refine ⟨_, Wk.refl _ _, ?_⟩
        show awp _ _ _ _ _ _ _
        refine awp_cond_t rfl ?_
        refine awp_ret_wk ?_
        refine ⟨_, Wk.refl _ _, ?_⟩
        repeat (with_reducible first | refine then_ret ?_ | refine blk_ret ?_ | refine then_exit ?_ | refine blk_exit ?_ | refine blk_exit' (by decide) ?_ | refine blk_normal ?_ | refine then_normal ?_ | refine retq_ret ?_ | refine retq_normal ?_ | refine ng_normal ?_ | refine ng_ret ?_ | refine ng_exit ?_)
        refine ret_is (v := .tuple #[]) rfl .nil rfl ?_
        exact ⟨rfl, .inr ⟨i, by omega, hy5.2 rfl⟩⟩
      case true =>
        have h6 := hy5.1 rfl
        have s7 := St.begin H4
        refine dv (gyes_none rfl) (q_not (b := true) rfl) rfl (by decide) (cok1 trivial) ?_
        refine ⟨_, Wk.refl _ _, ?_⟩
        show awp _ _ _ _ _ _ _
        refine awp_cond_f rfl ?_
        refine awp_skip_wk ?_
        refine ⟨_, Wk.refl _ _, ?_⟩
        show awp _ _ _ _ _ _ _
        refine awp_regs hF ?_
        refine dv (gyes_none rfl) (OpQ.cast (v' := .int .i64 ((i + 1 : Nat) : Int)) (q_int rfl rfl rfl) (congrArg _ ((i64_in (by omega)).trans (by first | rfl | omega | (push_cast; rfl))))) rfl (by decide) (cok2 trivial (cconst rfl)) ?_
        refine dv (gyes_none rfl) (q_mv (v := .int .i64 ((i + 1 : Nat) : Int)) rfl) rfl (by decide) (cok1 trivial) ?_
        refine ⟨_, Wk.U [(0, y), (1, .pointer (some ⟨bi, 0, none⟩)), (10, vP), (11, .int .i64 ((ps.length : Nat) : Int)), (12, .int .i64 (((i + 1) : Nat) : Int))] ⟨rfl, rfl, rfl, rfl, rfl, trivial⟩, (i + 1), ⟨_, rfl, (St.begin _), ⟨by omega, h6⟩⟩, (by omega)⟩
    ·
      replace c1 := of_decide_eq_false c1
      refine ⟨_, Wk.refl _ _, ?_⟩
      show awp _ _ _ _ _ _ _
      refine awp_seq ?_
      refine awp_cond_f rfl ?_
      refine awp_exit_wk ?_
      refine ⟨_, Wk.refl _ _, ?_⟩
      repeat (with_reducible first | refine then_ret ?_ | refine blk_ret ?_ | refine then_exit ?_ | refine blk_exit ?_ | refine blk_exit' (by decide) ?_ | refine blk_normal ?_ | refine then_normal ?_ | refine retq_ret ?_ | refine retq_normal ?_ | refine ng_normal ?_ | refine ng_ret ?_ | refine ng_exit ?_)
      refine ret_is (v := .tuple #[]) rfl .nil rfl ?_
      obtain rfl : i = l.length := by omega
      exact ⟨rfl, .inl hI.2⟩

end Go.Proofs.YtnafdgcikaifmaaGreatA

