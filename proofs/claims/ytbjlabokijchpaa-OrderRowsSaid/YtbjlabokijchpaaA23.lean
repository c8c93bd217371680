/-
  Slices among a law's arguments, as the row's facts tell of them.
-/
import Derived.Test.YtbjlabokijchpaaA22
import Derived.ChangeSlices
import Derived.SliceStrings
import Derived.WideShapes
import Derived.SizedLaws
namespace Go.Proofs.YtbjlabokijchpaaA
set_option linter.unusedVariables false
open Go Go.RowKit Go.Shelf Go.ChangeShapes
/-- A slice that came in lies in a block of cells. -/
theorem arg_block {P : Program} {w : World} {b0 : Nat} {t e : TypeId} {x : Addr} {len cap : Nat} (ht : P.underlying t = some (.slice e)) (hval : Value.okWide P w .any b0 t (.slice (some x) len cap)) : x.spot = none ∧ ∃ cs T fr, w.heap[x.block]? = some (.cells cs T fr) := by
  simp only [Value.okWide, ht, Cell.okWide, Cell.ok] at hval
  obtain ⟨_, _, _, h2, row, cells, h3, _⟩ := hval
  refine ⟨h2, ?_⟩
  unfold World.shape? at h3
  split at h3
  · exact ⟨_, _, _, by assumption⟩
  · cases h3
theorem weightsAll_mem {H : Type} {P : Program} {e : TypeId} {n : Nat} : ∀ {ds : List (DataW H)} {d : DataW H}, d ∈ ds → n ∈ d.weights P e → n ∈ DataW.weightsAll P e ds
  | [], d, h, _ => by simp at h
  | d' :: ds, d, h, hn => by
    simp only [DataW.weightsAll, List.mem_append]
    rcases List.mem_cons.1 h with rfl | h
    · exact .inl hn
    · exact .inr (weightsAll_mem h hn)
def RowF {α : Type} (f : α → Value) (w : World) (a : Option Addr) (len cap : Nat) (zs : List α) : Prop :=
  (a = none ∧ len = 0 ∧ cap = 0) ∨ ∃ x, a = some x ∧ x.spot = none ∧ len ≤ cap ∧ zs.length = cap ∧ (∃ cs T fr, w.heap[x.block]? = some (.cells cs T fr)) ∧ ∀ i (h : i < zs.length), w.cell? (x.add i) = some (f zs[i])
theorem arg_strs {H : Type} {enc : TypeId × Value → H} {P : Program} {w : World} {base b0 : Nat} {t e : TypeId} {a : Option Addr} {len cap : Nat} {d : DataW H} {ps : List MemPlace} (ht : P.underlying t = some (.slice e)) (he : P.underlying e = some .string) (hc : P.cellsOf e = 1)
    (hby : 0 < P.bytesOf e) {ts : List TypeId} {ds : List (DataW H)} {j : Nat} (hsz : (DataW.weightsEach P ts ds).all (· ≤ reachBytes) = true) (hts : ts[j]? = some t) (hds : ds[j]? = some d)
    (hval : Value.okWide P w .any b0 t (.slice a len cap)) (h : DataW.Trod enc P w base (fun _ => true) true t (.slice a len cap) d ps) : ∃ zs : List ByteArray, RowF strv w a len cap zs ∧ (∀ s ∈ zs, s.size ≤ 140737488355328) ∧ zs.length ≤ 140737488355328 := by
  obtain ⟨fuel, hf⟩ := h
  rcases open_strings ht he hc hf with ⟨hcs, _⟩ | ⟨x, l, c, zs, hcs, _, hl, hm, hz, hd, hcell, hwz⟩
  · simp [Value.cells] at hcs
    obtain ⟨rfl, rfl, rfl⟩ := hcs
    exact ⟨[], .inl ⟨rfl, rfl, rfl⟩, by simp, by simp⟩
  · simp [Value.cells] at hcs
    obtain ⟨rfl, rfl, rfl⟩ := hcs
    obtain ⟨h1, h2⟩ := arg_block ht hval
    have hr : reachBytes ≤ 140737488355328 := by decide
    simp only [Prod.mk.injEq] at hd
    obtain ⟨rfl, _⟩ := hd
    refine ⟨zs, .inr ⟨x, rfl, h1, hl, by simpa using hz, h2, fun i hi => ?_⟩, fun s hs => ?_, ?_⟩
    · have := hcell i hi
      rw [this]
      simp [strv, List.getD_eq_getElem?_getD, hi]
    · have hm : s.size ∈ DataW.weightsEach P ts ds := by
        refine DataW.weights_mem_each hts hds _ ?_
        simp only [DataW.weights, ht, List.mem_cons, List.mem_append]
        have hs' : s ∈ zs.take len ∨ s ∈ zs.drop len := by rw [← List.mem_append, List.take_append_drop]; exact hs
        have key : ∀ l : List ByteArray, s ∈ l → s.size ∈ DataW.weightsAll P e (strs l : List (DataW H)) := fun l hl => by
          refine weightsAll_mem (d := .lit (.string s.data.toList)) ?_ (by simp [DataW.weights])
          unfold strs
          exact List.mem_map.2 ⟨s, hl, rfl⟩
        rcases hs' with h | h
        · exact .inr (.inl (key _ h))
        · exact .inr (.inr (key _ h))
      have := List.all_eq_true.1 hsz _ hm
      simp at this
      omega
    · have h3 := sized_slice hsz hts hds ht
      simp only [strs, List.length_map, List.length_take, List.length_drop] at h3
      have h4 := Nat.le_mul_of_pos_right (min len zs.length + (zs.length - len)) hby
      omega
theorem arg_ints {H : Type} {enc : TypeId × Value → H} {P : Program} {w : World} {base b0 : Nat} {t e : TypeId} {k : IntKind} {a : Option Addr} {len cap : Nat} {d : DataW H} {ps : List MemPlace} (ht : P.underlying t = some (.slice e)) (he : P.underlying e = some (.int k)) (hc : P.cellsOf e = 1)
    (hval : Value.okWide P w .any b0 t (.slice a len cap)) (h : DataW.Trod enc P w base (fun _ => true) true t (.slice a len cap) d ps) : ∃ zs : List Int, RowF (fun z => .int k z) w a len cap zs ∧ ∀ n ∈ zs, (Lit.int k n).wf = true := by
  obtain ⟨fuel, hf⟩ := h
  rcases open_ints ht he hc hf with ⟨hcs, _⟩ | ⟨x, l, c, zs, hcs, _, hl, hm, hz, _, hcell, hwz⟩
  · simp [Value.cells] at hcs
    obtain ⟨rfl, rfl, rfl⟩ := hcs
    exact ⟨[], .inl ⟨rfl, rfl, rfl⟩, by simp⟩
  · simp [Value.cells] at hcs
    obtain ⟨rfl, rfl, rfl⟩ := hcs
    obtain ⟨h1, h2⟩ := arg_block ht hval
    refine ⟨zs, .inr ⟨x, rfl, h1, hl, by simpa using hz, h2, fun i hi => ?_⟩, hwz⟩
    have := hcell i hi
    rw [this]
    simp [List.getD_eq_getElem?_getD, hi]
/-- Numbers of 32 bits, as natural ones. -/
theorem row_u32 {w : World} {a : Option Addr} {len cap : Nat} {zs : List Int} (h : RowF (fun z => .int .u32 z) w a len cap zs) (hw : ∀ n ∈ zs, (Lit.int .u32 n).wf = true) : ∃ ns : List Nat, RowF u32v w a len cap ns ∧ ∀ n ∈ ns, n < 4294967296 := by
  have hb : ∀ n ∈ zs, 0 ≤ n ∧ n < 4294967296 := fun n hn => by
    have := hw n hn
    simp [Lit.wf, IntKind.min, IntKind.max, IntKind.signed, IntKind.bits] at this; omega
  refine ⟨zs.map Int.toNat, ?_, fun n hn => ?_⟩
  · rcases h with h | ⟨x, h1, h2, h3, h4, h5, h6⟩
    · exact .inl h
    · refine .inr ⟨x, h1, h2, h3, by simpa using h4, h5, fun i hi => ?_⟩
      have hi' : i < zs.length := by simpa using hi
      rw [h6 i hi']
      have := (hb _ (List.getElem_mem hi')).1
      simp [u32v, Int.toNat_of_nonneg this]
  · obtain ⟨z, hz, rfl⟩ := List.mem_map.1 hn
    have := hb z hz
    omega
end Go.Proofs.YtbjlabokijchpaaA
