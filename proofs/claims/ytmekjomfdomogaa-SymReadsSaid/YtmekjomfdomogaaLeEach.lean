/-
  le.Each: its parts, one behind the other; for whatever yield.
-/
import Derived.Test.YtmekjomfdomogaaProg
import Derived.Test.YtmekjomfdomogaaLiftIter
import Derived.Outline
import Derived.Lib.Hide
import Derived.Deep.DeepMust
namespace Go.Proofs.YtmekjomfdomogaaLe
open Go Go.RowKit Go.Shelf Go.Proofs.YtmekjomfdomogaaLift
set_option linter.unusedVariables false
set_option linter.unusedSimpArgs false
attribute [local go_sem] Oper.semAt_some

def eachN (s : ByteArray) (size : Int) : Nat := if size < 1 then 0 else s.size / size.toNat
def eachPart (s : ByteArray) (m k : Nat) : ByteArray := s.extract (k * m) ((k + 1) * m)
def eachEnc (s : ByteArray) (size : Int) (k : Nat) : Array Value := #[.int .i64 k, .string (eachPart s size.toNat k)]

theorem cell_same {w w1 : World} {b : Nat} (h : w1.heap[b]? = w.heap[b]?) : w1.cell? ⟨b, 0, none⟩ = w.cell? ⟨b, 0, none⟩ := by
  simp only [World.cell?, h]
theorem each_bound {S m k : Nat} (hm : 1 ≤ m) (h : k < S / m) : (k + 1) * m ≤ S := by
  have h1 : k + 1 ≤ S / m := h
  exact Nat.le_trans (Nat.mul_le_mul_right m h1) (Nat.div_mul_le_self S m)

set_option maxHeartbeats 200000 in
theorem each1_iter (s : ByteArray) (size : Int) (bs bn : Nat) (w0 : World) (hs : w0.heap[bs]? = some (.cells #[.string s] 9 (0, 0))) (hn : w0.heap[bn]? = some (.cells #[.int .i64 size] 3 (0, 0)))
    (hsz : s.size ≤ 140737488351232) :
    Iter Try.prog 25 #[.pointer (some ⟨bn, 0, none⟩), .pointer (some ⟨bs, 0, none⟩)] (eachEnc s size) (eachN s size) (fun b => b = bs ∨ b = bn) w0 := by
  intro y J Jx W hkeep hJ hJx hY h0
  have hcs : W.cell? ⟨bs, 0, none⟩ = some (.string s) := by rw [cell_of_one (hkeep bs (.inl rfl) ▸ hs : W.heap[bs]? = _)]
  have hcn : W.cell? ⟨bn, 0, none⟩ = some (.int .i64 size) := by rw [cell_of_one (hkeep bn (.inr rfl) ▸ hn : W.heap[bn]? = _)]
  refine callsIn_wide.1 (callsIn_of_wp (n := 3) Try.func25 rfl trivial ?_)
  simp only [Try.ntmps25, List.size_toArray, List.length_cons, List.length_nil, Nat.reduceAdd, Nat.reduceSub, Array.replicate_succ, Array.replicate_zero, List.push_toArray, List.append_toArray, List.nil_append, List.cons_append]
  by_cases hlt : size < 1
  · gi_wp2
    refine bodyPost_ret (results_none rfl _ _ _) rfl ⟨rfl, .inl ?_⟩
    have h : eachN s size = 0 := by simp [eachN, hlt]
    rw [h]; exact h0
  · obtain ⟨m, rfl⟩ : ∃ m : Nat, size = m := ⟨size.toNat, by omega⟩
    have hm : 1 ≤ m := by omega
    have hN : eachN s m = s.size / m := by rw [eachN, if_neg hlt]; rfl
    have hNs : eachN s m ≤ s.size := by rw [hN]; exact Nat.div_le_self _ _
    obtain ⟨q, hq⟩ : ∃ q : Nat, s.size / m = q := ⟨_, rfl⟩
    have hqd : (s.size : Int) / (m : Int) = (q : Int) := by rw [← hq]; exact (Int.natCast_ediv _ _).symm
    have hNq : eachN s m = q := hN.trans hq
    have hqs : q ≤ s.size := by omega
    rw [hNq] at hY ⊢
    gi_wp2
    gi_loopw [4] (fun i wr => ∃ k : Nat, k ≤ q ∧ i = .int .i64 k ∧ J k wr ∧ wr.cell? ⟨bs, 0, none⟩ = some (.string s) ∧ wr.cell? ⟨bn, 0, none⟩ = some (.int .i64 m))
      (fun i _ => q - (intOf i).toNat)
    case atStart => exact ⟨0, Nat.zero_le _, rfl, h0, hcs, hcn⟩
    case round =>
      obtain ⟨k, hk, rfl, hJk, hcs1, hcn1⟩ := hrel
      clear hcs hcn
      by_cases hlt2 : k < q
      · have hY1 := hY k wr hlt2 hJk
        have hb := each_bound hm (hq ▸ hlt2)
        have e1 : (k + 1) * m = k * m + m := Nat.succ_mul k m
        obtain ⟨p, hp⟩ : ∃ p : Nat, k * m = p := ⟨_, rfl⟩
        have hpi : (k : Int) * (m : Int) = (p : Int) := by rw [← hp]; exact (Int.natCast_mul k m).symm
        have hqi : ((k : Int) + 1) * (m : Int) = (p : Int) + (m : Int) := by rw [Int.add_mul, Int.one_mul, hpi]
        have hpm : p + m ≤ s.size := by omega
        have hsl : ∀ wx : World, (Instr.slice 9 (.string s) (some (.int .i64 p)) (some (.int .i64 ((p : Int) + m))) none).run Try.prog wx = .ok (.string (eachPart s m k)) wx := fun wx => by
          rw [eachPart, e1, hp, run_slice_string (P := Try.prog) wx 9 s .i64 .i64 p ((p : Int) + m) Try.underlying9 (by omega) (by omega) (by omega)]
          rw [show ((p : Int) + (m : Int)).toNat = p + m by omega, Int.toNat_natCast]
        have hY2 : YieldsB Try.prog y #[.int .i64 k, .string (eachPart s m k)] wr fun b W' => (∀ c, (c = bs ∨ c = bn) → W'.heap[c]? = wr.heap[c]?) ∧ wr.heap.size ≤ W'.heap.size ∧ (if b = true then J (k + 1) W' else Jx k W') := hY1
        clear hb e1 hp hY1 hq hNq hN hNs
        gi_wp2_with (first | ((with_reducible refine gate_yield (t := 15) rfl ?_); go_must (refine yield_op (t := 15) rfl rfl y #[.int .i64 k, .string (eachPart s m k)] rfl (by simp only [List.map_toArray, List.map_cons, List.map_nil]; rfl) hY2 ?_); rintro b w1 ⟨hk1, hs1, hj1⟩; cases b) | fail)
        · refine bodyPost_ret (results_none rfl _ _ _) rfl ⟨rfl, .inr ⟨k, hlt2, ?_⟩⟩
          simpa using hj1
        · refine ⟨⟨k + 1, by omega, by go_num, by simpa using hj1, ?_, ?_⟩, by simp [intOf]; omega⟩
          · exact (cell_same (hk1 bs (.inl rfl))).trans hcs1
          · exact (cell_same (hk1 bn (.inr rfl))).trans hcn1
      · have hk2 : k = q := by omega
        clear hq hNq hN hNs
        gi_wp2_with fail
        refine bodyPost_end (results_none rfl _ _ _) rfl ⟨rfl, .inl ?_⟩
        rw [← hk2]; exact hJk

set_option maxHeartbeats 400000 in
theorem each_calls (s : ByteArray) (size : Int) (w : World) (hsz : s.size ≤ 140737488351232) :
    Calls Try.prog 19 #[.string s, .int .i64 size] w fun e w' => ∃ lb keep, e = .returned (.func (.func 25) #[] lb) ∧
      Iter Try.prog 25 lb (eachEnc s size) (eachN s size) keep w' ∧ (∀ b, keep b → w.heap.size ≤ b ∧ b < w'.heap.size) ∧ Below w.heap.size w w' := by
  go_enter Try.func19, Try.ntmps19
  go_wp2
  go_ret
  have h1 : (w.alloc (.cells #[.string s] 9)).heap[w.heap.size]? = some (.cells #[.string s] 9 (0, 0)) := World.alloc_heap_new _ _
  have h2 : ((w.alloc (.cells #[.string s] 9)).alloc (.cells #[.int .i64 size] 3)).heap[w.heap.size + 1]? = some (.cells #[.int .i64 size] 3 (0, 0)) := by
    have := World.alloc_heap_new (w.alloc (.cells #[.string s] 9)) (.cells #[.int .i64 size] 3); rwa [World.size_alloc] at this
  refine ⟨_, _, rfl, each1_iter s size w.heap.size (w.heap.size + 1) _ ?_ h2 hsz, ?_, ((Below.refl _ w).alloc (Nat.le_refl _) _).alloc (by simp) _⟩
  · exact (Below.heap_alloc _ _ _ (by simp)).trans h1
  · rintro b (rfl | rfl) <;> simp only [World.size_alloc] <;> omega
end Go.Proofs.YtmekjomfdomogaaLe
