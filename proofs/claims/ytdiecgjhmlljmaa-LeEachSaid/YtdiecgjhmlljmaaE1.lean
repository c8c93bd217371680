/-
  Walks of functions of the given program, and what they compute.
-/
import Derived.Test.YtdiecgjhmlljmaaA18
import Derived.Test.YtdiecgjhmlljmaaProg
import Derived.KernelRfl
namespace Go.Proofs.YtdiecgjhmlljmaaA
set_option linter.unusedVariables false
open Go Go.RowKit Go.Shelf Go.Proofs
/-- How many parts of a size a text has, and which. -/
def eachN (s : ByteArray) (size : Int) : Nat := if size < 1 then 0 else s.size / size.toNat
def epart (s : ByteArray) (size : Int) (k : Nat) : ByteArray := s.extract (k * size.toNat) ((k + 1) * size.toNat)
theorem eachN_nat {s : ByteArray} {z : Nat} (h : ¬ ((z : Nat) : Int) < 1) : eachN s (z : Nat) = s.size / z := by simp [eachN, h]
theorem eachN_lt {s : ByteArray} {z : Int} (h : z < 1) : eachN s z = 0 := by simp [eachN, h]
theorem each_in {s : ByteArray} {z k : Nat} (h : k < s.size / z) : (k + 1) * z ≤ s.size := by
  have := Nat.mul_le_mul_right z (show k + 1 ≤ s.size / z by omega)
  exact Nat.le_trans this (Nat.div_mul_le_self _ _)
theorem mul_in {n z k : Nat} (h : k < n / z) (hn : n ≤ 140737488355328) : -9223372036854775808 ≤ ((k : Nat) : Int) * ((z : Nat) : Int) ∧ ((k : Nat) : Int) * ((z : Nat) : Int) ≤ 9223372036854775807 := by
  have h1 : k * z ≤ n := Nat.le_trans (Nat.mul_le_mul_right z (Nat.le_of_lt h)) (Nat.div_mul_le_self _ _)
  rw [← Int.natCast_mul]
  omega
theorem mul_in1 {n z k : Nat} (h : k < n / z) (hn : n ≤ 140737488355328) : -9223372036854775808 ≤ ((k + 1 : Nat) : Int) * ((z : Nat) : Int) ∧ ((k + 1 : Nat) : Int) * ((z : Nat) : Int) ≤ 9223372036854775807 := by
  have h1 : (k + 1) * z ≤ n := Nat.le_trans (Nat.mul_le_mul_right z h) (Nat.div_mul_le_self _ _)
  rw [← Int.natCast_mul]
  omega
set_option maxRecDepth 100000 in
set_option maxHeartbeats 2000000 in
theorem each1_ok {H0 : AHeap} {n0 : Nat} (h0 : H0.length = n0) (s : ByteArray) (hs : s.size ≤ 140737488355328) (size : Int) (hsz : size ≤ 9223372036854775807) (y : Value) (b1 b2 : Nat) (I : Nat → AHeap → Prop) (E : AHeap → Prop) (h00 : I 0 H0)
    (hb : ∀ k H, I k H → H[b1]? = some (.cells true [.int .i64 size] 1) ∧ H[b2]? = some (.cells true [.string s] 1))
    (hy : ∀ k H, I k H → k < eachN s size → Ylds Try.prog y [.int .i64 (k : Int), .string (epart s size k)] H (fun b H' => (b = true → I (k + 1) H') ∧ (b = false → E H'))) : ACalls Try.prog 25 [y, .pointer (some ⟨b1, 0, none⟩), .pointer (some ⟨b2, 0, none⟩)] H0 (fun v H' => v = .tuple #[] ∧ (I (eachN s size) H' ∨ E H')) := by
  have hF : Wd Fence.wide := .inl rfl
  have hM : Try.prog.follows .mixedOrders = true := by kernel_rfl
  obtain ⟨hb01, hb02⟩ := hb 0 H0 h00
  refine acalls_begin Try.func25 rfl Try.ntmps25 rfl ?_
  refine awp_seq ?_
  refine awp_seq ?_
  refine awp_reg hF ?_
  refine sv hF (gyes_none rfl) (q_load Try.isAgg3 rfl (by first | exact loc_rd h0 rfl | exact frm_rd (by assumption) | exact frm_rd' (by assumption) | assumption) rfl) rfl (by decide) (cok1 trivial) ?_
  refine svb hF (gyes_none rfl) (q_int rfl rfl rfl) rfl (by decide) (cok2 trivial (cconst rfl)) (fun c1 => ?_) (fun c1 => ?_)
  ·
    simp only [decide_eq_true_eq, decide_eq_false_iff_not, Bool.not_eq_true', Bool.not_eq_false'] at c1
    refine ⟨_, Wk.refl _ _, ?_⟩
    show awp _ _ _ _ _ _ _
    refine awp_cond_t rfl ?_
    refine awp_ret_wk ?_
    refine ⟨_, Wk.refl _ _, ?_⟩
    repeat (with_reducible first | refine then_ret ?_ | refine blk_ret ?_ | refine then_exit ?_ | refine blk_exit ?_ | refine blk_exit' (by decide) ?_ | refine blk_normal ?_ | refine then_normal ?_ | refine retq_ret ?_ | refine retq_normal ?_)
    exact ret_same rfl .nil rfl ⟨rfl, .inl (by rw [eachN_lt c1]; exact h00)⟩
  ·
    simp only [decide_eq_true_eq, decide_eq_false_iff_not, Bool.not_eq_true', Bool.not_eq_false'] at c1
    obtain ⟨z, rfl⟩ := Int.eq_ofNat_of_zero_le (show 0 ≤ size by omega)
    rw [eachN_nat c1] at hy ⊢
    refine ⟨_, Wk.refl _ _, ?_⟩
    show awp _ _ _ _ _ _ _
    refine awp_cond_f rfl ?_
    refine awp_skip_wk ?_
    refine ⟨_, Wk.refl _ _, ?_⟩
    show awp _ _ _ _ _ _ _
    refine awp_seq ?_
    refine awp_reg hF ?_
    refine sv hF (gyes_none rfl) (q_as (by conv => lhs; whnf)) rfl (by decide) (cok1 (cconst rfl)) ?_
    refine ⟨_, Wk.refl _ _, ?_⟩
    show awp _ _ _ _ _ _ _
    refine awp_block ?_
    refine awp_wk (Wk.U [(0, y), (1, .pointer (some ⟨b1, 0, none⟩)), (2, .pointer (some ⟨b2, 0, none⟩)), (4, .int .i64 ((0 : Nat) : Int))] ⟨rfl, rfl, rfl, rfl, trivial⟩) ?_
    refine awp_loop (fun (p : Nat × AHeap) st => p.1 ≤ s.size / z ∧ I p.1 p.2 ∧ st = ⟨28, U [(0, y), (1, .pointer (some ⟨b1, 0, none⟩)), (2, .pointer (some ⟨b2, 0, none⟩)), (4, .int .i64 ((p.1 : Nat) : Int))], [], p.2 ++ []⟩) (fun p => s.size / z - p.1) (x0 := (0, H0)) ?h0 ?round
    case h0 => exact ⟨Nat.zero_le _, h00, rfl⟩
    case round =>
      rintro ⟨k, H⟩ _ ⟨hk, hI, rfl⟩
      obtain ⟨hb1, hb2⟩ := hb k H hI
      have hz1 : 0 < z := by omega
      refine awp_seq ?_
      refine awp_seq ?_
      refine awp_reg hF ?_
      refine sv hF (gyes_none rfl) (q_mv (by conv => lhs; whnf)) rfl (by decide) (cok1 trivial) ?_
      refine sv hF (gyes_none rfl) (q_load Try.isAgg9 rfl (by first | exact loc_rd h0 rfl | exact frm_rd (by assumption) | exact frm_rd' (by assumption) | assumption) rfl) rfl (by decide) (cok1 trivial) ?_
      refine sv hF (gyes_none rfl) (q_len_str Try.underlying9 rfl) rfl (by decide) (cok1 trivial) ?_
      refine sv hF (gyes_none rfl) (q_load Try.isAgg3 rfl (by first | exact loc_rd h0 rfl | exact frm_rd (by assumption) | exact frm_rd' (by assumption) | assumption) rfl) rfl (by decide) (cok1 trivial) ?_
      refine sv hF (gyes_none rfl) (OpQ.cast (v' := .int .i64 ((s.size / z : Nat) : Int)) (q_quoN rfl rfl (by omega) (by omega) (i64_in (by have := Nat.div_le_self s.size z; have e : ((s.size : Nat) : Int) / ((z : Nat) : Int) = ((s.size / z : Nat) : Int) := rfl; rw [e]; omega))) rfl) rfl (by decide) (call_ok rfl) ?_
      refine svb hF (gyes_none rfl) (q_int rfl rfl rfl) rfl (by decide) (cok2 trivial trivial) (fun c2 => ?_) (fun c2 => ?_)
      ·
        simp only [decide_eq_true_eq, decide_eq_false_iff_not, Bool.not_eq_true', Bool.not_eq_false'] at c2
        have hlt : k < s.size / z := by omega
        have hle := Nat.div_le_self s.size z
        refine ⟨_, Wk.refl _ _, ?_⟩
        show awp _ _ _ _ _ _ _
        refine awp_cond_t rfl ?_
        refine awp_skip_wk ?_
        refine ⟨_, Wk.refl _ _, ?_⟩
        show awp _ _ _ _ _ _ _
        refine awp_seq ?_
        refine awp_block ?_
        refine awp_seq ?_
        refine awp_reg hF ?_
        refine sv hF (gyes_none rfl) (q_mv (by conv => lhs; whnf)) rfl (by decide) (cok1 trivial) ?_
        refine sv hF (gyes_none rfl) (q_mv (by conv => lhs; whnf)) rfl (by decide) (cok1 trivial) ?_
        refine sv hF (gyes_none rfl) (q_load Try.isAgg9 rfl (by first | exact loc_rd h0 rfl | exact frm_rd (by assumption) | exact frm_rd' (by assumption) | assumption) rfl) rfl (by decide) (cok1 trivial) ?_
        refine sv hF (gyes_none rfl) (q_mv (by conv => lhs; whnf)) rfl (by decide) (cok1 trivial) ?_
        refine sv hF (gyes_none rfl) (q_load Try.isAgg3 rfl (by first | exact loc_rd h0 rfl | exact frm_rd (by assumption) | exact frm_rd' (by assumption) | assumption) rfl) rfl (by decide) (cok1 trivial) ?_
        refine sv hF (gyes_none rfl) (OpQ.cast (v' := .int .i64 ((k * z : Nat) : Int)) (q_mul64 rfl rfl (mul_in hlt (by omega))) (by rw [Int.natCast_mul])) rfl (by decide) (call_ok rfl) ?_
        refine sv hF (gyes_none rfl) (q_mv (by conv => lhs; whnf)) rfl (by decide) (cok1 trivial) ?_
        refine sv hF (gyes_none rfl) (OpQ.cast (v' := .int .i64 ((k + 1 : Nat) : Int)) (q_add64 rfl rfl (by omega)) rfl) rfl (by decide) (call_ok rfl) ?_
        refine sv hF (gyes_none rfl) (q_load Try.isAgg3 rfl (by first | exact loc_rd h0 rfl | exact frm_rd (by assumption) | exact frm_rd' (by assumption) | assumption) rfl) rfl (by decide) (cok1 trivial) ?_
        refine sv hF (gyes_none rfl) (OpQ.cast (v' := .int .i64 (((k + 1) * z : Nat) : Int)) (q_mul64 rfl rfl (mul_in1 hlt (by omega))) (by rw [Int.natCast_mul])) rfl (by decide) (call_ok rfl) ?_
        refine sv hF (gyes_none rfl) (q_substr Try.underlying9 rfl ⟨_, rfl⟩ ⟨_, rfl⟩ (Nat.mul_le_mul_right z (Nat.le_succ k)) (each_in hlt)) rfl (by decide) (call_ok rfl) ?_
        refine se_yield (gyes_none rfl) rfl rfl (hy k H hI hlt) (by first | exact trivial | (show _ < _; decide)) (call_ok rfl) ?_
        intro b H' hR
        refine svb hF (gyes_none rfl) (q_not rfl) rfl (by decide) (cok1 trivial) (fun c3 => ?_) (fun c3 => ?_)
        ·
          simp only [decide_eq_true_eq, decide_eq_false_iff_not, Bool.not_eq_true', Bool.not_eq_false'] at c3
          refine ⟨_, Wk.refl _ _, ?_⟩
          show awp _ _ _ _ _ _ _
          refine awp_cond_t rfl ?_
          refine awp_ret_wk ?_
          refine ⟨_, Wk.refl _ _, ?_⟩
          repeat (with_reducible first | refine then_ret ?_ | refine blk_ret ?_ | refine then_exit ?_ | refine blk_exit ?_ | refine blk_exit' (by decide) ?_ | refine blk_normal ?_ | refine then_normal ?_ | refine retq_ret ?_ | refine retq_normal ?_)
          exact ret_same rfl .nil rfl ⟨rfl, .inr (hR.2 (by assumption))⟩
        ·
          simp only [decide_eq_true_eq, decide_eq_false_iff_not, Bool.not_eq_true', Bool.not_eq_false'] at c3
          refine ⟨_, Wk.refl _ _, ?_⟩
          show awp _ _ _ _ _ _ _
          refine awp_cond_f rfl ?_
          refine awp_skip_wk ?_
          refine ⟨_, Wk.refl _ _, ?_⟩
          show awp _ _ _ _ _ _ _
          refine awp_reg hF ?_
          refine sv hF (gyes_none rfl) (q_mv (by conv => lhs; whnf)) rfl (by decide) (cok1 trivial) ?_
          refine sv hF (gyes_none rfl) (by first | exact q_add64 rfl rfl (by omega) | exact q_int rfl rfl rfl) rfl (by decide) (cok2 trivial (cconst rfl)) ?_
          refine sv hF (gyes_none rfl) (q_as (by conv => lhs; whnf)) rfl (by decide) (cok1 trivial) ?_
          refine ⟨_, Wk.U [(0, y), (1, .pointer (some ⟨b1, 0, none⟩)), (2, .pointer (some ⟨b2, 0, none⟩)), (4, .int .i64 (((k + 1) : Nat) : Int))] ⟨rfl, rfl, rfl, rfl, trivial⟩, (k + 1, H'), ⟨hlt, hR.1 (by assumption), rfl⟩, show s.size / z - (k + 1) < s.size / z - k by omega⟩
      ·
        simp only [decide_eq_true_eq, decide_eq_false_iff_not, Bool.not_eq_true', Bool.not_eq_false'] at c2
        refine ⟨_, Wk.refl _ _, ?_⟩
        show awp _ _ _ _ _ _ _
        refine awp_cond_f rfl ?_
        refine awp_exit_wk ?_
        refine ⟨_, Wk.refl _ _, ?_⟩
        repeat (with_reducible first | refine then_ret ?_ | refine blk_ret ?_ | refine then_exit ?_ | refine blk_exit ?_ | refine blk_exit' (by decide) ?_ | refine blk_normal ?_ | refine then_normal ?_ | refine retq_ret ?_ | refine retq_normal ?_)
        have e : k = s.size / z := by have := Nat.le_of_not_lt (fun h => c2 (Int.ofNat_lt.2 h)); exact Nat.le_antisymm hk this
        subst e
        exact ret_same rfl .nil rfl ⟨rfl, .inl hI⟩
set_option maxRecDepth 100000 in
set_option maxHeartbeats 2000000 in
theorem each_ok {H0 : AHeap} {n0 : Nat} (h0 : H0.length = n0) (s : ByteArray) (size : Int) {b0 b1 : Nat} (e0 : n0 + 0 = b0) (e1 : n0 + 1 = b1) : ACalls Try.prog 21 [.string s, .int .i64 size] H0 (Rets (.func (.func 25) #[] #[.pointer (some ⟨b1, 0, none⟩), .pointer (some ⟨b0, 0, none⟩)]) (H0 ++ [.cells true [.string s] 1, .cells true [.int .i64 size] 1])) := by
  have hF : Wd Fence.wide := .inl rfl
  have hM : Try.prog.follows .mixedOrders = true := by kernel_rfl
  refine acalls_begin Try.func21 rfl Try.ntmps21 rfl ?_
  refine awp_seq ?_
  refine awp_reg hF ?_
  refine sn hF (gyes_none rfl) (q_boxN 1 (loc_len h0 rfl) (by conv => lhs; whnf) (by exact trivial) rfl) rfl (by decide) (cok1 trivial) (List.append_assoc _ _ _) ?_
  refine sn hF (gyes_none rfl) (q_boxN 1 (loc_len h0 rfl) (by conv => lhs; whnf) (by exact trivial) rfl) rfl (by decide) (cok1 trivial) (List.append_assoc _ _ _) ?_
  refine sv hF (gyes_none rfl) (q_as (by conv => lhs; whnf)) rfl (by decide) (cok1 (cconst rfl)) ?_
  refine ⟨_, Wk.refl _ _, ?_⟩
  show awp _ _ _ _ _ _ _
  refine awp_seq ?_
  refine awp_reg hF ?_
  refine sv hF (gyes_none rfl) (q_makeFuncL [_, _] ⟨(by conv => lhs; whnf), (by conv => lhs; whnf), trivial⟩) rfl (by decide) (cok2 trivial trivial) ?_
  refine sv hF (gyes_none rfl) (q_as (by conv => lhs; whnf)) rfl (by decide) (cok1 trivial) ?_
  refine ⟨_, Wk.refl _ _, ?_⟩
  show awp _ _ _ _ _ _ _
  refine awp_ret_wk ?_
  subst e0 e1
  refine ⟨_, Wk.refl _ _, ?_⟩
  repeat (with_reducible first | refine then_ret ?_ | refine blk_ret ?_ | refine then_exit ?_ | refine blk_exit ?_ | refine blk_exit' (by decide) ?_ | refine blk_normal ?_ | refine then_normal ?_ | refine retq_ret ?_ | refine retq_normal ?_)
  exact ret_same (H := H0 ++ _) (by rw [List.append_nil]; first | done | rfl) (.tmp rfl .nil) rfl ⟨rfl, rfl⟩

end Go.Proofs.YtdiecgjhmlljmaaA
