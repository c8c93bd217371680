/-
  Walks of functions of the given program, and what they compute.
-/
import Derived.Test.YtmoldjiooccppaaA19
import Derived.Test.YtmoldjiooccppaaA19
import Derived.Test.YtmoldjiooccppaaProg
import Derived.KernelRfl
namespace Go.Proofs.YtmoldjiooccppaaA
set_option linter.unusedVariables false
open Go Go.RowKit Go.Shelf Go.Proofs
set_option maxRecDepth 100000 in
set_option maxHeartbeats 2000000 in
theorem hash_ok {H0 : AHeap} {n0 : Nat} (h0 : H0.length = n0) (s : ByteArray) (hs : s.size ≤ 140737488355328) : ACalls Try.prog 32 [.string s] H0 (Rets (.int .u32 ((hash s : Nat) : Int)) H0) := by
  have hF : Wd Fence.wide := .inl rfl
  have hM : Try.prog.follows .mixedOrders = true := by kernel_rfl
  refine acalls_begin Try.func32 rfl Try.ntmps32 rfl ?_
  refine awp_seq ?_
  refine awp_reg hF ?_
  refine sv hF (gyes_none rfl) (q_as (by conv => lhs; whnf)) rfl (by decide) (cok1 (cconst rfl)) ?_
  refine ⟨_, Wk.refl _ _, ?_⟩
  show awp _ _ _ _ _ _ _
  refine awp_seq ?_
  refine awp_reg hF ?_
  refine sv hF (gyes_none rfl) (q_as (by conv => lhs; whnf)) rfl (by decide) (cok1 (cconst rfl)) ?_
  refine ⟨_, Wk.refl _ _, ?_⟩
  show awp _ _ _ _ _ _ _
  refine awp_seq ?_
  refine awp_seq ?_
  refine awp_reg hF ?_
  refine sv hF (gyes_none rfl) (q_mv (by conv => lhs; whnf)) rfl (by decide) (cok1 trivial) ?_
  refine sv hF (gyes_none rfl) (q_len_str Try.underlying9 rfl) rfl (by decide) (cok1 trivial) ?_
  refine sv hF (gyes_none rfl) (q_mv (by conv => lhs; whnf)) rfl (by decide) (cok1 (cconst rfl)) ?_
  refine ⟨_, Wk.refl _ _, ?_⟩
  show awp _ _ _ _ _ _ _
  refine awp_block ?_
  refine awp_wk (Wk.U [(0, .string s), (3, .int .u32 ((hashN s 0 : Nat) : Int)), (7, .int .i64 s.size), (8, .int .i64 ((0 : Nat) : Int))] ⟨rfl, rfl, rfl, rfl, trivial⟩) ?_
  refine awp_loop (fun (i : Nat) st => i ≤ s.size ∧ st = ⟨28, U [(0, .string s), (3, .int .u32 ((hashN s i : Nat) : Int)), (7, .int .i64 s.size), (8, .int .i64 ((i : Nat) : Int))], [], H0 ++ []⟩) (fun i => s.size - i) (x0 := 0) ?h0 ?round
  case h0 => exact ⟨Nat.zero_le _, rfl⟩
  case round =>
    rintro i _ ⟨hi, rfl⟩
    refine awp_seq ?_
    refine awp_reg hF ?_
    refine svb hF (gyes_none rfl) (q_int rfl rfl rfl) rfl (by decide) (cok2 trivial trivial) (fun c1 => ?_) (fun c1 => ?_)
    ·
      try simp only [decide_eq_true_eq, decide_eq_false_iff_not, beq_iff_eq, beq_eq_false_iff_ne, bne_iff_ne, bne_eq_false_iff_eq, Bool.not_eq_true', Bool.not_eq_false', ne_eq] at c1
      refine ⟨_, Wk.refl _ _, ?_⟩
      show awp _ _ _ _ _ _ _
      refine awp_seq ?_
      refine awp_cond_t rfl ?_
      refine awp_skip_wk ?_
      refine ⟨_, Wk.refl _ _, ?_⟩
      show awp _ _ _ _ _ _ _
      refine awp_seq ?_
      refine awp_block ?_
      refine awp_seq ?_
      refine awp_reg hF ?_
      refine sv hF (gyes_none rfl) (q_mv (by conv => lhs; whnf)) rfl (by decide) (cok1 trivial) ?_
      refine sv hF (gyes_none rfl) (q_as (by conv => lhs; whnf)) rfl (by decide) (cok1 trivial) ?_
      refine ⟨_, Wk.refl _ _, ?_⟩
      show awp _ _ _ _ _ _ _
      refine awp_seq ?_
      refine awp_reg hF ?_
      refine sv hF (gyes_none rfl) (q_mv (by conv => lhs; whnf)) rfl (by decide) (cok1 trivial) ?_
      refine sv hF (gyes_none rfl) (q_shl rfl rfl (by first | decide | omega)) rfl (by decide) (cok2 trivial (cconst rfl)) ?_
      refine sv hF (gyes_none rfl) (q_mv (by conv => lhs; whnf)) rfl (by decide) (cok1 trivial) ?_
      refine sv hF (gyes_none rfl) (q_mv (by conv => lhs; whnf)) rfl (by decide) (cok1 trivial) ?_
      refine sv hF (gyes_none rfl) (q_strix Try.underlying9 rfl rfl (by omega)) rfl (by decide) (cok2 trivial trivial) ?_
      refine sv hF (gyes_none rfl) (by first | exact q_convin Try.underlying5 Try.underlying31 rfl (by first | exact i64_in (by omega) | exact u64_in (by omega) | exact u32_in (by omega) | exact u8_in (by omega)) | exact q_conv Try.underlying5 Try.underlying31 rfl) rfl (by decide) (cok1 trivial) ?_
      refine sv hF (gyes_none rfl) (q_int rfl rfl rfl) rfl (by decide) (cok2 trivial trivial) ?_
      refine sv hF (gyes_none rfl) (q_as (by conv => lhs; whnf)) rfl (by decide) (cok1 trivial) ?_
      refine ⟨_, Wk.refl _ _, ?_⟩
      show awp _ _ _ _ _ _ _
      refine awp_seq ?_
      refine awp_reg hF ?_
      refine sv hF (gyes_none rfl) (q_mv (by conv => lhs; whnf)) rfl (by decide) (cok1 trivial) ?_
      refine sv hF (gyes_none rfl) (q_int rfl rfl rfl) rfl (by decide) (cok2 trivial (cconst rfl)) ?_
      refine sv hF (gyes_none rfl) (q_as (by conv => lhs; whnf)) rfl (by decide) (cok1 trivial) ?_
      refine ⟨_, Wk.refl _ _, ?_⟩
      show awp _ _ _ _ _ _ _
      refine awp_reg hF ?_
      refine sv hF (gyes_none rfl) (q_mv (by conv => lhs; whnf)) rfl (by decide) (cok1 trivial) ?_
      refine sv hF (gyes_none rfl) (q_mv (by conv => lhs; whnf)) rfl (by decide) (cok1 trivial) ?_
      refine sv hF (gyes_none rfl) (q_shr rfl rfl (by first | decide | omega)) rfl (by decide) (cok2 trivial (cconst rfl)) ?_
      refine sv hF (gyes_none rfl) (q_int rfl rfl rfl) rfl (by decide) (cok2 trivial trivial) ?_
      refine sv hF (gyes_none rfl) (q_mv (by conv => lhs; whnf)) rfl (by decide) (cok1 trivial) ?_
      refine sv hF (gyes_none rfl) (q_int rfl rfl rfl) rfl (by decide) (cok2 trivial trivial) ?_
      refine sv hF (gyes_none rfl) (q_as (by conv => lhs; whnf)) rfl (by decide) (cok1 trivial) ?_
      refine ⟨_, Wk.refl _ _, ?_⟩
      show awp _ _ _ _ _ _ _
      refine awp_reg hF ?_
      refine sv hF (gyes_none rfl) (by first | exact q_add64 rfl rfl (by omega) | exact q_int rfl rfl rfl) rfl (by decide) (cok2 trivial (cconst rfl)) ?_
      refine sv hF (gyes_none rfl) (q_mv (by conv => lhs; whnf)) rfl (by decide) (cok1 trivial) ?_
      refine ⟨_, Wk.U [(0, .string s), (3, .int .u32 ((hashN s (i + 1) : Nat) : Int)), (7, .int .i64 s.size), (8, .int .i64 (((i + 1) : Nat) : Int))] ⟨rfl, ?_, rfl, rfl, trivial⟩, i + 1, ⟨by omega, rfl⟩, by omega⟩
      rw [hashN_succ s i (by omega), ← vstep _ _ (hashN_lt s i) (s[i].toNat_lt)]
      rfl
    ·
      try simp only [decide_eq_true_eq, decide_eq_false_iff_not, beq_iff_eq, beq_eq_false_iff_ne, bne_iff_ne, bne_eq_false_iff_eq, Bool.not_eq_true', Bool.not_eq_false', ne_eq] at c1
      refine ⟨_, Wk.refl _ _, ?_⟩
      show awp _ _ _ _ _ _ _
      refine awp_seq ?_
      refine awp_cond_f rfl ?_
      refine awp_exit_wk ?_
      refine ⟨_, Wk.refl _ _, ?_⟩
      show awp _ _ _ _ _ _ _
      refine awp_seq ?_
      refine awp_reg hF ?_
      refine sv hF (gyes_none rfl) (q_mv (by conv => lhs; whnf)) rfl (by decide) (cok1 trivial) ?_
      refine sv hF (gyes_none rfl) (q_as (by conv => lhs; whnf)) rfl (by decide) (cok1 trivial) ?_
      refine ⟨_, Wk.refl _ _, ?_⟩
      show awp _ _ _ _ _ _ _
      refine awp_ret_wk ?_
      refine ⟨_, Wk.refl _ _, ?_⟩
      refine ret_drop1 rfl (.tmp (by conv => lhs; whnf) .nil) rfl ⟨?_, rfl⟩
      rw [show i = s.size by omega]; rfl
set_option maxRecDepth 100000 in
set_option maxHeartbeats 2000000 in
theorem rhash_ok {H0 : AHeap} {n0 : Nat} (h0 : H0.length = n0) (s : ByteArray) (hs : s.size ≤ 140737488355328) : ACalls Try.prog 22 [.string s] H0 (Rets (.int .u32 ((hash s : Nat) : Int)) H0) := by
  have hF : Wd Fence.wide := .inl rfl
  have hM : Try.prog.follows .mixedOrders = true := by kernel_rfl
  refine acalls_begin Try.func22 rfl Try.ntmps22 rfl ?_
  refine awp_seq ?_
  refine awp_reg hF ?_
  refine sv hF (gyes_none rfl) (q_as (by conv => lhs; whnf)) rfl (by decide) (cok1 (cconst rfl)) ?_
  refine ⟨_, Wk.refl _ _, ?_⟩
  show awp _ _ _ _ _ _ _
  refine awp_seq ?_
  refine awp_reg hF ?_
  refine sv hF (gyes_none rfl) (q_as (by conv => lhs; whnf)) rfl (by decide) (cok1 (cconst rfl)) ?_
  refine ⟨_, Wk.refl _ _, ?_⟩
  show awp _ _ _ _ _ _ _
  refine awp_seq ?_
  refine awp_seq ?_
  refine awp_reg hF ?_
  refine sv hF (gyes_none rfl) (q_as (by conv => lhs; whnf)) rfl (by decide) (cok1 (cconst rfl)) ?_
  refine ⟨_, Wk.refl _ _, ?_⟩
  show awp _ _ _ _ _ _ _
  refine awp_block ?_
  refine awp_wk (Wk.U [(0, .string s), (3, .int .u64 ((hashN s 0 : Nat) : Int)), (4, .int .i64 ((0 : Nat) : Int))] ⟨rfl, rfl, rfl, trivial⟩) ?_
  refine awp_loop (fun (i : Nat) st => i ≤ s.size ∧ st = ⟨37, U [(0, .string s), (3, .int .u64 ((hashN s i : Nat) : Int)), (4, .int .i64 ((i : Nat) : Int))], [], H0 ++ []⟩) (fun i => s.size - i) (x0 := 0) ?h0 ?round
  case h0 => exact ⟨Nat.zero_le _, rfl⟩
  case round =>
    rintro i _ ⟨hi, rfl⟩
    refine awp_seq ?_
    refine awp_seq ?_
    refine awp_reg hF ?_
    refine sv hF (gyes_none rfl) (q_mv (by conv => lhs; whnf)) rfl (by decide) (cok1 trivial) ?_
    refine sv hF (gyes_none rfl) (q_mv (by conv => lhs; whnf)) rfl (by decide) (cok1 trivial) ?_
    refine sv hF (gyes_none rfl) (q_len_str Try.underlying9 rfl) rfl (by decide) (cok1 trivial) ?_
    refine svb hF (gyes_none rfl) (q_int rfl rfl rfl) rfl (by decide) (cok2 trivial trivial) (fun c1 => ?_) (fun c1 => ?_)
    ·
      simp only [decide_eq_true_eq, decide_eq_false_iff_not] at c1
      have hlt : i < s.size := by omega
      have hc := s[i].toNat_lt
      have hh := hashN_lt s i
      refine ⟨_, Wk.refl _ _, ?_⟩
      show awp _ _ _ _ _ _ _
      refine awp_cond_t rfl ?_
      refine awp_skip_wk ?_
      refine ⟨_, Wk.refl _ _, ?_⟩
      show awp _ _ _ _ _ _ _
      refine awp_seq ?_
      refine awp_block ?_
      refine awp_seq ?_
      refine awp_reg hF ?_
      refine sv hF (gyes_none rfl) (q_mv (by conv => lhs; whnf)) rfl (by decide) (cok1 trivial) ?_
      refine sv hF (gyes_none rfl) (OpQ.cast (v' := .int .u64 ((16 * hashN s i : Nat) : Int)) (q_mulu rfl rfl (by omega)) (by first | rfl | (congr 1; omega))) rfl (by decide) (call_ok rfl) ?_
      refine sv hF (gyes_none rfl) (q_mv (by conv => lhs; whnf)) rfl (by decide) (cok1 trivial) ?_
      refine sv hF (gyes_none rfl) (q_mv (by conv => lhs; whnf)) rfl (by decide) (cok1 trivial) ?_
      refine sv hF (gyes_none rfl) (q_strix Try.underlying9 rfl rfl (by omega)) rfl (by decide) (cok2 trivial trivial) ?_
      refine sv hF (gyes_none rfl) (OpQ.cast (v' := .int .u64 ((s[i].toNat : Nat) : Int)) (q_convin Try.underlying5 Try.underlying42 rfl (u64_in (by omega))) (rfl)) rfl (by decide) (call_ok rfl) ?_
      refine sv hF (gyes_none rfl) (OpQ.cast (v' := .int .u64 ((16 * hashN s i + s[i].toNat : Nat) : Int)) (q_addu rfl rfl (by omega)) (by first | rfl | (congr 1; omega))) rfl (by decide) (call_ok rfl) ?_
      refine sv hF (gyes_none rfl) (OpQ.cast (v' := .int .u64 (((16 * hashN s i + s[i].toNat) % 4294967296 : Nat) : Int)) (q_remN rfl rfl (by omega) (by omega)) (by first | rfl | (congr 1; omega))) rfl (by decide) (call_ok rfl) ?_
      refine sv hF (gyes_none rfl) (q_as (by conv => lhs; whnf)) rfl (by decide) (cok1 trivial) ?_
      refine ⟨_, Wk.refl _ _, ?_⟩
      show awp _ _ _ _ _ _ _
      refine awp_seq ?_
      refine awp_reg hF ?_
      refine sv hF (gyes_none rfl) (q_mv (by conv => lhs; whnf)) rfl (by decide) (cok1 trivial) ?_
      refine sv hF (gyes_none rfl) (OpQ.cast (v' := .int .u64 ((((16 * hashN s i + s[i].toNat) % 4294967296) / 268435456 : Nat) : Int)) (q_quoN rfl rfl (by omega) (by omega) (u64_in (by omega))) (by first | rfl | (congr 1; omega))) rfl (by decide) (call_ok rfl) ?_
      refine sv hF (gyes_none rfl) (q_as (by conv => lhs; whnf)) rfl (by decide) (cok1 trivial) ?_
      refine ⟨_, Wk.refl _ _, ?_⟩
      show awp _ _ _ _ _ _ _
      refine awp_seq ?_
      refine awp_reg hF ?_
      refine sv hF (gyes_none rfl) (q_mv (by conv => lhs; whnf)) rfl (by decide) (cok1 trivial) ?_
      refine sv hF (gyes_none rfl) (OpQ.cast (v' := .int .u64 ((((16 * hashN s i + s[i].toNat) % 4294967296) % 268435456 : Nat) : Int)) (q_remN rfl rfl (by omega) (by omega)) (by first | rfl | (congr 1; omega))) rfl (by decide) (call_ok rfl) ?_
      refine sv hF (gyes_none rfl) (q_as (by conv => lhs; whnf)) rfl (by decide) (cok1 trivial) ?_
      refine ⟨_, Wk.refl _ _, ?_⟩
      show awp _ _ _ _ _ _ _
      refine awp_reg hF ?_
      refine sv hF (gyes_none rfl) (q_mv (by conv => lhs; whnf)) rfl (by decide) (cok1 trivial) ?_
      refine sv hF (gyes_none rfl) (OpQ.cast (v' := .int .u64 ((((16 * hashN s i + s[i].toNat) % 4294967296) % 268435456 / 256 : Nat) : Int)) (q_quoN rfl rfl (by omega) (by omega) (u64_in (by omega))) (by first | rfl | (congr 1; omega))) rfl (by decide) (call_ok rfl) ?_
      refine sv hF (gyes_none rfl) (OpQ.cast (v' := .int .u64 ((((16 * hashN s i + s[i].toNat) % 4294967296) % 268435456 / 256 * 256 : Nat) : Int)) (q_mulu rfl rfl (by omega)) (by first | rfl | (congr 1; omega))) rfl (by decide) (call_ok rfl) ?_
      refine sv hF (gyes_none rfl) (q_mv (by conv => lhs; whnf)) rfl (by decide) (cok1 trivial) ?_
      refine sv hF (gyes_none rfl) (OpQ.cast (v' := .int .u64 ((((16 * hashN s i + s[i].toNat) % 4294967296) % 268435456 % 256 : Nat) : Int)) (q_remN rfl rfl (by omega) (by omega)) (by first | rfl | (congr 1; omega))) rfl (by decide) (call_ok rfl) ?_
      refine sv hF (gyes_none rfl) (q_mv (by conv => lhs; whnf)) rfl (by decide) (cok1 trivial) ?_
      refine sv hF (gyes_none rfl) (OpQ.cast (v' := .int .u64 ((16 * (((16 * hashN s i + s[i].toNat) % 4294967296) / 268435456) : Nat) : Int)) (q_mulu rfl rfl (by omega)) (by first | rfl | (congr 1; omega))) rfl (by decide) (call_ok rfl) ?_
      refine sv hF (gyes_none rfl) (OpQ.cast (v' := .int .u64 (((((16 * hashN s i + s[i].toNat) % 4294967296) % 268435456 % 256) ^^^ (16 * (((16 * hashN s i + s[i].toNat) % 4294967296) / 268435456)) : Nat) : Int)) (q_int rfl rfl rfl) (congrArg _ (xor64 _ _ (by omega) (by omega)))) rfl (by decide) (call_ok rfl) ?_
      refine sv hF (gyes_none rfl) (OpQ.cast (v' := .int .u64 ((((((16 * hashN s i + s[i].toNat) % 4294967296) % 268435456 % 256) ^^^ (16 * (((16 * hashN s i + s[i].toNat) % 4294967296) / 268435456))) % 256 : Nat) : Int)) (q_remN rfl rfl (by omega) (by omega)) (by first | rfl | (congr 1; omega))) rfl (by decide) (call_ok rfl) ?_
      refine sv hF (gyes_none rfl) (OpQ.cast (v' := .int .u64 ((hashN s (i + 1) : Nat) : Int)) (q_addu rfl rfl (by omega)) (by
          congr 1
          rw [hashN_succ s i hlt, show stepF (hashN s i) s[i].toNat = (((16 * hashN s i + s[i].toNat) % 4294967296) % 268435456) ^^^ (16 * (((16 * hashN s i + s[i].toNat) % 4294967296) / 268435456)) from rfl, ← low_form (((16 * hashN s i + s[i].toNat) % 4294967296) % 268435456) (((16 * hashN s i + s[i].toNat) % 4294967296) / 268435456) (by omega)]
          rfl)) rfl (by decide) (call_ok rfl) ?_
      refine sv hF (gyes_none rfl) (q_as (by conv => lhs; whnf)) rfl (by decide) (cok1 trivial) ?_
      refine ⟨_, Wk.refl _ _, ?_⟩
      show awp _ _ _ _ _ _ _
      refine awp_reg hF ?_
      refine sv hF (gyes_none rfl) (q_mv (by conv => lhs; whnf)) rfl (by decide) (cok1 trivial) ?_
      refine sv hF (gyes_none rfl) (by first | exact q_add64 rfl rfl (by omega) | exact q_int rfl rfl rfl) rfl (by decide) (cok2 trivial (cconst rfl)) ?_
      refine sv hF (gyes_none rfl) (q_as (by conv => lhs; whnf)) rfl (by decide) (cok1 trivial) ?_
      refine ⟨_, Wk.U [(0, .string s), (3, .int .u64 ((hashN s (i + 1) : Nat) : Int)), (4, .int .i64 (((i + 1) : Nat) : Int))] ⟨rfl, rfl, rfl, trivial⟩, i + 1, ⟨by omega, rfl⟩, by omega⟩
    ·
      simp only [decide_eq_true_eq, decide_eq_false_iff_not] at c1
      refine ⟨_, Wk.refl _ _, ?_⟩
      show awp _ _ _ _ _ _ _
      refine awp_cond_f rfl ?_
      refine awp_exit_wk ?_
      refine ⟨_, Wk.refl _ _, ?_⟩
      show awp _ _ _ _ _ _ _
      refine awp_seq ?_
      refine awp_reg hF ?_
      refine sv hF (gyes_none rfl) (q_mv (by conv => lhs; whnf)) rfl (by decide) (cok1 trivial) ?_
      refine sv hF (gyes_none rfl) (q_convin Try.underlying42 Try.underlying31 rfl (u32_in (by have := hashN_lt s i; omega))) rfl (by decide) (call_ok rfl) ?_
      refine sv hF (gyes_none rfl) (q_as (by conv => lhs; whnf)) rfl (by decide) (cok1 trivial) ?_
      refine ⟨_, Wk.refl _ _, ?_⟩
      show awp _ _ _ _ _ _ _
      refine awp_ret_wk ?_
      refine ⟨_, Wk.refl _ _, ?_⟩
      refine ret_drop1 rfl (.tmp (by conv => lhs; whnf) .nil) rfl ⟨?_, rfl⟩
      rw [show i = s.size by omega]; rfl
set_option maxRecDepth 100000 in
set_option maxHeartbeats 2000000 in
theorem bucket_ok {H0 : AHeap} {n0 : Nat} (h0 : H0.length = n0) (s : ByteArray) (hs : s.size ≤ 140737488355328) (B : List Nat) (vB vC : Value) (hB : Sl u32v H0 vB B) (hB0 : 0 < B.length) (hB1 : B.length < 4294967296) : ACalls Try.prog 20 [.agg #[vB, vC], .string s] H0 (Rets (.int .i64 ((hash s % B.length : Nat) : Int)) H0) := by
  have hF : Wd Fence.wide := .inl rfl
  have hM : Try.prog.follows .mixedOrders = true := by kernel_rfl
  refine acalls_begin Try.func20 rfl Try.ntmps20 rfl ?_
  refine awp_seq ?_
  refine awp_reg hF ?_
  refine sn hF (gyes_none rfl) (q_boxN 1 (loc_len h0 rfl) (by conv => lhs; whnf) (by exact trivial) rfl) rfl (by decide) (cok1 trivial) (List.append_assoc _ _ _) ?_
  refine sv hF (gyes_none rfl) (q_as (by conv => lhs; whnf)) rfl (by decide) (cok1 (cconst rfl)) ?_
  refine ⟨_, Wk.refl _ _, ?_⟩
  show awp _ _ _ _ _ _ _
  refine awp_seq ?_
  refine awp_regt hF hM (by kernel_rfl) (by kernel_rfl) ?_
  refine dv (gyes_none rfl) (q_mv (by conv => lhs; whnf)) rfl (by decide) (cok1 trivial) ?_
  refine dv (gyes_none rfl) (q_call0 Try.call32 rfl (hash_ok rfl s hs)) rfl (by decide) (cok2 trivial trivial) ?_
  refine dv (gyes_none rfl) (q_field Try.underlying26 rfl Try.sizeOf24 rfl (by first | exact loc_rd h0 rfl | exact frm_rd (by assumption) | exact frm_rd' (by assumption) | assumption)) rfl (by decide) (cok1 trivial) ?_
  refine dv (gyes_none rfl) (q_load Try.isAgg24 rfl (by first | exact loc_rd h0 rfl | exact frm_rd (by assumption) | exact frm_rd' (by assumption) | assumption) rfl) rfl (by decide) (cok1 trivial) ?_
  refine dv (gyes_none rfl) (q_len_sl Try.underlying24 (hB.app _) rfl) rfl (by decide) (call_ok rfl) ?_
  refine dv (gyes_none rfl) (q_convin Try.underlying3 Try.underlying31 rfl (u32_in (by omega))) rfl (by decide) (call_ok rfl) ?_
  refine dv (gyes_none rfl) (OpQ.cast (v' := .int .u32 ((hash s % B.length : Nat) : Int)) (q_remN rfl rfl (by omega) (by omega)) rfl) rfl (by decide) (call_ok rfl) ?_
  refine dv (gyes_none rfl) (q_convin Try.underlying31 Try.underlying3 rfl (i64_in (by have := hash_lt s; have := Nat.mod_lt (hash s) hB0; omega))) rfl (by decide) (call_ok rfl) ?_
  refine dv (gyes_none rfl) (q_as (by conv => lhs; whnf)) rfl (by decide) (cok1 trivial) ?_
  refine ⟨_, Wk.refl _ _, ?_⟩
  show awp _ _ _ _ _ _ _
  refine awp_ret_wk ?_
  refine ⟨_, Wk.refl _ _, ?_⟩
  refine ret_drop1 rfl (.tmp (by conv => lhs; whnf) .nil) rfl ⟨?_, rfl⟩
  rfl
set_option maxRecDepth 100000 in
set_option maxHeartbeats 2000000 in
theorem walk_ok {H0 : AHeap} {n0 : Nat} (h0 : H0.length = n0) (s : ByteArray) (vB vC : Value) {b0 b1 : Nat} (e0 : n0 + 0 = b0) (e1 : n0 + 1 = b1) : ACalls Try.prog 9 [.agg #[vB, vC], .string s] H0 (Rets (.func (.func 21) #[] #[.pointer (some ⟨b0, 0, none⟩), .pointer (some ⟨b1, 0, none⟩)]) (H0 ++ [.cells true [vB, vC] 1, .cells true [.string s] 1])) := by
  have hF : Wd Fence.wide := .inl rfl
  have hM : Try.prog.follows .mixedOrders = true := by kernel_rfl
  refine acalls_begin Try.func9 rfl Try.ntmps9 rfl ?_
  refine awp_seq ?_
  refine awp_reg hF ?_
  refine sn hF (gyes_none rfl) (q_boxN 1 (loc_len h0 rfl) (by conv => lhs; whnf) (by exact trivial) rfl) rfl (by decide) (cok1 trivial) (List.append_assoc _ _ _) ?_
  refine sn hF (gyes_none rfl) (q_boxN 1 (loc_len h0 rfl) (by conv => lhs; whnf) (by exact trivial) rfl) rfl (by decide) (cok1 trivial) (List.append_assoc _ _ _) ?_
  refine sv hF (gyes_none rfl) (q_as (by conv => lhs; whnf)) rfl (by decide) (cok1 (cconst rfl)) ?_
  refine ⟨_, Wk.refl _ _, ?_⟩
  show awp _ _ _ _ _ _ _
  refine awp_seq ?_
  refine awp_reg hF ?_
  refine sv hF (gyes_none rfl) (q_makeFuncL [_, _] ⟨(by conv => lhs; whnf), (by conv => lhs; whnf), trivial⟩) rfl (by decide) (cok2 trivial trivial) ?_
  refine sv hF (gyes_none rfl) (q_as (by conv => lhs; whnf)) rfl (by decide) (cok1 trivial) ?_
  refine ⟨_, Wk.refl _ _, ?_⟩
  show awp _ _ _ _ _ _ _
  refine awp_ret_wk ?_
  subst e0 e1
  refine ⟨_, Wk.refl _ _, ?_⟩
  repeat (with_reducible first | refine then_ret ?_ | refine blk_ret ?_ | refine then_exit ?_ | refine blk_exit ?_ | refine blk_exit' (by decide) ?_ | refine blk_normal ?_ | refine then_normal ?_ | refine retq_ret ?_ | refine retq_normal ?_)
  exact ret_same (H := H0 ++ _) (by rw [List.append_nil]; first | done | rfl) (.tmp rfl .nil) rfl ⟨rfl, rfl⟩

end Go.Proofs.YtmoldjiooccppaaA
