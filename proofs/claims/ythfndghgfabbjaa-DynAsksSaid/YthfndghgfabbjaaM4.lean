/-
  Walks over abstract states: texts of one claim, merged.
-/
import Derived.Test.YthfndghgfabbjaaM3
import Derived.Test.YthfndghgfabbjaaProg
import Derived.KernelRfl
import Derived.Test.YthfndghgfabbjaaShRep
/-
  Walks of functions of the given program, and what they compute.
-/
namespace Go.Proofs.YthfndghgfabbjaaA
set_option linter.unusedVariables false
open Go Go.RowKit Go.Shelf Go.Proofs
theorem hForm5 {s : ByteArray} (h0 : atV s 16 2 = 3) (h1 : atV s 18 2 = 243) (h2 : atV s 20 4 = 1) (h3 : atV s 52 2 = 64) (h4 : atV s 54 2 = 56) : ∀ i, i < 5 → atV s (hA i) (hB i) = hC i
  | 0, _ => h0
  | 1, _ => h1
  | 2, _ => h2
  | 3, _ => h3
  | 4, _ => h4
  | n + 5, h => by omega
theorem hForm5' {s : ByteArray} (h : ∀ i, i < 5 → atV s (hA i) (hB i) = hC i) : atV s 16 2 = 3 ∧ atV s 18 2 = 243 ∧ atV s 20 4 = 1 ∧ atV s 52 2 = 64 ∧ atV s 54 2 = 56 := ⟨h 0 (by decide), h 1 (by decide), h 2 (by decide), h 3 (by decide), h 4 (by decide)⟩
theorem wrongC_of {s : ByteArray} {x : Sg} {e ca cb cc cd ce : Nat} (h1 : x.1 = 1 ∧ x.2.2.2.1 < e ∧ ca = 8 ∨ ¬ (x.1 = 1 ∧ x.2.2.2.1 < e) ∧ ca = 0) (h2 : x.2.2.1 + x.2.2.2.2.1 ≤ s.size ∧ cb = ca ∨ s.size < x.2.2.1 + x.2.2.2.2.1 ∧ cb = 2)
    (h3 : x.1 = 1 ∧ (1073741824 < x.2.2.2.1 ∨ 1073741824 - x.2.2.2.1 < x.2.2.2.2.2) ∧ cc = 5 ∨ ¬ (x.1 = 1 ∧ (1073741824 < x.2.2.2.1 ∨ 1073741824 - x.2.2.2.1 < x.2.2.2.2.2)) ∧ cc = cb)
    (h4 : x.1 = 1 ∧ (x.2.2.2.2.2 = 0 ∨ x.2.2.2.2.2 < x.2.2.2.2.1) ∧ cd = 4 ∨ ¬ (x.1 = 1 ∧ (x.2.2.2.2.2 = 0 ∨ x.2.2.2.2.2 < x.2.2.2.2.1)) ∧ cd = cc)
    (h5 : x.1 = 1 ∧ x.2.2.2.1 % 256 ≠ 0 ∧ ce = 13 ∨ ¬ (x.1 = 1 ∧ x.2.2.2.1 % 256 ≠ 0) ∧ ce = cd) : wrongC s x e = ce := by
  unfold wrongC
  split; · omega
  split; · omega
  split; · omega
  split; · omega
  split; · omega
  omega
set_option maxRecDepth 100000 in
set_option maxHeartbeats 4000000 in
theorem refAt_ok {H0 : AHeap} (s : ByteArray) (a k : Nat) (hs : s.size ≤ 140737488355328) (h : a + k ≤ s.size) (h8 : k ≤ 8) : ACalls Try.prog 33 [.string s, .int .i64 ((a : Nat) : Int), .int .i64 ((k : Nat) : Int)] H0 (Rets (.int .u64 ((atV s a k : Nat) : Int)) H0) := by
  have hF : Wd Fence.wide := .inl rfl
  have hM : Try.prog.follows .mixedOrders = true := by kernel_rfl
  have s0 := St.begin H0
  refine acalls_st Try.func33 rfl Try.ntmps33 rfl ?_
  refine awp_seq ?_
  refine awp_regs hF ?_
  refine dv (gyes_none rfl) (q_as (v := .int .u64 0) rfl) rfl (by decide) (cok1 (cconst rfl)) ?_
  refine ⟨_, Wk.refl _ _, ?_⟩
  show awp _ _ _ _ _ _ _
  refine awp_seq ?_
  refine awp_regs hF ?_
  refine dv (gyes_none rfl) (q_mv (v := .string s) rfl) rfl (by decide) (cok1 trivial) ?_
  refine dv (gyes_none rfl) (q_mv (v := .int .i64 ((a : Nat) : Int)) rfl) rfl (by decide) (cok1 trivial) ?_
  refine dv (gyes_none rfl) (q_mv (v := .int .i64 ((a : Nat) : Int)) rfl) rfl (by decide) (cok1 trivial) ?_
  refine dv (gyes_none rfl) (q_mv (v := .int .i64 ((k : Nat) : Int)) rfl) rfl (by decide) (cok1 trivial) ?_
  refine dv (gyes_none rfl) (OpQ.cast (v' := .int .i64 ((a + k : Nat) : Int)) (q_int rfl rfl rfl) (congrArg _ ((i64_in (by omega)).trans (by first | rfl | omega | (push_cast; rfl))))) rfl (by decide) (cok2 trivial trivial) ?_
  refine dv (gyes_none rfl) (q_substr (i := a) (j := (a + k)) Try.underlying9 rfl ⟨_, rfl⟩ ⟨_, rfl⟩ (by omega) (by omega)) rfl (by decide) (call_ok rfl) ?_
  refine dv (gyes_none rfl) (q_call0 Try.call39 rfl (rget_ok (s.extract a (a + k)) (by rw [size_extract (by omega)]; omega))) rfl (by decide) (cok2 trivial trivial) ?_
  refine dv (gyes_none rfl) (q_as (v := .int .u64 ((getB (s.extract a (a + k)) : Nat) : Int)) rfl) rfl (by decide) (cok1 trivial) ?_
  refine ⟨_, Wk.refl _ _, ?_⟩
  show awp _ _ _ _ _ _ _
  refine awp_ret_wk ?_
  refine ⟨_, Wk.refl _ _, ?_⟩
  repeat (with_reducible first | refine then_ret ?_ | refine blk_ret ?_ | refine then_exit ?_ | refine blk_exit ?_ | refine blk_exit' (by decide) ?_ | refine blk_normal ?_ | refine then_normal ?_ | refine retq_ret ?_ | refine retq_normal ?_ | refine ng_normal ?_ | refine ng_ret ?_ | refine ng_exit ?_)
  exact ret_none (v := .int .u64 ((getB (s.extract a (a + k)) : Nat) : Int)) rfl s0.kp (.tmp rfl .nil) rfl rfl ⟨by rw [atV_in h], rfl⟩
theorem hr_hdE {s : ByteArray} {c : Nat} (h : hdE s = c) (hc : c ≠ 0) : hrC s = c ∧ hrA s = 0 ∧ hrE s = 0 ∧ hrB s = ⟨#[]⟩ ∧ hrL s = [] := by
  subst h; exact hr_hd hc
set_option maxRecDepth 100000 in
set_option maxHeartbeats 4000000 in
theorem refRead_ok {H0 : AHeap} (s : ByteArray) (hs : s.size ≤ 140737488355328) : ACalls Try.prog 11 [.string s] H0 (fun v H' => ∃ vL, v = .tuple #[.int .u64 ((hrE s : Nat) : Int), vL, .int .i64 ((hrC s : Nat) : Int), .int .u64 ((hrA s : Nat) : Int)] ∧ FreshS segr 6 (hrL s) H0 vL H') := by
  have hF : Wd Fence.wide := .inl rfl
  have hM : Try.prog.follows .mixedOrders = true := by kernel_rfl
  have h28 := lt8 s 32
  have h56 := lt2 s 56
  have s0 := St.begin H0
  refine acalls_st Try.func11 rfl Try.ntmps11 rfl ?_
  refine awp_seq ?_
  refine awp_regs hF ?_
  refine dv (gyes_none rfl) (q_as (v := .int .u64 0) rfl) rfl (by decide) (cok1 (cconst rfl)) ?_
  refine dv (gyes_none rfl) (q_as (v := .slice none 0 0) rfl) rfl (by decide) (cok1 (cconst rfl)) ?_
  refine dv (gyes_none rfl) (q_as (v := .int .i64 0) rfl) rfl (by decide) (cok1 (cconst rfl)) ?_
  refine dv (gyes_none rfl) (q_as (v := .int .u64 0) rfl) rfl (by decide) (cok1 (cconst rfl)) ?_
  refine ⟨_, Wk.refl _ _, ?_⟩
  show awp _ _ _ _ _ _ _
  refine awp_seq ?_
  refine awp_seq ?_
  refine awp_regs hF ?_
  refine dv (gyes_none rfl) (q_mv (v := .string s) rfl) rfl (by decide) (cok1 trivial) ?_
  refine dv (gyes_none rfl) (q_len_str Try.underlying9 rfl) rfl (by decide) (cok1 trivial) ?_
  refine dvb (gyes_none rfl) (q_int rfl rfl rfl) rfl (by decide) (cok2 trivial (cconst rfl)) (fun c1 => ?_) (fun c1 => ?_)
  ·
    replace c1 := of_decide_eq_true c1
    refine ⟨_, Wk.refl _ _, ?_⟩
    show awp _ _ _ _ _ _ _
    refine awp_cond_t rfl ?_
    refine awp_seq ?_
    refine awp_regs hF ?_
    refine dv (gyes_none rfl) (q_as (v := .int .u64 0) rfl) rfl (by decide) (cok1 (cconst rfl)) ?_
    refine dv (gyes_none rfl) (q_as (v := .slice none 0 0) rfl) rfl (by decide) (cok1 (cconst rfl)) ?_
    refine dv (gyes_none rfl) (q_as (v := .int .i64 6) rfl) rfl (by decide) (cok1 (cconst rfl)) ?_
    refine dv (gyes_none rfl) (q_as (v := .int .u64 0) rfl) rfl (by decide) (cok1 (cconst rfl)) ?_
    refine ⟨_, Wk.refl _ _, ?_⟩
    show awp _ _ _ _ _ _ _
    refine awp_nil s0 3 6 rfl (fun b1 H2 hb4 s3 => ?_)
    refine awp_ret_wk ?_
    obtain ⟨e1, e2, e3, e4, e5⟩ := hr_hdE (hd_big (s := s) (by omega)) (by decide)
    refine ⟨_, Wk.refl _ _, ?_⟩
    repeat (with_reducible first | refine then_ret ?_ | refine blk_ret ?_ | refine then_exit ?_ | refine blk_exit ?_ | refine blk_exit' (by decide) ?_ | refine blk_normal ?_ | refine then_normal ?_ | refine retq_ret ?_ | refine retq_normal ?_ | refine ng_normal ?_ | refine ng_ret ?_ | refine ng_exit ?_)
    refine ret_is (v := .tuple #[.int .u64 0, .slice (some ⟨b1, 0, none⟩) 0 0, .int .i64 6, .int .u64 0]) rfl (.tmp rfl (.tmp rfl (.tmp rfl (.tmp rfl .nil)))) rfl ?_
    exact ⟨_, by rw [e1, e2, e3]; first | done | rfl, freshS_of (l := []) s3 (j := 0) rfl rfl e5⟩
  ·
    replace c1 := of_decide_eq_false c1
    refine ⟨_, Wk.refl _ _, ?_⟩
    show awp _ _ _ _ _ _ _
    refine awp_cond_f rfl ?_
    refine awp_skip_wk ?_
    refine ⟨_, Wk.refl _ _, ?_⟩
    show awp _ _ _ _ _ _ _
    refine awp_seq ?_
    refine awp_seq ?_
    refine awp_regs hF ?_
    refine dv (gyes_none rfl) (q_mv (v := .string s) rfl) rfl (by decide) (cok1 trivial) ?_
    refine dv (gyes_none rfl) (q_len_str Try.underlying9 rfl) rfl (by decide) (cok1 trivial) ?_
    refine dvb (gyes_none rfl) (q_int rfl rfl rfl) rfl (by decide) (cok2 trivial (cconst rfl)) (fun c2 => ?_) (fun c2 => ?_)
    ·
      replace c2 := of_decide_eq_true c2
      refine ⟨_, Wk.refl _ _, ?_⟩
      show awp _ _ _ _ _ _ _
      refine awp_cond_t rfl ?_
      refine awp_seq ?_
      refine awp_regs hF ?_
      refine dv (gyes_none rfl) (q_as (v := .int .u64 0) rfl) rfl (by decide) (cok1 (cconst rfl)) ?_
      refine dv (gyes_none rfl) (q_as (v := .slice none 0 0) rfl) rfl (by decide) (cok1 (cconst rfl)) ?_
      refine dv (gyes_none rfl) (q_as (v := .int .i64 2) rfl) rfl (by decide) (cok1 (cconst rfl)) ?_
      refine dv (gyes_none rfl) (q_as (v := .int .u64 0) rfl) rfl (by decide) (cok1 (cconst rfl)) ?_
      refine ⟨_, Wk.refl _ _, ?_⟩
      show awp _ _ _ _ _ _ _
      refine awp_nil s0 3 6 rfl (fun b5 H6 hb8 s7 => ?_)
      refine awp_ret_wk ?_
      obtain ⟨e1, e2, e3, e4, e5⟩ := hr_hdE (hd_short (s := s) (by omega)) (by decide)
      refine ⟨_, Wk.refl _ _, ?_⟩
      repeat (with_reducible first | refine then_ret ?_ | refine blk_ret ?_ | refine then_exit ?_ | refine blk_exit ?_ | refine blk_exit' (by decide) ?_ | refine blk_normal ?_ | refine then_normal ?_ | refine retq_ret ?_ | refine retq_normal ?_ | refine ng_normal ?_ | refine ng_ret ?_ | refine ng_exit ?_)
      refine ret_is (v := .tuple #[.int .u64 0, .slice (some ⟨b5, 0, none⟩) 0 0, .int .i64 2, .int .u64 0]) rfl (.tmp rfl (.tmp rfl (.tmp rfl (.tmp rfl .nil)))) rfl ?_
      exact ⟨_, by rw [e1, e2, e3]; first | done | rfl, freshS_of (l := []) s7 (j := 0) rfl rfl e5⟩
    ·
      replace c2 := of_decide_eq_false c2
      refine ⟨_, Wk.refl _ _, ?_⟩
      show awp _ _ _ _ _ _ _
      refine awp_cond_f rfl ?_
      refine awp_skip_wk ?_
      refine ⟨_, Wk.refl _ _, ?_⟩
      show awp _ _ _ _ _ _ _
      refine awp_seq ?_
      refine awp_seq ?_
      refine awp_regs hF ?_
      refine dv (gyes_none rfl) (q_mv (v := .string s) rfl) rfl (by decide) (cok1 trivial) ?_
      refine dv (gyes_none rfl) (q_substr (i := 0) (j := 7) Try.underlying9 rfl rfl ⟨_, rfl⟩ (by omega) (by omega)) rfl (by decide) (cok2 trivial (cconst rfl)) ?_
      refine dvb (gyes_none rfl) (q_strne rfl rfl) rfl (by decide) (cok2 trivial (cconst rfl)) (fun c3 => ?_) (fun c3 => ?_)
      ·
        replace c3 := (Bool.not_eq_true' _).mp c3
        replace c3 := of_decide_eq_false c3
        have h3 := c3
        refine ⟨_, Wk.refl _ _, ?_⟩
        show awp _ _ _ _ _ _ _
        refine awp_cond_t rfl ?_
        refine awp_seq ?_
        refine awp_regs hF ?_
        refine dv (gyes_none rfl) (q_as (v := .int .u64 0) rfl) rfl (by decide) (cok1 (cconst rfl)) ?_
        refine dv (gyes_none rfl) (q_as (v := .slice none 0 0) rfl) rfl (by decide) (cok1 (cconst rfl)) ?_
        refine dv (gyes_none rfl) (q_as (v := .int .i64 3) rfl) rfl (by decide) (cok1 (cconst rfl)) ?_
        refine dv (gyes_none rfl) (q_as (v := .int .u64 0) rfl) rfl (by decide) (cok1 (cconst rfl)) ?_
        refine ⟨_, Wk.refl _ _, ?_⟩
        show awp _ _ _ _ _ _ _
        refine awp_nil s0 3 6 rfl (fun b9 H10 hb12 s11 => ?_)
        refine awp_ret_wk ?_
        obtain ⟨e1, e2, e3, e4, e5⟩ := hr_hdE (hd_magic (s := s) (by omega) (by omega) h3) (by decide)
        refine ⟨_, Wk.refl _ _, ?_⟩
        repeat (with_reducible first | refine then_ret ?_ | refine blk_ret ?_ | refine then_exit ?_ | refine blk_exit ?_ | refine blk_exit' (by decide) ?_ | refine blk_normal ?_ | refine then_normal ?_ | refine retq_ret ?_ | refine retq_normal ?_ | refine ng_normal ?_ | refine ng_ret ?_ | refine ng_exit ?_)
        refine ret_is (v := .tuple #[.int .u64 0, .slice (some ⟨b9, 0, none⟩) 0 0, .int .i64 3, .int .u64 0]) rfl (.tmp rfl (.tmp rfl (.tmp rfl (.tmp rfl .nil)))) rfl ?_
        exact ⟨_, by rw [e1, e2, e3]; first | done | rfl, freshS_of (l := []) s11 (j := 0) rfl rfl e5⟩
      ·
        replace c3 := (Bool.not_eq_false' _).mp c3
        replace c3 := of_decide_eq_true c3
        have h3 := c3
        refine ⟨_, Wk.refl _ _, ?_⟩
        show awp _ _ _ _ _ _ _
        refine awp_cond_f rfl ?_
        refine awp_skip_wk ?_
        refine ⟨_, Wk.refl _ _, ?_⟩
        show awp _ _ _ _ _ _ _
        refine awp_seq ?_
        refine awp_seq ?_
        refine awp_regs hF ?_
        refine dv (gyes_none rfl) (q_mv (v := .string s) rfl) rfl (by decide) (cok1 trivial) ?_
        refine dv (gyes_none rfl) (q_call0 Try.call33 rfl (refAt_ok s 16 2 hs (by omega) (by omega))) rfl (by decide) (call_ok rfl) ?_
        refine dvb (gyes_none rfl) (q_int rfl rfl rfl) rfl (by decide) (cok2 trivial (cconst rfl)) (fun c4 => ?_) (fun c4 => ?_)
        ·
          replace c4 := bne_iff_ne.1 c4
          refine dv (gyes_none rfl) (q_mv (v := .bool true) rfl) rfl (by decide) (cok1 trivial) ?_
          refine dno rfl (.inl rfl) rfl (by decide) ?_
          refine dno rfl (.inl rfl) rfl (by decide) ?_
          refine dno rfl (.inl rfl) rfl (by decide) ?_
          refine dv (gyes_none rfl) (q_pt (v := .bool true) rfl rfl) rfl (by decide) (call_ok rfl) ?_
          refine dv (gyes_none rfl) (q_mv (v := .bool true) rfl) rfl (by decide) (cok1 trivial) ?_
          refine dno rfl (.inl rfl) rfl (by decide) ?_
          refine dno rfl (.inl rfl) rfl (by decide) ?_
          refine dno rfl (.inl rfl) rfl (by decide) ?_
          refine dv (gyes_none rfl) (q_pt (v := .bool true) rfl rfl) rfl (by decide) (call_ok rfl) ?_
          refine dv (gyes_none rfl) (q_mv (v := .bool true) rfl) rfl (by decide) (cok1 trivial) ?_
          refine dno rfl (.inl rfl) rfl (by decide) ?_
          refine dno rfl (.inl rfl) rfl (by decide) ?_
          refine dno rfl (.inl rfl) rfl (by decide) ?_
          refine dv (gyes_none rfl) (q_pt (v := .bool true) rfl rfl) rfl (by decide) (call_ok rfl) ?_
          refine dv (gyes_none rfl) (q_mv (v := .bool true) rfl) rfl (by decide) (cok1 trivial) ?_
          refine dno rfl (.inl rfl) rfl (by decide) ?_
          refine dno rfl (.inl rfl) rfl (by decide) ?_
          refine dno rfl (.inl rfl) rfl (by decide) ?_
          refine dv (gyes_none rfl) (q_pt (v := .bool true) rfl rfl) rfl (by decide) (call_ok rfl) ?_
          refine ⟨_, Wk.refl _ _, ?_⟩
          show awp _ _ _ _ _ _ _
          refine awp_cond_t rfl ?_
          refine awp_seq ?_
          refine awp_regs hF ?_
          refine dv (gyes_none rfl) (q_as (v := .int .u64 0) rfl) rfl (by decide) (cok1 (cconst rfl)) ?_
          refine dv (gyes_none rfl) (q_as (v := .slice none 0 0) rfl) rfl (by decide) (cok1 (cconst rfl)) ?_
          refine dv (gyes_none rfl) (q_as (v := .int .i64 4) rfl) rfl (by decide) (cok1 (cconst rfl)) ?_
          refine dv (gyes_none rfl) (q_as (v := .int .u64 0) rfl) rfl (by decide) (cok1 (cconst rfl)) ?_
          refine ⟨_, Wk.refl _ _, ?_⟩
          show awp _ _ _ _ _ _ _
          refine awp_nil s0 3 6 rfl (fun b13 H14 hb16 s15 => ?_)
          refine awp_ret_wk ?_
          obtain ⟨e1, e2, e3, e4, e5⟩ := hr_hdE (hd_form (s := s) (by omega) (by omega) h3 (fun h => by have := hForm5' h; omega)) (by decide)
          refine ⟨_, Wk.refl _ _, ?_⟩
          repeat (with_reducible first | refine then_ret ?_ | refine blk_ret ?_ | refine then_exit ?_ | refine blk_exit ?_ | refine blk_exit' (by decide) ?_ | refine blk_normal ?_ | refine then_normal ?_ | refine retq_ret ?_ | refine retq_normal ?_ | refine ng_normal ?_ | refine ng_ret ?_ | refine ng_exit ?_)
          refine ret_is (v := .tuple #[.int .u64 0, .slice (some ⟨b13, 0, none⟩) 0 0, .int .i64 4, .int .u64 0]) rfl (.tmp rfl (.tmp rfl (.tmp rfl (.tmp rfl .nil)))) rfl ?_
          exact ⟨_, by rw [e1, e2, e3]; first | done | rfl, freshS_of (l := []) s15 (j := 0) rfl rfl e5⟩
        ·
          replace c4 := bne_eq_false_iff_eq.1 c4
          refine dv (gyes_none rfl) (q_mv (v := .bool false) rfl) rfl (by decide) (cok1 trivial) ?_
          refine dv (gyes_some rfl rfl) (q_mv (v := .string s) rfl) rfl (by decide) (cok1 trivial) ?_
          refine dv (gyes_some rfl rfl) (q_call0 Try.call33 rfl (refAt_ok s 18 2 hs (by omega) (by omega))) rfl (by decide) (call_ok rfl) ?_
          refine dvb (gyes_some rfl rfl) (q_int rfl rfl rfl) rfl (by decide) (cok2 trivial (cconst rfl)) (fun c5 => ?_) (fun c5 => ?_)
          ·
            replace c5 := bne_iff_ne.1 c5
            refine dv (gyes_none rfl) (q_pf (v := .bool true) rfl rfl) rfl (by decide) (call_ok rfl) ?_
            refine dv (gyes_none rfl) (q_mv (v := .bool true) rfl) rfl (by decide) (cok1 trivial) ?_
            refine dno rfl (.inl rfl) rfl (by decide) ?_
            refine dno rfl (.inl rfl) rfl (by decide) ?_
            refine dno rfl (.inl rfl) rfl (by decide) ?_
            refine dv (gyes_none rfl) (q_pt (v := .bool true) rfl rfl) rfl (by decide) (call_ok rfl) ?_
            refine dv (gyes_none rfl) (q_mv (v := .bool true) rfl) rfl (by decide) (cok1 trivial) ?_
            refine dno rfl (.inl rfl) rfl (by decide) ?_
            refine dno rfl (.inl rfl) rfl (by decide) ?_
            refine dno rfl (.inl rfl) rfl (by decide) ?_
            refine dv (gyes_none rfl) (q_pt (v := .bool true) rfl rfl) rfl (by decide) (call_ok rfl) ?_
            refine dv (gyes_none rfl) (q_mv (v := .bool true) rfl) rfl (by decide) (cok1 trivial) ?_
            refine dno rfl (.inl rfl) rfl (by decide) ?_
            refine dno rfl (.inl rfl) rfl (by decide) ?_
            refine dno rfl (.inl rfl) rfl (by decide) ?_
            refine dv (gyes_none rfl) (q_pt (v := .bool true) rfl rfl) rfl (by decide) (call_ok rfl) ?_
            refine ⟨_, Wk.refl _ _, ?_⟩
            show awp _ _ _ _ _ _ _
            refine awp_cond_t rfl ?_
            refine awp_seq ?_
            refine awp_regs hF ?_
            refine dv (gyes_none rfl) (q_as (v := .int .u64 0) rfl) rfl (by decide) (cok1 (cconst rfl)) ?_
            refine dv (gyes_none rfl) (q_as (v := .slice none 0 0) rfl) rfl (by decide) (cok1 (cconst rfl)) ?_
            refine dv (gyes_none rfl) (q_as (v := .int .i64 4) rfl) rfl (by decide) (cok1 (cconst rfl)) ?_
            refine dv (gyes_none rfl) (q_as (v := .int .u64 0) rfl) rfl (by decide) (cok1 (cconst rfl)) ?_
            refine ⟨_, Wk.refl _ _, ?_⟩
            show awp _ _ _ _ _ _ _
            refine awp_nil s0 3 6 rfl (fun b17 H18 hb20 s19 => ?_)
            refine awp_ret_wk ?_
            obtain ⟨e1, e2, e3, e4, e5⟩ := hr_hdE (hd_form (s := s) (by omega) (by omega) h3 (fun h => by have := hForm5' h; omega)) (by decide)
            refine ⟨_, Wk.refl _ _, ?_⟩
            repeat (with_reducible first | refine then_ret ?_ | refine blk_ret ?_ | refine then_exit ?_ | refine blk_exit ?_ | refine blk_exit' (by decide) ?_ | refine blk_normal ?_ | refine then_normal ?_ | refine retq_ret ?_ | refine retq_normal ?_ | refine ng_normal ?_ | refine ng_ret ?_ | refine ng_exit ?_)
            refine ret_is (v := .tuple #[.int .u64 0, .slice (some ⟨b17, 0, none⟩) 0 0, .int .i64 4, .int .u64 0]) rfl (.tmp rfl (.tmp rfl (.tmp rfl (.tmp rfl .nil)))) rfl ?_
            exact ⟨_, by rw [e1, e2, e3]; first | done | rfl, freshS_of (l := []) s19 (j := 0) rfl rfl e5⟩
          ·
            replace c5 := bne_eq_false_iff_eq.1 c5
            refine dv (gyes_none rfl) (q_pf (v := .bool false) rfl rfl) rfl (by decide) (call_ok rfl) ?_
            refine dv (gyes_none rfl) (q_mv (v := .bool false) rfl) rfl (by decide) (cok1 trivial) ?_
            refine dv (gyes_some rfl rfl) (q_mv (v := .string s) rfl) rfl (by decide) (cok1 trivial) ?_
            refine dv (gyes_some rfl rfl) (q_call0 Try.call33 rfl (refAt_ok s 20 4 hs (by omega) (by omega))) rfl (by decide) (call_ok rfl) ?_
            refine dvb (gyes_some rfl rfl) (q_int rfl rfl rfl) rfl (by decide) (cok2 trivial (cconst rfl)) (fun c6 => ?_) (fun c6 => ?_)
            ·
              replace c6 := bne_iff_ne.1 c6
              refine dv (gyes_none rfl) (q_pf (v := .bool true) rfl rfl) rfl (by decide) (call_ok rfl) ?_
              refine dv (gyes_none rfl) (q_mv (v := .bool true) rfl) rfl (by decide) (cok1 trivial) ?_
              refine dno rfl (.inl rfl) rfl (by decide) ?_
              refine dno rfl (.inl rfl) rfl (by decide) ?_
              refine dno rfl (.inl rfl) rfl (by decide) ?_
              refine dv (gyes_none rfl) (q_pt (v := .bool true) rfl rfl) rfl (by decide) (call_ok rfl) ?_
              refine dv (gyes_none rfl) (q_mv (v := .bool true) rfl) rfl (by decide) (cok1 trivial) ?_
              refine dno rfl (.inl rfl) rfl (by decide) ?_
              refine dno rfl (.inl rfl) rfl (by decide) ?_
              refine dno rfl (.inl rfl) rfl (by decide) ?_
              refine dv (gyes_none rfl) (q_pt (v := .bool true) rfl rfl) rfl (by decide) (call_ok rfl) ?_
              refine ⟨_, Wk.refl _ _, ?_⟩
              show awp _ _ _ _ _ _ _
              refine awp_cond_t rfl ?_
              refine awp_seq ?_
              refine awp_regs hF ?_
              refine dv (gyes_none rfl) (q_as (v := .int .u64 0) rfl) rfl (by decide) (cok1 (cconst rfl)) ?_
              refine dv (gyes_none rfl) (q_as (v := .slice none 0 0) rfl) rfl (by decide) (cok1 (cconst rfl)) ?_
              refine dv (gyes_none rfl) (q_as (v := .int .i64 4) rfl) rfl (by decide) (cok1 (cconst rfl)) ?_
              refine dv (gyes_none rfl) (q_as (v := .int .u64 0) rfl) rfl (by decide) (cok1 (cconst rfl)) ?_
              refine ⟨_, Wk.refl _ _, ?_⟩
              show awp _ _ _ _ _ _ _
              refine awp_nil s0 3 6 rfl (fun b21 H22 hb24 s23 => ?_)
              refine awp_ret_wk ?_
              obtain ⟨e1, e2, e3, e4, e5⟩ := hr_hdE (hd_form (s := s) (by omega) (by omega) h3 (fun h => by have := hForm5' h; omega)) (by decide)
              refine ⟨_, Wk.refl _ _, ?_⟩
              repeat (with_reducible first | refine then_ret ?_ | refine blk_ret ?_ | refine then_exit ?_ | refine blk_exit ?_ | refine blk_exit' (by decide) ?_ | refine blk_normal ?_ | refine then_normal ?_ | refine retq_ret ?_ | refine retq_normal ?_ | refine ng_normal ?_ | refine ng_ret ?_ | refine ng_exit ?_)
              refine ret_is (v := .tuple #[.int .u64 0, .slice (some ⟨b21, 0, none⟩) 0 0, .int .i64 4, .int .u64 0]) rfl (.tmp rfl (.tmp rfl (.tmp rfl (.tmp rfl .nil)))) rfl ?_
              exact ⟨_, by rw [e1, e2, e3]; first | done | rfl, freshS_of (l := []) s23 (j := 0) rfl rfl e5⟩
            ·
              replace c6 := bne_eq_false_iff_eq.1 c6
              refine dv (gyes_none rfl) (q_pf (v := .bool false) rfl rfl) rfl (by decide) (call_ok rfl) ?_
              refine dv (gyes_none rfl) (q_mv (v := .bool false) rfl) rfl (by decide) (cok1 trivial) ?_
              refine dv (gyes_some rfl rfl) (q_mv (v := .string s) rfl) rfl (by decide) (cok1 trivial) ?_
              refine dv (gyes_some rfl rfl) (q_call0 Try.call33 rfl (refAt_ok s 52 2 hs (by omega) (by omega))) rfl (by decide) (call_ok rfl) ?_
              refine dvb (gyes_some rfl rfl) (q_int rfl rfl rfl) rfl (by decide) (cok2 trivial (cconst rfl)) (fun c7 => ?_) (fun c7 => ?_)
              ·
                replace c7 := bne_iff_ne.1 c7
                refine dv (gyes_none rfl) (q_pf (v := .bool true) rfl rfl) rfl (by decide) (call_ok rfl) ?_
                refine dv (gyes_none rfl) (q_mv (v := .bool true) rfl) rfl (by decide) (cok1 trivial) ?_
                refine dno rfl (.inl rfl) rfl (by decide) ?_
                refine dno rfl (.inl rfl) rfl (by decide) ?_
                refine dno rfl (.inl rfl) rfl (by decide) ?_
                refine dv (gyes_none rfl) (q_pt (v := .bool true) rfl rfl) rfl (by decide) (call_ok rfl) ?_
                refine ⟨_, Wk.refl _ _, ?_⟩
                show awp _ _ _ _ _ _ _
                refine awp_cond_t rfl ?_
                refine awp_seq ?_
                refine awp_regs hF ?_
                refine dv (gyes_none rfl) (q_as (v := .int .u64 0) rfl) rfl (by decide) (cok1 (cconst rfl)) ?_
                refine dv (gyes_none rfl) (q_as (v := .slice none 0 0) rfl) rfl (by decide) (cok1 (cconst rfl)) ?_
                refine dv (gyes_none rfl) (q_as (v := .int .i64 4) rfl) rfl (by decide) (cok1 (cconst rfl)) ?_
                refine dv (gyes_none rfl) (q_as (v := .int .u64 0) rfl) rfl (by decide) (cok1 (cconst rfl)) ?_
                refine ⟨_, Wk.refl _ _, ?_⟩
                show awp _ _ _ _ _ _ _
                refine awp_nil s0 3 6 rfl (fun b25 H26 hb28 s27 => ?_)
                refine awp_ret_wk ?_
                obtain ⟨e1, e2, e3, e4, e5⟩ := hr_hdE (hd_form (s := s) (by omega) (by omega) h3 (fun h => by have := hForm5' h; omega)) (by decide)
                refine ⟨_, Wk.refl _ _, ?_⟩
                repeat (with_reducible first | refine then_ret ?_ | refine blk_ret ?_ | refine then_exit ?_ | refine blk_exit ?_ | refine blk_exit' (by decide) ?_ | refine blk_normal ?_ | refine then_normal ?_ | refine retq_ret ?_ | refine retq_normal ?_ | refine ng_normal ?_ | refine ng_ret ?_ | refine ng_exit ?_)
                refine ret_is (v := .tuple #[.int .u64 0, .slice (some ⟨b25, 0, none⟩) 0 0, .int .i64 4, .int .u64 0]) rfl (.tmp rfl (.tmp rfl (.tmp rfl (.tmp rfl .nil)))) rfl ?_
                exact ⟨_, by rw [e1, e2, e3]; first | done | rfl, freshS_of (l := []) s27 (j := 0) rfl rfl e5⟩
              ·
                replace c7 := bne_eq_false_iff_eq.1 c7
                refine dv (gyes_none rfl) (q_pf (v := .bool false) rfl rfl) rfl (by decide) (call_ok rfl) ?_
                refine dv (gyes_none rfl) (q_mv (v := .bool false) rfl) rfl (by decide) (cok1 trivial) ?_
                refine dv (gyes_some rfl rfl) (q_mv (v := .string s) rfl) rfl (by decide) (cok1 trivial) ?_
                refine dv (gyes_some rfl rfl) (q_call0 Try.call33 rfl (refAt_ok s 54 2 hs (by omega) (by omega))) rfl (by decide) (call_ok rfl) ?_
                refine dvb (gyes_some rfl rfl) (q_int rfl rfl rfl) rfl (by decide) (cok2 trivial (cconst rfl)) (fun c8 => ?_) (fun c8 => ?_)
                ·
                  replace c8 := bne_iff_ne.1 c8
                  refine dv (gyes_none rfl) (q_pf (v := .bool true) rfl rfl) rfl (by decide) (call_ok rfl) ?_
                  refine ⟨_, Wk.refl _ _, ?_⟩
                  show awp _ _ _ _ _ _ _
                  refine awp_cond_t rfl ?_
                  refine awp_seq ?_
                  refine awp_regs hF ?_
                  refine dv (gyes_none rfl) (q_as (v := .int .u64 0) rfl) rfl (by decide) (cok1 (cconst rfl)) ?_
                  refine dv (gyes_none rfl) (q_as (v := .slice none 0 0) rfl) rfl (by decide) (cok1 (cconst rfl)) ?_
                  refine dv (gyes_none rfl) (q_as (v := .int .i64 4) rfl) rfl (by decide) (cok1 (cconst rfl)) ?_
                  refine dv (gyes_none rfl) (q_as (v := .int .u64 0) rfl) rfl (by decide) (cok1 (cconst rfl)) ?_
                  refine ⟨_, Wk.refl _ _, ?_⟩
                  show awp _ _ _ _ _ _ _
                  refine awp_nil s0 3 6 rfl (fun b29 H30 hb32 s31 => ?_)
                  refine awp_ret_wk ?_
                  obtain ⟨e1, e2, e3, e4, e5⟩ := hr_hdE (hd_form (s := s) (by omega) (by omega) h3 (fun h => by have := hForm5' h; omega)) (by decide)
                  refine ⟨_, Wk.refl _ _, ?_⟩
                  repeat (with_reducible first | refine then_ret ?_ | refine blk_ret ?_ | refine then_exit ?_ | refine blk_exit ?_ | refine blk_exit' (by decide) ?_ | refine blk_normal ?_ | refine then_normal ?_ | refine retq_ret ?_ | refine retq_normal ?_ | refine ng_normal ?_ | refine ng_ret ?_ | refine ng_exit ?_)
                  refine ret_is (v := .tuple #[.int .u64 0, .slice (some ⟨b29, 0, none⟩) 0 0, .int .i64 4, .int .u64 0]) rfl (.tmp rfl (.tmp rfl (.tmp rfl (.tmp rfl .nil)))) rfl ?_
                  exact ⟨_, by rw [e1, e2, e3]; first | done | rfl, freshS_of (l := []) s31 (j := 0) rfl rfl e5⟩
                ·
                  replace c8 := bne_eq_false_iff_eq.1 c8
                  refine dv (gyes_none rfl) (q_pf (v := .bool false) rfl rfl) rfl (by decide) (call_ok rfl) ?_
                  refine ⟨_, Wk.refl _ _, ?_⟩
                  show awp _ _ _ _ _ _ _
                  refine awp_cond_f rfl ?_
                  refine awp_skip_wk ?_
                  refine ⟨_, Wk.refl _ _, ?_⟩
                  show awp _ _ _ _ _ _ _
                  refine awp_seq ?_
                  refine awp_regs hF ?_
                  refine dv (gyes_none rfl) (q_mv (v := .string s) rfl) rfl (by decide) (cok1 trivial) ?_
                  refine dv (gyes_none rfl) (q_call0 Try.call33 rfl (refAt_ok s 56 2 hs (by omega) (by omega))) rfl (by decide) (call_ok rfl) ?_
                  refine dv (gyes_none rfl) (q_convin (a := ((atV s 56 2 : Nat) : Int)) Try.underlying25 Try.underlying3 rfl (i64_in (by omega))) rfl (by decide) (cok1 trivial) ?_
                  refine dv (gyes_none rfl) (q_mv (v := .string s) rfl) rfl (by decide) (cok1 trivial) ?_
                  refine dv (gyes_none rfl) (q_call0 Try.call33 rfl (refAt_ok s 32 8 hs (by omega) (by omega))) rfl (by decide) (call_ok rfl) ?_
                  refine dv (gyes_none rfl) (q_as (v := .int .i64 ((atV s 56 2 : Nat) : Int)) rfl) rfl (by decide) (cok1 trivial) ?_
                  refine dv (gyes_none rfl) (q_as (v := .int .u64 ((atV s 32 8 : Nat) : Int)) rfl) rfl (by decide) (cok1 trivial) ?_
                  refine ⟨_, Wk.refl _ _, ?_⟩
                  show awp _ _ _ _ _ _ _
                  refine awp_seq ?_
                  refine awp_seq ?_
                  refine awp_regs hF ?_
                  refine dv (gyes_none rfl) (q_mv (v := .int .i64 ((atV s 56 2 : Nat) : Int)) rfl) rfl (by decide) (cok1 trivial) ?_
                  refine dvb (gyes_none rfl) (q_int rfl rfl rfl) rfl (by decide) (cok2 trivial (cconst rfl)) (fun c9 => ?_) (fun c9 => ?_)
                  ·
                    replace c9 := of_decide_eq_true c9
                    refine ⟨_, Wk.refl _ _, ?_⟩
                    show awp _ _ _ _ _ _ _
                    refine awp_cond_t rfl ?_
                    refine awp_seq ?_
                    refine awp_regs hF ?_
                    refine dv (gyes_none rfl) (q_as (v := .int .u64 0) rfl) rfl (by decide) (cok1 (cconst rfl)) ?_
                    refine dv (gyes_none rfl) (q_as (v := .slice none 0 0) rfl) rfl (by decide) (cok1 (cconst rfl)) ?_
                    refine dv (gyes_none rfl) (q_as (v := .int .i64 6) rfl) rfl (by decide) (cok1 (cconst rfl)) ?_
                    refine dv (gyes_none rfl) (q_as (v := .int .u64 0) rfl) rfl (by decide) (cok1 (cconst rfl)) ?_
                    refine ⟨_, Wk.refl _ _, ?_⟩
                    show awp _ _ _ _ _ _ _
                    refine awp_nil s0 3 6 rfl (fun b33 H34 hb36 s35 => ?_)
                    refine awp_ret_wk ?_
                    obtain ⟨e1, e2, e3, e4, e5⟩ := hr_hdE (hd_many (s := s) (by omega) (by omega) h3 (hForm5 (s := s) (by omega) (by omega) (by omega) (by omega) (by omega)) (by omega)) (by decide)
                    refine ⟨_, Wk.refl _ _, ?_⟩
                    repeat (with_reducible first | refine then_ret ?_ | refine blk_ret ?_ | refine then_exit ?_ | refine blk_exit ?_ | refine blk_exit' (by decide) ?_ | refine blk_normal ?_ | refine then_normal ?_ | refine retq_ret ?_ | refine retq_normal ?_ | refine ng_normal ?_ | refine ng_ret ?_ | refine ng_exit ?_)
                    refine ret_is (v := .tuple #[.int .u64 0, .slice (some ⟨b33, 0, none⟩) 0 0, .int .i64 6, .int .u64 0]) rfl (.tmp rfl (.tmp rfl (.tmp rfl (.tmp rfl .nil)))) rfl ?_
                    exact ⟨_, by rw [e1, e2, e3]; first | done | rfl, freshS_of (l := []) s35 (j := 0) rfl rfl e5⟩
                  ·
                    replace c9 := of_decide_eq_false c9
                    refine ⟨_, Wk.refl _ _, ?_⟩
                    show awp _ _ _ _ _ _ _
                    refine awp_cond_f rfl ?_
                    refine awp_skip_wk ?_
                    refine ⟨_, Wk.refl _ _, ?_⟩
                    show awp _ _ _ _ _ _ _
                    refine awp_seq ?_
                    refine awp_seq ?_
                    refine awp_regs hF ?_
                    refine dv (gyes_none rfl) (q_mv (v := .int .u64 ((atV s 32 8 : Nat) : Int)) rfl) rfl (by decide) (cok1 trivial) ?_
                    refine dv (gyes_none rfl) (q_mv (v := .string s) rfl) rfl (by decide) (cok1 trivial) ?_
                    refine dv (gyes_none rfl) (q_len_str Try.underlying9 rfl) rfl (by decide) (cok1 trivial) ?_
                    refine dv (gyes_none rfl) (q_convin (a := ((s.size : Nat) : Int)) Try.underlying3 Try.underlying25 rfl (u64_in (by omega))) rfl (by decide) (cok1 trivial) ?_
                    refine dvb (gyes_none rfl) (q_int rfl rfl rfl) rfl (by decide) (cok2 trivial trivial) (fun c10 => ?_) (fun c10 => ?_)
                    ·
                      replace c10 := of_decide_eq_true c10
                      refine dv (gyes_none rfl) (q_mv (v := .bool true) rfl) rfl (by decide) (cok1 trivial) ?_
                      refine dno rfl (.inl rfl) rfl (by decide) ?_
                      refine dno rfl (.inl rfl) rfl (by decide) ?_
                      refine dno rfl (.inl rfl) rfl (by decide) ?_
                      refine dno rfl (.inl rfl) rfl (by decide) ?_
                      refine dno rfl (.inl rfl) rfl (by decide) ?_
                      refine dno rfl (.inl rfl) rfl (by decide) ?_
                      refine dno rfl (.inl rfl) rfl (by decide) ?_
                      refine dno rfl (.inl rfl) rfl (by decide) ?_
                      refine dv (gyes_none rfl) (q_pt (v := .bool true) rfl rfl) rfl (by decide) (call_ok rfl) ?_
                      refine ⟨_, Wk.refl _ _, ?_⟩
                      show awp _ _ _ _ _ _ _
                      refine awp_cond_t rfl ?_
                      refine awp_seq ?_
                      refine awp_regs hF ?_
                      refine dv (gyes_none rfl) (q_as (v := .int .u64 0) rfl) rfl (by decide) (cok1 (cconst rfl)) ?_
                      refine dv (gyes_none rfl) (q_as (v := .slice none 0 0) rfl) rfl (by decide) (cok1 (cconst rfl)) ?_
                      refine dv (gyes_none rfl) (q_as (v := .int .i64 2) rfl) rfl (by decide) (cok1 (cconst rfl)) ?_
                      refine dv (gyes_none rfl) (q_as (v := .int .u64 0) rfl) rfl (by decide) (cok1 (cconst rfl)) ?_
                      refine ⟨_, Wk.refl _ _, ?_⟩
                      show awp _ _ _ _ _ _ _
                      refine awp_nil s0 3 6 rfl (fun b37 H38 hb40 s39 => ?_)
                      refine awp_ret_wk ?_
                      obtain ⟨e1, e2, e3, e4, e5⟩ := hr_hdE (hd_out (s := s) (by omega) (by omega) h3 (hForm5 (s := s) (by omega) (by omega) (by omega) (by omega) (by omega)) (by omega) (by omega)) (by decide)
                      refine ⟨_, Wk.refl _ _, ?_⟩
                      repeat (with_reducible first | refine then_ret ?_ | refine blk_ret ?_ | refine then_exit ?_ | refine blk_exit ?_ | refine blk_exit' (by decide) ?_ | refine blk_normal ?_ | refine then_normal ?_ | refine retq_ret ?_ | refine retq_normal ?_ | refine ng_normal ?_ | refine ng_ret ?_ | refine ng_exit ?_)
                      refine ret_is (v := .tuple #[.int .u64 0, .slice (some ⟨b37, 0, none⟩) 0 0, .int .i64 2, .int .u64 0]) rfl (.tmp rfl (.tmp rfl (.tmp rfl (.tmp rfl .nil)))) rfl ?_
                      exact ⟨_, by rw [e1, e2, e3]; first | done | rfl, freshS_of (l := []) s39 (j := 0) rfl rfl e5⟩
                    ·
                      replace c10 := of_decide_eq_false c10
                      refine dv (gyes_none rfl) (q_mv (v := .bool false) rfl) rfl (by decide) (cok1 trivial) ?_
                      refine dv (gyes_some rfl rfl) (q_mv (v := .int .i64 ((atV s 56 2 : Nat) : Int)) rfl) rfl (by decide) (cok1 trivial) ?_
                      refine dv (gyes_some rfl rfl) (OpQ.cast (v' := .int .i64 ((atV s 56 2 * 56 : Nat) : Int)) (q_int rfl rfl rfl) (congrArg _ ((i64_in (by omega)).trans (by omega)))) rfl (by decide) (cok2 (cconst rfl) trivial) ?_
                      refine dv (gyes_some rfl rfl) (q_mv (v := .string s) rfl) rfl (by decide) (cok1 trivial) ?_
                      refine dv (gyes_some rfl rfl) (q_len_str Try.underlying9 rfl) rfl (by decide) (cok1 trivial) ?_
                      refine dv (gyes_some rfl rfl) (q_mv (v := .int .u64 ((atV s 32 8 : Nat) : Int)) rfl) rfl (by decide) (cok1 trivial) ?_
                      refine dv (gyes_some rfl rfl) (q_convin (a := ((atV s 32 8 : Nat) : Int)) Try.underlying25 Try.underlying3 rfl (i64_in (by omega))) rfl (by decide) (cok1 trivial) ?_
                      refine dv (gyes_some rfl rfl) (OpQ.cast (v' := .int .i64 (((s.size : Nat) : Int) - ((atV s 32 8 : Nat) : Int))) (q_int rfl rfl rfl) (congrArg _ (i64_in (by omega)))) rfl (by decide) (cok2 trivial trivial) ?_
                      refine dvb (gyes_some rfl rfl) (q_int rfl rfl rfl) rfl (by decide) (cok2 trivial trivial) (fun c11 => ?_) (fun c11 => ?_)
                      ·
                        replace c11 := of_decide_eq_true c11
                        refine dv (gyes_none rfl) (q_pf (v := .bool true) rfl rfl) rfl (by decide) (call_ok rfl) ?_
                        refine ⟨_, Wk.refl _ _, ?_⟩
                        show awp _ _ _ _ _ _ _
                        refine awp_cond_t rfl ?_
                        refine awp_seq ?_
                        refine awp_regs hF ?_
                        refine dv (gyes_none rfl) (q_as (v := .int .u64 0) rfl) rfl (by decide) (cok1 (cconst rfl)) ?_
                        refine dv (gyes_none rfl) (q_as (v := .slice none 0 0) rfl) rfl (by decide) (cok1 (cconst rfl)) ?_
                        refine dv (gyes_none rfl) (q_as (v := .int .i64 2) rfl) rfl (by decide) (cok1 (cconst rfl)) ?_
                        refine dv (gyes_none rfl) (q_as (v := .int .u64 0) rfl) rfl (by decide) (cok1 (cconst rfl)) ?_
                        refine ⟨_, Wk.refl _ _, ?_⟩
                        show awp _ _ _ _ _ _ _
                        refine awp_nil s0 3 6 rfl (fun b41 H42 hb44 s43 => ?_)
                        refine awp_ret_wk ?_
                        obtain ⟨e1, e2, e3, e4, e5⟩ := hr_hdE (hd_out (s := s) (by omega) (by omega) h3 (hForm5 (s := s) (by omega) (by omega) (by omega) (by omega) (by omega)) (by omega) (by omega)) (by decide)
                        refine ⟨_, Wk.refl _ _, ?_⟩
                        repeat (with_reducible first | refine then_ret ?_ | refine blk_ret ?_ | refine then_exit ?_ | refine blk_exit ?_ | refine blk_exit' (by decide) ?_ | refine blk_normal ?_ | refine then_normal ?_ | refine retq_ret ?_ | refine retq_normal ?_ | refine ng_normal ?_ | refine ng_ret ?_ | refine ng_exit ?_)
                        refine ret_is (v := .tuple #[.int .u64 0, .slice (some ⟨b41, 0, none⟩) 0 0, .int .i64 2, .int .u64 0]) rfl (.tmp rfl (.tmp rfl (.tmp rfl (.tmp rfl .nil)))) rfl ?_
                        exact ⟨_, by rw [e1, e2, e3]; first | done | rfl, freshS_of (l := []) s43 (j := 0) rfl rfl e5⟩
                      ·
                        replace c11 := of_decide_eq_false c11
                        refine dv (gyes_none rfl) (q_pf (v := .bool false) rfl rfl) rfl (by decide) (call_ok rfl) ?_
                        refine ⟨_, Wk.refl _ _, ?_⟩
                        show awp _ _ _ _ _ _ _
                        refine awp_cond_f rfl ?_
                        refine awp_skip_wk ?_
                        refine ⟨_, Wk.refl _ _, ?_⟩
                        show awp _ _ _ _ _ _ _
                        refine awp_seq ?_
                        have h4 := hForm5 (s := s) (by omega) (by omega) (by omega) (by omega) (by omega)
                        have hd0 := hd_ok (s := s) (by omega) (by omega) h3 h4 (by omega) (by omega)
                        have hN : hdN s = atV s 56 2 := if_pos hd0
                        refine awp_regs hF ?_
                        refine dv (gyes_none rfl) (q_as (v := .slice none 0 0) rfl) rfl (by decide) (cok1 (cconst rfl)) ?_
                        refine ⟨_, Wk.refl _ _, ?_⟩
                        show awp _ _ _ _ _ _ _
                        refine awp_seq ?_
                        refine awp_regs hF ?_
                        refine dv (gyes_none rfl) (q_as (v := .int .u64 0) rfl) rfl (by decide) (cok1 (cconst rfl)) ?_
                        refine ⟨_, Wk.refl _ _, ?_⟩
                        show awp _ _ _ _ _ _ _
                        refine awp_seq ?_
                        refine awp_regs hF ?_
                        refine dv (gyes_none rfl) (q_as (v := .int .i64 0) rfl) rfl (by decide) (cok1 (cconst rfl)) ?_
                        refine ⟨_, Wk.refl _ _, ?_⟩
                        show awp _ _ _ _ _ _ _
                        refine awp_seq ?_
                        refine awp_seq ?_
                        refine awp_regs hF ?_
                        refine dv (gyes_none rfl) (q_as (v := .int .i64 0) rfl) rfl (by decide) (cok1 (cconst rfl)) ?_
                        refine ⟨_, Wk.refl _ _, ?_⟩
                        show awp _ _ _ _ _ _ _
                        refine awp_block ?_
                        refine awp_nil s0 8 6 rfl (fun b45 H46 hb48 s47 => ?_)
                        refine awp_wk (Wk.U [(0, .string s), (6, .int .i64 ((atV s 56 2 : Nat) : Int)), (7, .int .u64 ((atV s 32 8 : Nat) : Int)), (8, .slice (some ⟨b45, 0, none⟩) 0 0), (9, .int .u64 0), (10, .int .i64 0), (11, .int .i64 0)] ⟨rfl, rfl, rfl, rfl, rfl, rfl, rfl, trivial⟩) ?_
                        refine awp_loop (fun ((i, e, ld) : Nat × Nat × Nat) st => ∃ (H49 : AHeap) (bl : Nat), st = ⟨191, U [(0, .string s), (6, .int .i64 ((atV s 56 2 : Nat) : Int)), (7, .int .u64 ((atV s 32 8 : Nat) : Int)), (8, .slice (some ⟨bl, 0, none⟩) i i), (9, .int .u64 ((e : Nat) : Int)), (10, .int .i64 ((ld : Nat) : Int)), (11, .int .i64 ((i : Nat) : Int))], [], H49⟩ ∧ St H0 (none0) (Rd H0) H49 [(bl, .cells true (fl segr (lsK s i)) 6)] ∧ (∀ j, j < i → badK s j = false) ∧ (i ≤ atV s 56 2) ∧ (e = endK s i) ∧ (ld = ldK s i ∧ ld ≤ i)) (fun ((i, e, ld) : Nat × Nat × Nat) => atV s 56 2 - i) (x0 := (0, 0, 0)) ?h0 ?round
                        case h0 =>
                          exact ⟨_, _, rfl, s47, fun j h => absurd h (Nat.not_lt_zero _), Nat.zero_le _, rfl, ⟨rfl, Nat.le_refl _⟩⟩
                        case round =>
                          rintro ⟨i, e, ld⟩ _ ⟨H49, bl, rfl, s50, hi, hkn, he, hld⟩
                          dsimp only at *
                          refine awp_seq ?_
                          refine awp_seq ?_
                          refine awp_regs hF ?_
                          refine dv (gyes_none rfl) (q_mv (v := .int .i64 ((i : Nat) : Int)) rfl) rfl (by decide) (cok1 trivial) ?_
                          refine dv (gyes_none rfl) (q_mv (v := .int .i64 ((atV s 56 2 : Nat) : Int)) rfl) rfl (by decide) (cok1 trivial) ?_
                          refine dvb (gyes_none rfl) (q_int rfl rfl rfl) rfl (by decide) (cok2 trivial trivial) (fun c12 => ?_) (fun c12 => ?_)
                          ·
                            replace c12 := of_decide_eq_true c12
                            refine ⟨_, Wk.refl _ _, ?_⟩
                            show awp _ _ _ _ _ _ _
                            refine awp_cond_t rfl ?_
                            refine awp_skip_wk ?_
                            refine ⟨_, Wk.refl _ _, ?_⟩
                            show awp _ _ _ _ _ _ _
                            refine awp_seq ?_
                            refine awp_block ?_
                            refine awp_seq ?_
                            refine awp_regs hF ?_
                            refine dv (gyes_none rfl) (q_mv (v := .int .u64 ((atV s 32 8 : Nat) : Int)) rfl) rfl (by decide) (cok1 trivial) ?_
                            refine dv (gyes_none rfl) (q_convin (a := ((atV s 32 8 : Nat) : Int)) Try.underlying25 Try.underlying3 rfl (i64_in (by omega))) rfl (by decide) (cok1 trivial) ?_
                            refine dv (gyes_none rfl) (q_mv (v := .int .i64 ((i : Nat) : Int)) rfl) rfl (by decide) (cok1 trivial) ?_
                            refine dv (gyes_none rfl) (OpQ.cast (v' := .int .i64 ((i * 56 : Nat) : Int)) (q_int rfl rfl rfl) (congrArg _ ((i64_in (by omega)).trans (by omega)))) rfl (by decide) (cok2 (cconst rfl) trivial) ?_
                            refine dv (gyes_none rfl) (OpQ.cast (v' := .int .i64 ((atV s 32 8 + (i * 56) : Nat) : Int)) (q_int rfl rfl rfl) (congrArg _ ((i64_in (by omega)).trans (by first | rfl | omega | (push_cast; rfl))))) rfl (by decide) (cok2 trivial trivial) ?_
                            refine dv (gyes_none rfl) (q_as (v := .int .i64 ((atV s 32 8 + (i * 56) : Nat) : Int)) rfl) rfl (by decide) (cok1 trivial) ?_
                            refine ⟨_, Wk.refl _ _, ?_⟩
                            show awp _ _ _ _ _ _ _
                            refine awp_seq ?_
                            refine awp_regs hF ?_
                            refine dv (gyes_none rfl) (q_mv (v := .string s) rfl) rfl (by decide) (cok1 trivial) ?_
                            refine dv (gyes_none rfl) (q_mv (v := .int .i64 ((atV s 32 8 + (i * 56) : Nat) : Int)) rfl) rfl (by decide) (cok1 trivial) ?_
                            refine dv (gyes_none rfl) (q_call0 Try.call33 rfl (refAt_ok s (atV s 32 8 + (i * 56)) 4 hs (by omega) (by omega))) rfl (by decide) (call_ok rfl) ?_
                            refine dv (gyes_none rfl) (q_mv (v := .string s) rfl) rfl (by decide) (cok1 trivial) ?_
                            refine dv (gyes_none rfl) (q_mv (v := .int .i64 ((atV s 32 8 + (i * 56) : Nat) : Int)) rfl) rfl (by decide) (cok1 trivial) ?_
                            refine dv (gyes_none rfl) (OpQ.cast (v' := .int .i64 ((atV s 32 8 + (i * 56) + 4 : Nat) : Int)) (q_int rfl rfl rfl) (congrArg _ ((i64_in (by omega)).trans (by first | rfl | omega | (push_cast; rfl))))) rfl (by decide) (cok2 trivial (cconst rfl)) ?_
                            refine dv (gyes_none rfl) (q_call0 Try.call33 rfl (refAt_ok s (atV s 32 8 + (i * 56) + 4) 4 hs (by omega) (by omega))) rfl (by decide) (call_ok rfl) ?_
                            refine dv (gyes_none rfl) (q_remM (a := (atV s (atV s 32 8 + (i * 56) + 4) 4)) (b := 8) rfl rfl (by first | decide | omega)) rfl (by decide) (cok2 trivial (cconst rfl)) ?_
                            refine dv (gyes_none rfl) (q_mv (v := .string s) rfl) rfl (by decide) (cok1 trivial) ?_
                            refine dv (gyes_none rfl) (q_mv (v := .int .i64 ((atV s 32 8 + (i * 56) : Nat) : Int)) rfl) rfl (by decide) (cok1 trivial) ?_
                            refine dv (gyes_none rfl) (OpQ.cast (v' := .int .i64 ((atV s 32 8 + (i * 56) + 8 : Nat) : Int)) (q_int rfl rfl rfl) (congrArg _ ((i64_in (by omega)).trans (by first | rfl | omega | (push_cast; rfl))))) rfl (by decide) (cok2 trivial (cconst rfl)) ?_
                            refine dv (gyes_none rfl) (q_call0 Try.call33 rfl (refAt_ok s (atV s 32 8 + (i * 56) + 8) 8 hs (by omega) (by omega))) rfl (by decide) (call_ok rfl) ?_
                            refine dv (gyes_none rfl) (q_mv (v := .string s) rfl) rfl (by decide) (cok1 trivial) ?_
                            refine dv (gyes_none rfl) (q_mv (v := .int .i64 ((atV s 32 8 + (i * 56) : Nat) : Int)) rfl) rfl (by decide) (cok1 trivial) ?_
                            refine dv (gyes_none rfl) (OpQ.cast (v' := .int .i64 ((atV s 32 8 + (i * 56) + 16 : Nat) : Int)) (q_int rfl rfl rfl) (congrArg _ ((i64_in (by omega)).trans (by first | rfl | omega | (push_cast; rfl))))) rfl (by decide) (cok2 trivial (cconst rfl)) ?_
                            refine dv (gyes_none rfl) (q_call0 Try.call33 rfl (refAt_ok s (atV s 32 8 + (i * 56) + 16) 8 hs (by omega) (by omega))) rfl (by decide) (call_ok rfl) ?_
                            refine dv (gyes_none rfl) (q_mv (v := .string s) rfl) rfl (by decide) (cok1 trivial) ?_
                            refine dv (gyes_none rfl) (q_mv (v := .int .i64 ((atV s 32 8 + (i * 56) : Nat) : Int)) rfl) rfl (by decide) (cok1 trivial) ?_
                            refine dv (gyes_none rfl) (OpQ.cast (v' := .int .i64 ((atV s 32 8 + (i * 56) + 32 : Nat) : Int)) (q_int rfl rfl rfl) (congrArg _ ((i64_in (by omega)).trans (by first | rfl | omega | (push_cast; rfl))))) rfl (by decide) (cok2 trivial (cconst rfl)) ?_
                            refine dv (gyes_none rfl) (q_call0 Try.call33 rfl (refAt_ok s (atV s 32 8 + (i * 56) + 32) 8 hs (by omega) (by omega))) rfl (by decide) (call_ok rfl) ?_
                            refine dv (gyes_none rfl) (q_mv (v := .string s) rfl) rfl (by decide) (cok1 trivial) ?_
                            refine dv (gyes_none rfl) (q_mv (v := .int .i64 ((atV s 32 8 + (i * 56) : Nat) : Int)) rfl) rfl (by decide) (cok1 trivial) ?_
                            refine dv (gyes_none rfl) (OpQ.cast (v' := .int .i64 ((atV s 32 8 + (i * 56) + 40 : Nat) : Int)) (q_int rfl rfl rfl) (congrArg _ ((i64_in (by omega)).trans (by first | rfl | omega | (push_cast; rfl))))) rfl (by decide) (cok2 trivial (cconst rfl)) ?_
                            refine dv (gyes_none rfl) (q_call0 Try.call33 rfl (refAt_ok s (atV s 32 8 + (i * 56) + 40) 8 hs (by omega) (by omega))) rfl (by decide) (call_ok rfl) ?_
                            refine dv (gyes_none rfl) (q_buildL (ds := [.int .u64 ((atV s (atV s 32 8 + (i * 56)) 4 : Nat) : Int), .int .u64 (((atV s (atV s 32 8 + (i * 56) + 4) 4) % 8 : Nat) : Int), .int .u64 ((atV s (atV s 32 8 + (i * 56) + 8) 8 : Nat) : Int), .int .u64 ((atV s (atV s 32 8 + (i * 56) + 16) 8 : Nat) : Int), .int .u64 ((atV s (atV s 32 8 + (i * 56) + 32) 8 : Nat) : Int), .int .u64 ((atV s (atV s 32 8 + (i * 56) + 40) 8 : Nat) : Int)]) [(0, 1), (1, 1), (2, 1), (3, 1), (4, 1), (5, 1)] [.int .u64 ((atV s (atV s 32 8 + (i * 56)) 4 : Nat) : Int), .int .u64 (((atV s (atV s 32 8 + (i * 56) + 4) 4) % 8 : Nat) : Int), .int .u64 ((atV s (atV s 32 8 + (i * 56) + 8) 8 : Nat) : Int), .int .u64 ((atV s (atV s 32 8 + (i * 56) + 16) 8 : Nat) : Int), .int .u64 ((atV s (atV s 32 8 + (i * 56) + 32) 8 : Nat) : Int), .int .u64 ((atV s (atV s 32 8 + (i * 56) + 40) 8 : Nat) : Int)] Try.underlying67 Try.zeroValue67 (by first | exact flat_agg rfl | exact flat_scalar rfl) (by kernel_rfl) ⟨rfl, rfl, rfl, rfl, rfl, rfl, trivial⟩ (lvsC (by exact trivial) (lvsC (by exact trivial) (lvsC (by exact trivial) (lvsC (by exact trivial) (lvsC (by exact trivial) (lvsC (by exact trivial) lvs0)))))) rfl) rfl (by decide) (call_ok rfl) ?_
                            refine x_new (fun b => .pointer (some ⟨b, 0, none⟩)) s50 (gyes_none rfl) (q_alloc (vs := [.int .u64 0, .int .u64 0, .int .u64 0, .int .u64 0, .int .u64 0, .int .u64 0]) 6 Try.zeroValue67 (by first | exact flat_scalar rfl | exact flat_agg rfl) rfl) rfl (by decide) (by simp [Op.operands, Call.operands]) (fun b51 H52 hb54 s53 => ?_)
                            refine x_store [] hF s53 (by kernel_rfl) (gyes_none rfl) (j := 0) (v := .agg #[.int .u64 ((atV s (atV s 32 8 + (i * 56)) 4 : Nat) : Int), .int .u64 (((atV s (atV s 32 8 + (i * 56) + 4) 4) % 8 : Nat) : Int), .int .u64 ((atV s (atV s 32 8 + (i * 56) + 8) 8 : Nat) : Int), .int .u64 ((atV s (atV s 32 8 + (i * 56) + 16) 8 : Nat) : Int), .int .u64 ((atV s (atV s 32 8 + (i * 56) + 32) 8 : Nat) : Int), .int .u64 ((atV s (atV s 32 8 + (i * 56) + 40) 8 : Nat) : Int)]) rfl Try.sizeOf67 rfl rfl rfl rfl rfl trivial (lcsA ⟨(lc_scalar rfl), (lc_scalar rfl), (lc_scalar rfl), (lc_scalar rfl), (lc_scalar rfl), (lc_scalar rfl), trivial⟩) (Nat.le_of_ble_eq_true rfl) trivial trivial rfl rfl (F' := [(b51, .cells true [.int .u64 ((atV s (atV s 32 8 + (i * 56)) 4 : Nat) : Int), .int .u64 (((atV s (atV s 32 8 + (i * 56) + 4) 4) % 8 : Nat) : Int), .int .u64 ((atV s (atV s 32 8 + (i * 56) + 8) 8 : Nat) : Int), .int .u64 ((atV s (atV s 32 8 + (i * 56) + 16) 8 : Nat) : Int), .int .u64 ((atV s (atV s 32 8 + (i * 56) + 32) 8 : Nat) : Int), .int .u64 ((atV s (atV s 32 8 + (i * 56) + 40) 8 : Nat) : Int)] 6), (bl, .cells true (fl segr (lsK s i)) 6)]) rfl (fun H55 s56 => ⟨?_, ?_⟩)
                            · exact trivial
                            refine ⟨_, Wk.refl _ _, ?_⟩
                            show awp _ _ _ _ _ _ _
                            refine awp_seq ?_
                            obtain ⟨hb1, hb2, hb3, hb4⟩ := sgK_b (s := s) i
                            refine awp_regs hF ?_
                            refine dv (gyes_none rfl) (q_field Try.underlying67 rfl Try.sizeOf25 rfl (s56.rd (j := 0) rfl)) rfl (by decide) (cok1 trivial) ?_
                            refine dv (gyes_none rfl) (q_load (v := .int .u64 (((sgK s i).1 : Nat) : Int)) Try.isAgg25 rfl (s56.rd (j := 0) rfl) rfl) rfl (by decide) (cok1 trivial) ?_
                            refine dvb (gyes_none rfl) (q_int rfl rfl rfl) rfl (by decide) (cok2 trivial (cconst rfl)) (fun c13 => ?_) (fun c13 => ?_)
                            ·
                              replace c13 := eq_of_beq c13
                              refine dv (gyes_none rfl) (q_as (v := .bool true) rfl) rfl (by decide) (cok1 trivial) ?_
                              refine ⟨_, Wk.refl _ _, ?_⟩
                              show awp _ _ _ _ _ _ _
                              refine awp_seq ?_
                              refine awp_regs hF ?_
                              refine dv (gyes_none rfl) (q_as (v := .int .i64 0) rfl) rfl (by decide) (cok1 (cconst rfl)) ?_
                              refine ⟨_, Wk.refl _ _, ?_⟩
                              show awp _ _ _ _ _ _ _
                              refine awp_join (fun st => ∃ (H57 : AHeap) (ca : Nat), st = ⟨191, U [(0, .string s), (6, .int .i64 ((atV s 56 2 : Nat) : Int)), (7, .int .u64 ((atV s 32 8 : Nat) : Int)), (8, .slice (some ⟨bl, 0, none⟩) i i), (9, .int .u64 ((e : Nat) : Int)), (10, .int .i64 ((ld : Nat) : Int)), (11, .int .i64 ((i : Nat) : Int)), (12, .int .i64 ((atV s 32 8 + (i * 56) : Nat) : Int)), (13, .pointer (some ⟨b51, 0, none⟩)), (14, .bool true), (15, .int .i64 ((ca : Nat) : Int))], [], H57⟩ ∧ St H0 (none0) (Rd H0) H57 [(b51, .cells true [.int .u64 (((sgK s i).1 : Nat) : Int), .int .u64 (((sgK s i).2.1 : Nat) : Int), .int .u64 (((sgK s i).2.2.1 : Nat) : Int), .int .u64 (((sgK s i).2.2.2.1 : Nat) : Int), .int .u64 (((sgK s i).2.2.2.2.1 : Nat) : Int), .int .u64 (((sgK s i).2.2.2.2.2 : Nat) : Int)] 6), (bl, .cells true (fl segr (lsK s i)) 6)] ∧ ((sgK s i).1 = 1 ∧ (sgK s i).2.2.2.1 < e ∧ ca = 8 ∨ ¬ ((sgK s i).1 = 1 ∧ (sgK s i).2.2.2.1 < e) ∧ ca = 0)) ?j1 ?j2
                              case j1 =>
                                refine awp_seq ?_
                                refine awp_regs hF ?_
                                refine dv (gyes_none rfl) (q_mv (v := .bool true) rfl) rfl (by decide) (cok1 trivial) ?_
                                refine dv (gyes_none rfl) (q_mv (v := .bool true) rfl) rfl (by decide) (cok1 trivial) ?_
                                refine dv (gyes_some rfl rfl) (q_field Try.underlying67 rfl Try.sizeOf25 rfl (s56.rd (j := 0) rfl)) rfl (by decide) (cok1 trivial) ?_
                                refine dv (gyes_some rfl rfl) (q_load (v := .int .u64 (((sgK s i).2.2.2.1 : Nat) : Int)) Try.isAgg25 rfl (s56.rd (j := 0) rfl) rfl) rfl (by decide) (cok1 trivial) ?_
                                refine dv (gyes_some rfl rfl) (q_mv (v := .int .u64 ((e : Nat) : Int)) rfl) rfl (by decide) (cok1 trivial) ?_
                                refine dvb (gyes_some rfl rfl) (q_int rfl rfl rfl) rfl (by decide) (cok2 trivial trivial) (fun c14 => ?_) (fun c14 => ?_)
                                ·
                                  replace c14 := of_decide_eq_true c14
                                  refine dv (gyes_none rfl) (q_pt (v := .bool true) rfl rfl) rfl (by decide) (call_ok rfl) ?_
                                  refine ⟨_, Wk.refl _ _, ?_⟩
                                  show awp _ _ _ _ _ _ _
                                  refine awp_cond_t rfl ?_
                                  refine awp_regs hF ?_
                                  refine dv (gyes_none rfl) (q_as (v := .int .i64 8) rfl) rfl (by decide) (cok1 (cconst rfl)) ?_
                                  exact ⟨_, Wk.U [(0, .string s), (6, .int .i64 ((atV s 56 2 : Nat) : Int)), (7, .int .u64 ((atV s 32 8 : Nat) : Int)), (8, .slice (some ⟨bl, 0, none⟩) i i), (9, .int .u64 ((e : Nat) : Int)), (10, .int .i64 ((ld : Nat) : Int)), (11, .int .i64 ((i : Nat) : Int)), (12, .int .i64 ((atV s 32 8 + (i * 56) : Nat) : Int)), (13, .pointer (some ⟨b51, 0, none⟩)), (14, .bool true), (15, .int .i64 8)] ⟨rfl, rfl, rfl, rfl, rfl, rfl, rfl, rfl, rfl, rfl, rfl, trivial⟩, ⟨_, 8, rfl, s56, (by omega)⟩⟩
                                ·
                                  replace c14 := of_decide_eq_false c14
                                  refine dv (gyes_none rfl) (q_pt (v := .bool false) rfl rfl) rfl (by decide) (call_ok rfl) ?_
                                  refine ⟨_, Wk.refl _ _, ?_⟩
                                  show awp _ _ _ _ _ _ _
                                  refine awp_cond_f rfl ?_
                                  refine awp_skip_wk ?_
                                  exact ⟨_, Wk.U [(0, .string s), (6, .int .i64 ((atV s 56 2 : Nat) : Int)), (7, .int .u64 ((atV s 32 8 : Nat) : Int)), (8, .slice (some ⟨bl, 0, none⟩) i i), (9, .int .u64 ((e : Nat) : Int)), (10, .int .i64 ((ld : Nat) : Int)), (11, .int .i64 ((i : Nat) : Int)), (12, .int .i64 ((atV s 32 8 + (i * 56) : Nat) : Int)), (13, .pointer (some ⟨b51, 0, none⟩)), (14, .bool true), (15, .int .i64 0)] ⟨rfl, rfl, rfl, rfl, rfl, rfl, rfl, rfl, rfl, rfl, rfl, trivial⟩, ⟨_, 0, rfl, s56, (by omega)⟩⟩
                              case j2 =>
                                rintro _ ⟨H57, ca, rfl, s58, hca⟩
                                refine awp_join (fun st => ∃ (H59 : AHeap) (cb : Nat), st = ⟨191, U [(0, .string s), (6, .int .i64 ((atV s 56 2 : Nat) : Int)), (7, .int .u64 ((atV s 32 8 : Nat) : Int)), (8, .slice (some ⟨bl, 0, none⟩) i i), (9, .int .u64 ((e : Nat) : Int)), (10, .int .i64 ((ld : Nat) : Int)), (11, .int .i64 ((i : Nat) : Int)), (12, .int .i64 ((atV s 32 8 + (i * 56) : Nat) : Int)), (13, .pointer (some ⟨b51, 0, none⟩)), (14, .bool true), (15, .int .i64 ((cb : Nat) : Int))], [], H59⟩ ∧ St H0 (none0) (Rd H0) H59 [(b51, .cells true [.int .u64 (((sgK s i).1 : Nat) : Int), .int .u64 (((sgK s i).2.1 : Nat) : Int), .int .u64 (((sgK s i).2.2.1 : Nat) : Int), .int .u64 (((sgK s i).2.2.2.1 : Nat) : Int), .int .u64 (((sgK s i).2.2.2.2.1 : Nat) : Int), .int .u64 (((sgK s i).2.2.2.2.2 : Nat) : Int)] 6), (bl, .cells true (fl segr (lsK s i)) 6)] ∧ ((sgK s i).2.2.1 + (sgK s i).2.2.2.2.1 ≤ s.size ∧ cb = ca ∨ s.size < (sgK s i).2.2.1 + (sgK s i).2.2.2.2.1 ∧ cb = 2)) ?j1 ?j2
                                case j1 =>
                                  refine awp_seq ?_
                                  refine awp_regs hF ?_
                                  refine dv (gyes_none rfl) (q_field Try.underlying67 rfl Try.sizeOf25 rfl (s58.rd (j := 0) rfl)) rfl (by decide) (cok1 trivial) ?_
                                  refine dv (gyes_none rfl) (q_load (v := .int .u64 (((sgK s i).2.2.1 : Nat) : Int)) Try.isAgg25 rfl (s58.rd (j := 0) rfl) rfl) rfl (by decide) (cok1 trivial) ?_
                                  refine dv (gyes_none rfl) (q_mv (v := .string s) rfl) rfl (by decide) (cok1 trivial) ?_
                                  refine dv (gyes_none rfl) (q_len_str Try.underlying9 rfl) rfl (by decide) (cok1 trivial) ?_
                                  refine dv (gyes_none rfl) (q_convin (a := ((s.size : Nat) : Int)) Try.underlying3 Try.underlying25 rfl (u64_in (by omega))) rfl (by decide) (cok1 trivial) ?_
                                  refine dvb (gyes_none rfl) (q_int rfl rfl rfl) rfl (by decide) (cok2 trivial trivial) (fun c15 => ?_) (fun c15 => ?_)
                                  ·
                                    replace c15 := of_decide_eq_true c15
                                    refine dv (gyes_none rfl) (q_mv (v := .bool true) rfl) rfl (by decide) (cok1 trivial) ?_
                                    refine dno rfl (.inl rfl) rfl (by decide) ?_
                                    refine dno rfl (.inl rfl) rfl (by decide) ?_
                                    refine dno rfl (.inl rfl) rfl (by decide) ?_
                                    refine dno rfl (.inl rfl) rfl (by decide) ?_
                                    refine dno rfl (.inl rfl) rfl (by decide) ?_
                                    refine dno rfl (.inl rfl) rfl (by decide) ?_
                                    refine dno rfl (.inl rfl) rfl (by decide) ?_
                                    refine dno rfl (.inl rfl) rfl (by decide) ?_
                                    refine dno rfl (.inl rfl) rfl (by decide) ?_
                                    refine dv (gyes_none rfl) (q_pt (v := .bool true) rfl rfl) rfl (by decide) (call_ok rfl) ?_
                                    refine ⟨_, Wk.refl _ _, ?_⟩
                                    show awp _ _ _ _ _ _ _
                                    refine awp_cond_t rfl ?_
                                    refine awp_regs hF ?_
                                    refine dv (gyes_none rfl) (q_as (v := .int .i64 2) rfl) rfl (by decide) (cok1 (cconst rfl)) ?_
                                    exact ⟨_, Wk.U [(0, .string s), (6, .int .i64 ((atV s 56 2 : Nat) : Int)), (7, .int .u64 ((atV s 32 8 : Nat) : Int)), (8, .slice (some ⟨bl, 0, none⟩) i i), (9, .int .u64 ((e : Nat) : Int)), (10, .int .i64 ((ld : Nat) : Int)), (11, .int .i64 ((i : Nat) : Int)), (12, .int .i64 ((atV s 32 8 + (i * 56) : Nat) : Int)), (13, .pointer (some ⟨b51, 0, none⟩)), (14, .bool true), (15, .int .i64 2)] ⟨rfl, rfl, rfl, rfl, rfl, rfl, rfl, rfl, rfl, rfl, rfl, trivial⟩, ⟨_, 2, rfl, s58, (by omega)⟩⟩
                                  ·
                                    replace c15 := of_decide_eq_false c15
                                    refine dv (gyes_none rfl) (q_mv (v := .bool false) rfl) rfl (by decide) (cok1 trivial) ?_
                                    refine dv (gyes_some rfl rfl) (q_field Try.underlying67 rfl Try.sizeOf25 rfl (s58.rd (j := 0) rfl)) rfl (by decide) (cok1 trivial) ?_
                                    refine dv (gyes_some rfl rfl) (q_load (v := .int .u64 (((sgK s i).2.2.2.2.1 : Nat) : Int)) Try.isAgg25 rfl (s58.rd (j := 0) rfl) rfl) rfl (by decide) (cok1 trivial) ?_
                                    refine dv (gyes_some rfl rfl) (q_mv (v := .string s) rfl) rfl (by decide) (cok1 trivial) ?_
                                    refine dv (gyes_some rfl rfl) (q_len_str Try.underlying9 rfl) rfl (by decide) (cok1 trivial) ?_
                                    refine dv (gyes_some rfl rfl) (q_convin (a := ((s.size : Nat) : Int)) Try.underlying3 Try.underlying25 rfl (u64_in (by omega))) rfl (by decide) (cok1 trivial) ?_
                                    refine dv (gyes_some rfl rfl) (q_field Try.underlying67 rfl Try.sizeOf25 rfl (s58.rd (j := 0) rfl)) rfl (by decide) (cok1 trivial) ?_
                                    refine dv (gyes_some rfl rfl) (q_load (v := .int .u64 (((sgK s i).2.2.1 : Nat) : Int)) Try.isAgg25 rfl (s58.rd (j := 0) rfl) rfl) rfl (by decide) (cok1 trivial) ?_
                                    refine dv (gyes_some rfl rfl) (OpQ.cast (v' := .int .u64 ((s.size - ((sgK s i).2.2.1) : Nat) : Int)) (q_int rfl rfl rfl) (congrArg _ ((u64_in (by omega)).trans (by omega)))) rfl (by decide) (cok2 trivial trivial) ?_
                                    refine dvb (gyes_some rfl rfl) (q_int rfl rfl rfl) rfl (by decide) (cok2 trivial trivial) (fun c16 => ?_) (fun c16 => ?_)
                                    ·
                                      replace c16 := of_decide_eq_true c16
                                      refine dv (gyes_none rfl) (q_pf (v := .bool true) rfl rfl) rfl (by decide) (call_ok rfl) ?_
                                      refine ⟨_, Wk.refl _ _, ?_⟩
                                      show awp _ _ _ _ _ _ _
                                      refine awp_cond_t rfl ?_
                                      refine awp_regs hF ?_
                                      refine dv (gyes_none rfl) (q_as (v := .int .i64 2) rfl) rfl (by decide) (cok1 (cconst rfl)) ?_
                                      exact ⟨_, Wk.U [(0, .string s), (6, .int .i64 ((atV s 56 2 : Nat) : Int)), (7, .int .u64 ((atV s 32 8 : Nat) : Int)), (8, .slice (some ⟨bl, 0, none⟩) i i), (9, .int .u64 ((e : Nat) : Int)), (10, .int .i64 ((ld : Nat) : Int)), (11, .int .i64 ((i : Nat) : Int)), (12, .int .i64 ((atV s 32 8 + (i * 56) : Nat) : Int)), (13, .pointer (some ⟨b51, 0, none⟩)), (14, .bool true), (15, .int .i64 2)] ⟨rfl, rfl, rfl, rfl, rfl, rfl, rfl, rfl, rfl, rfl, rfl, trivial⟩, ⟨_, 2, rfl, s58, (by omega)⟩⟩
                                    ·
                                      replace c16 := of_decide_eq_false c16
                                      refine dv (gyes_none rfl) (q_pf (v := .bool false) rfl rfl) rfl (by decide) (call_ok rfl) ?_
                                      refine ⟨_, Wk.refl _ _, ?_⟩
                                      show awp _ _ _ _ _ _ _
                                      refine awp_cond_f rfl ?_
                                      refine awp_skip_wk ?_
                                      exact ⟨_, Wk.U [(0, .string s), (6, .int .i64 ((atV s 56 2 : Nat) : Int)), (7, .int .u64 ((atV s 32 8 : Nat) : Int)), (8, .slice (some ⟨bl, 0, none⟩) i i), (9, .int .u64 ((e : Nat) : Int)), (10, .int .i64 ((ld : Nat) : Int)), (11, .int .i64 ((i : Nat) : Int)), (12, .int .i64 ((atV s 32 8 + (i * 56) : Nat) : Int)), (13, .pointer (some ⟨b51, 0, none⟩)), (14, .bool true), (15, .int .i64 ((ca : Nat) : Int))] ⟨rfl, rfl, rfl, rfl, rfl, rfl, rfl, rfl, rfl, rfl, rfl, trivial⟩, ⟨_, ca, rfl, s58, (by omega)⟩⟩
                                case j2 =>
                                  rintro _ ⟨H59, cb, rfl, s60, hcb⟩
                                  refine awp_join (fun st => ∃ (H61 : AHeap) (cc : Nat), st = ⟨191, U [(0, .string s), (6, .int .i64 ((atV s 56 2 : Nat) : Int)), (7, .int .u64 ((atV s 32 8 : Nat) : Int)), (8, .slice (some ⟨bl, 0, none⟩) i i), (9, .int .u64 ((e : Nat) : Int)), (10, .int .i64 ((ld : Nat) : Int)), (11, .int .i64 ((i : Nat) : Int)), (12, .int .i64 ((atV s 32 8 + (i * 56) : Nat) : Int)), (13, .pointer (some ⟨b51, 0, none⟩)), (14, .bool true), (15, .int .i64 ((cc : Nat) : Int))], [], H61⟩ ∧ St H0 (none0) (Rd H0) H61 [(b51, .cells true [.int .u64 (((sgK s i).1 : Nat) : Int), .int .u64 (((sgK s i).2.1 : Nat) : Int), .int .u64 (((sgK s i).2.2.1 : Nat) : Int), .int .u64 (((sgK s i).2.2.2.1 : Nat) : Int), .int .u64 (((sgK s i).2.2.2.2.1 : Nat) : Int), .int .u64 (((sgK s i).2.2.2.2.2 : Nat) : Int)] 6), (bl, .cells true (fl segr (lsK s i)) 6)] ∧ ((sgK s i).1 = 1 ∧ (1073741824 < (sgK s i).2.2.2.1 ∨ 1073741824 - (sgK s i).2.2.2.1 < (sgK s i).2.2.2.2.2) ∧ cc = 5 ∨ ¬ ((sgK s i).1 = 1 ∧ (1073741824 < (sgK s i).2.2.2.1 ∨ 1073741824 - (sgK s i).2.2.2.1 < (sgK s i).2.2.2.2.2)) ∧ cc = cb)) ?j1 ?j2
                                  case j1 =>
                                    refine awp_seq ?_
                                    refine awp_regs hF ?_
                                    refine dv (gyes_none rfl) (q_mv (v := .bool true) rfl) rfl (by decide) (cok1 trivial) ?_
                                    refine dv (gyes_none rfl) (q_mv (v := .bool true) rfl) rfl (by decide) (cok1 trivial) ?_
                                    refine dv (gyes_some rfl rfl) (q_field Try.underlying67 rfl Try.sizeOf25 rfl (s60.rd (j := 0) rfl)) rfl (by decide) (cok1 trivial) ?_
                                    refine dv (gyes_some rfl rfl) (q_load (v := .int .u64 (((sgK s i).2.2.2.1 : Nat) : Int)) Try.isAgg25 rfl (s60.rd (j := 0) rfl) rfl) rfl (by decide) (cok1 trivial) ?_
                                    refine dvb (gyes_some rfl rfl) (q_int rfl rfl rfl) rfl (by decide) (cok2 trivial (cconst rfl)) (fun c17 => ?_) (fun c17 => ?_)
                                    ·
                                      replace c17 := of_decide_eq_true c17
                                      refine dv (gyes_some rfl rfl) (q_mv (v := .bool true) rfl) rfl (by decide) (cok1 trivial) ?_
                                      refine dno rfl (.inl rfl) rfl (by decide) ?_
                                      refine dno rfl (.inl rfl) rfl (by decide) ?_
                                      refine dno rfl (.inl rfl) rfl (by decide) ?_
                                      refine dno rfl (.inl rfl) rfl (by decide) ?_
                                      refine dno rfl (.inl rfl) rfl (by decide) ?_
                                      refine dno rfl (.inl rfl) rfl (by decide) ?_
                                      refine dv (gyes_some rfl rfl) (q_pt (v := .bool true) rfl rfl) rfl (by decide) (call_ok rfl) ?_
                                      refine dv (gyes_none rfl) (q_pt (v := .bool true) rfl rfl) rfl (by decide) (call_ok rfl) ?_
                                      refine ⟨_, Wk.refl _ _, ?_⟩
                                      show awp _ _ _ _ _ _ _
                                      refine awp_cond_t rfl ?_
                                      refine awp_regs hF ?_
                                      refine dv (gyes_none rfl) (q_as (v := .int .i64 5) rfl) rfl (by decide) (cok1 (cconst rfl)) ?_
                                      exact ⟨_, Wk.U [(0, .string s), (6, .int .i64 ((atV s 56 2 : Nat) : Int)), (7, .int .u64 ((atV s 32 8 : Nat) : Int)), (8, .slice (some ⟨bl, 0, none⟩) i i), (9, .int .u64 ((e : Nat) : Int)), (10, .int .i64 ((ld : Nat) : Int)), (11, .int .i64 ((i : Nat) : Int)), (12, .int .i64 ((atV s 32 8 + (i * 56) : Nat) : Int)), (13, .pointer (some ⟨b51, 0, none⟩)), (14, .bool true), (15, .int .i64 5)] ⟨rfl, rfl, rfl, rfl, rfl, rfl, rfl, rfl, rfl, rfl, rfl, trivial⟩, ⟨_, 5, rfl, s60, (by omega)⟩⟩
                                    ·
                                      replace c17 := of_decide_eq_false c17
                                      refine dv (gyes_some rfl rfl) (q_mv (v := .bool false) rfl) rfl (by decide) (cok1 trivial) ?_
                                      refine dv (gyes_some rfl rfl) (q_field Try.underlying67 rfl Try.sizeOf25 rfl (s60.rd (j := 0) rfl)) rfl (by decide) (cok1 trivial) ?_
                                      refine dv (gyes_some rfl rfl) (q_load (v := .int .u64 (((sgK s i).2.2.2.2.2 : Nat) : Int)) Try.isAgg25 rfl (s60.rd (j := 0) rfl) rfl) rfl (by decide) (cok1 trivial) ?_
                                      refine dv (gyes_some rfl rfl) (q_field Try.underlying67 rfl Try.sizeOf25 rfl (s60.rd (j := 0) rfl)) rfl (by decide) (cok1 trivial) ?_
                                      refine dv (gyes_some rfl rfl) (q_load (v := .int .u64 (((sgK s i).2.2.2.1 : Nat) : Int)) Try.isAgg25 rfl (s60.rd (j := 0) rfl) rfl) rfl (by decide) (cok1 trivial) ?_
                                      refine dv (gyes_some rfl rfl) (OpQ.cast (v' := .int .u64 ((1073741824 - ((sgK s i).2.2.2.1) : Nat) : Int)) (q_int rfl rfl rfl) (congrArg _ ((u64_in (by omega)).trans (by omega)))) rfl (by decide) (cok2 (cconst rfl) trivial) ?_
                                      refine dvb (gyes_some rfl rfl) (q_int rfl rfl rfl) rfl (by decide) (cok2 trivial trivial) (fun c18 => ?_) (fun c18 => ?_)
                                      ·
                                        replace c18 := of_decide_eq_true c18
                                        refine dv (gyes_some rfl rfl) (q_pf (v := .bool true) rfl rfl) rfl (by decide) (call_ok rfl) ?_
                                        refine dv (gyes_none rfl) (q_pt (v := .bool true) rfl rfl) rfl (by decide) (call_ok rfl) ?_
                                        refine ⟨_, Wk.refl _ _, ?_⟩
                                        show awp _ _ _ _ _ _ _
                                        refine awp_cond_t rfl ?_
                                        refine awp_regs hF ?_
                                        refine dv (gyes_none rfl) (q_as (v := .int .i64 5) rfl) rfl (by decide) (cok1 (cconst rfl)) ?_
                                        exact ⟨_, Wk.U [(0, .string s), (6, .int .i64 ((atV s 56 2 : Nat) : Int)), (7, .int .u64 ((atV s 32 8 : Nat) : Int)), (8, .slice (some ⟨bl, 0, none⟩) i i), (9, .int .u64 ((e : Nat) : Int)), (10, .int .i64 ((ld : Nat) : Int)), (11, .int .i64 ((i : Nat) : Int)), (12, .int .i64 ((atV s 32 8 + (i * 56) : Nat) : Int)), (13, .pointer (some ⟨b51, 0, none⟩)), (14, .bool true), (15, .int .i64 5)] ⟨rfl, rfl, rfl, rfl, rfl, rfl, rfl, rfl, rfl, rfl, rfl, trivial⟩, ⟨_, 5, rfl, s60, (by omega)⟩⟩
                                      ·
                                        replace c18 := of_decide_eq_false c18
                                        refine dv (gyes_some rfl rfl) (q_pf (v := .bool false) rfl rfl) rfl (by decide) (call_ok rfl) ?_
                                        refine dv (gyes_none rfl) (q_pt (v := .bool false) rfl rfl) rfl (by decide) (call_ok rfl) ?_
                                        refine ⟨_, Wk.refl _ _, ?_⟩
                                        show awp _ _ _ _ _ _ _
                                        refine awp_cond_f rfl ?_
                                        refine awp_skip_wk ?_
                                        exact ⟨_, Wk.U [(0, .string s), (6, .int .i64 ((atV s 56 2 : Nat) : Int)), (7, .int .u64 ((atV s 32 8 : Nat) : Int)), (8, .slice (some ⟨bl, 0, none⟩) i i), (9, .int .u64 ((e : Nat) : Int)), (10, .int .i64 ((ld : Nat) : Int)), (11, .int .i64 ((i : Nat) : Int)), (12, .int .i64 ((atV s 32 8 + (i * 56) : Nat) : Int)), (13, .pointer (some ⟨b51, 0, none⟩)), (14, .bool true), (15, .int .i64 ((cb : Nat) : Int))] ⟨rfl, rfl, rfl, rfl, rfl, rfl, rfl, rfl, rfl, rfl, rfl, trivial⟩, ⟨_, cb, rfl, s60, (by omega)⟩⟩
                                  case j2 =>
                                    rintro _ ⟨H61, cc, rfl, s62, hcc⟩
                                    refine awp_join (fun st => ∃ (H63 : AHeap) (cd : Nat), st = ⟨191, U [(0, .string s), (6, .int .i64 ((atV s 56 2 : Nat) : Int)), (7, .int .u64 ((atV s 32 8 : Nat) : Int)), (8, .slice (some ⟨bl, 0, none⟩) i i), (9, .int .u64 ((e : Nat) : Int)), (10, .int .i64 ((ld : Nat) : Int)), (11, .int .i64 ((i : Nat) : Int)), (12, .int .i64 ((atV s 32 8 + (i * 56) : Nat) : Int)), (13, .pointer (some ⟨b51, 0, none⟩)), (14, .bool true), (15, .int .i64 ((cd : Nat) : Int))], [], H63⟩ ∧ St H0 (none0) (Rd H0) H63 [(b51, .cells true [.int .u64 (((sgK s i).1 : Nat) : Int), .int .u64 (((sgK s i).2.1 : Nat) : Int), .int .u64 (((sgK s i).2.2.1 : Nat) : Int), .int .u64 (((sgK s i).2.2.2.1 : Nat) : Int), .int .u64 (((sgK s i).2.2.2.2.1 : Nat) : Int), .int .u64 (((sgK s i).2.2.2.2.2 : Nat) : Int)] 6), (bl, .cells true (fl segr (lsK s i)) 6)] ∧ ((sgK s i).1 = 1 ∧ ((sgK s i).2.2.2.2.2 = 0 ∨ (sgK s i).2.2.2.2.2 < (sgK s i).2.2.2.2.1) ∧ cd = 4 ∨ ¬ ((sgK s i).1 = 1 ∧ ((sgK s i).2.2.2.2.2 = 0 ∨ (sgK s i).2.2.2.2.2 < (sgK s i).2.2.2.2.1)) ∧ cd = cc)) ?j1 ?j2
                                    case j1 =>
                                      refine awp_seq ?_
                                      refine awp_regs hF ?_
                                      refine dv (gyes_none rfl) (q_mv (v := .bool true) rfl) rfl (by decide) (cok1 trivial) ?_
                                      refine dv (gyes_none rfl) (q_mv (v := .bool true) rfl) rfl (by decide) (cok1 trivial) ?_
                                      refine dv (gyes_some rfl rfl) (q_field Try.underlying67 rfl Try.sizeOf25 rfl (s62.rd (j := 0) rfl)) rfl (by decide) (cok1 trivial) ?_
                                      refine dv (gyes_some rfl rfl) (q_load (v := .int .u64 (((sgK s i).2.2.2.2.2 : Nat) : Int)) Try.isAgg25 rfl (s62.rd (j := 0) rfl) rfl) rfl (by decide) (cok1 trivial) ?_
                                      refine dvb (gyes_some rfl rfl) (q_int rfl rfl rfl) rfl (by decide) (cok2 trivial (cconst rfl)) (fun c19 => ?_) (fun c19 => ?_)
                                      ·
                                        replace c19 := eq_of_beq c19
                                        refine dv (gyes_some rfl rfl) (q_mv (v := .bool true) rfl) rfl (by decide) (cok1 trivial) ?_
                                        refine dno rfl (.inl rfl) rfl (by decide) ?_
                                        refine dno rfl (.inl rfl) rfl (by decide) ?_
                                        refine dno rfl (.inl rfl) rfl (by decide) ?_
                                        refine dno rfl (.inl rfl) rfl (by decide) ?_
                                        refine dno rfl (.inl rfl) rfl (by decide) ?_
                                        refine dv (gyes_some rfl rfl) (q_pt (v := .bool true) rfl rfl) rfl (by decide) (call_ok rfl) ?_
                                        refine dv (gyes_none rfl) (q_pt (v := .bool true) rfl rfl) rfl (by decide) (call_ok rfl) ?_
                                        refine ⟨_, Wk.refl _ _, ?_⟩
                                        show awp _ _ _ _ _ _ _
                                        refine awp_cond_t rfl ?_
                                        refine awp_regs hF ?_
                                        refine dv (gyes_none rfl) (q_as (v := .int .i64 4) rfl) rfl (by decide) (cok1 (cconst rfl)) ?_
                                        exact ⟨_, Wk.U [(0, .string s), (6, .int .i64 ((atV s 56 2 : Nat) : Int)), (7, .int .u64 ((atV s 32 8 : Nat) : Int)), (8, .slice (some ⟨bl, 0, none⟩) i i), (9, .int .u64 ((e : Nat) : Int)), (10, .int .i64 ((ld : Nat) : Int)), (11, .int .i64 ((i : Nat) : Int)), (12, .int .i64 ((atV s 32 8 + (i * 56) : Nat) : Int)), (13, .pointer (some ⟨b51, 0, none⟩)), (14, .bool true), (15, .int .i64 4)] ⟨rfl, rfl, rfl, rfl, rfl, rfl, rfl, rfl, rfl, rfl, rfl, trivial⟩, ⟨_, 4, rfl, s62, (by omega)⟩⟩
                                      ·
                                        replace c19 := ne_of_beq_false c19
                                        refine dv (gyes_some rfl rfl) (q_mv (v := .bool false) rfl) rfl (by decide) (cok1 trivial) ?_
                                        refine dv (gyes_some rfl rfl) (q_field Try.underlying67 rfl Try.sizeOf25 rfl (s62.rd (j := 0) rfl)) rfl (by decide) (cok1 trivial) ?_
                                        refine dv (gyes_some rfl rfl) (q_load (v := .int .u64 (((sgK s i).2.2.2.2.2 : Nat) : Int)) Try.isAgg25 rfl (s62.rd (j := 0) rfl) rfl) rfl (by decide) (cok1 trivial) ?_
                                        refine dv (gyes_some rfl rfl) (q_field Try.underlying67 rfl Try.sizeOf25 rfl (s62.rd (j := 0) rfl)) rfl (by decide) (cok1 trivial) ?_
                                        refine dv (gyes_some rfl rfl) (q_load (v := .int .u64 (((sgK s i).2.2.2.2.1 : Nat) : Int)) Try.isAgg25 rfl (s62.rd (j := 0) rfl) rfl) rfl (by decide) (cok1 trivial) ?_
                                        refine dvb (gyes_some rfl rfl) (q_int rfl rfl rfl) rfl (by decide) (cok2 trivial trivial) (fun c20 => ?_) (fun c20 => ?_)
                                        ·
                                          replace c20 := of_decide_eq_true c20
                                          refine dv (gyes_some rfl rfl) (q_pf (v := .bool true) rfl rfl) rfl (by decide) (call_ok rfl) ?_
                                          refine dv (gyes_none rfl) (q_pt (v := .bool true) rfl rfl) rfl (by decide) (call_ok rfl) ?_
                                          refine ⟨_, Wk.refl _ _, ?_⟩
                                          show awp _ _ _ _ _ _ _
                                          refine awp_cond_t rfl ?_
                                          refine awp_regs hF ?_
                                          refine dv (gyes_none rfl) (q_as (v := .int .i64 4) rfl) rfl (by decide) (cok1 (cconst rfl)) ?_
                                          exact ⟨_, Wk.U [(0, .string s), (6, .int .i64 ((atV s 56 2 : Nat) : Int)), (7, .int .u64 ((atV s 32 8 : Nat) : Int)), (8, .slice (some ⟨bl, 0, none⟩) i i), (9, .int .u64 ((e : Nat) : Int)), (10, .int .i64 ((ld : Nat) : Int)), (11, .int .i64 ((i : Nat) : Int)), (12, .int .i64 ((atV s 32 8 + (i * 56) : Nat) : Int)), (13, .pointer (some ⟨b51, 0, none⟩)), (14, .bool true), (15, .int .i64 4)] ⟨rfl, rfl, rfl, rfl, rfl, rfl, rfl, rfl, rfl, rfl, rfl, trivial⟩, ⟨_, 4, rfl, s62, (by omega)⟩⟩
                                        ·
                                          replace c20 := of_decide_eq_false c20
                                          refine dv (gyes_some rfl rfl) (q_pf (v := .bool false) rfl rfl) rfl (by decide) (call_ok rfl) ?_
                                          refine dv (gyes_none rfl) (q_pt (v := .bool false) rfl rfl) rfl (by decide) (call_ok rfl) ?_
                                          refine ⟨_, Wk.refl _ _, ?_⟩
                                          show awp _ _ _ _ _ _ _
                                          refine awp_cond_f rfl ?_
                                          refine awp_skip_wk ?_
                                          exact ⟨_, Wk.U [(0, .string s), (6, .int .i64 ((atV s 56 2 : Nat) : Int)), (7, .int .u64 ((atV s 32 8 : Nat) : Int)), (8, .slice (some ⟨bl, 0, none⟩) i i), (9, .int .u64 ((e : Nat) : Int)), (10, .int .i64 ((ld : Nat) : Int)), (11, .int .i64 ((i : Nat) : Int)), (12, .int .i64 ((atV s 32 8 + (i * 56) : Nat) : Int)), (13, .pointer (some ⟨b51, 0, none⟩)), (14, .bool true), (15, .int .i64 ((cc : Nat) : Int))] ⟨rfl, rfl, rfl, rfl, rfl, rfl, rfl, rfl, rfl, rfl, rfl, trivial⟩, ⟨_, cc, rfl, s62, (by omega)⟩⟩
                                    case j2 =>
                                      rintro _ ⟨H63, cd, rfl, s64, hcd⟩
                                      refine awp_join (fun st => ∃ (H65 : AHeap) (ce : Nat), st = ⟨191, U [(0, .string s), (6, .int .i64 ((atV s 56 2 : Nat) : Int)), (7, .int .u64 ((atV s 32 8 : Nat) : Int)), (8, .slice (some ⟨bl, 0, none⟩) i i), (9, .int .u64 ((e : Nat) : Int)), (10, .int .i64 ((ld : Nat) : Int)), (11, .int .i64 ((i : Nat) : Int)), (12, .int .i64 ((atV s 32 8 + (i * 56) : Nat) : Int)), (13, .pointer (some ⟨b51, 0, none⟩)), (14, .bool true), (15, .int .i64 ((ce : Nat) : Int))], [], H65⟩ ∧ St H0 (none0) (Rd H0) H65 [(b51, .cells true [.int .u64 (((sgK s i).1 : Nat) : Int), .int .u64 (((sgK s i).2.1 : Nat) : Int), .int .u64 (((sgK s i).2.2.1 : Nat) : Int), .int .u64 (((sgK s i).2.2.2.1 : Nat) : Int), .int .u64 (((sgK s i).2.2.2.2.1 : Nat) : Int), .int .u64 (((sgK s i).2.2.2.2.2 : Nat) : Int)] 6), (bl, .cells true (fl segr (lsK s i)) 6)] ∧ ((sgK s i).1 = 1 ∧ (sgK s i).2.2.2.1 % 256 ≠ 0 ∧ ce = 13 ∨ ¬ ((sgK s i).1 = 1 ∧ (sgK s i).2.2.2.1 % 256 ≠ 0) ∧ ce = cd)) ?j1 ?j2
                                      case j1 =>
                                        refine awp_seq ?_
                                        refine awp_regs hF ?_
                                        refine dv (gyes_none rfl) (q_mv (v := .bool true) rfl) rfl (by decide) (cok1 trivial) ?_
                                        refine dv (gyes_none rfl) (q_mv (v := .bool true) rfl) rfl (by decide) (cok1 trivial) ?_
                                        refine dv (gyes_some rfl rfl) (q_field Try.underlying67 rfl Try.sizeOf25 rfl (s64.rd (j := 0) rfl)) rfl (by decide) (cok1 trivial) ?_
                                        refine dv (gyes_some rfl rfl) (q_load (v := .int .u64 (((sgK s i).2.2.2.1 : Nat) : Int)) Try.isAgg25 rfl (s64.rd (j := 0) rfl) rfl) rfl (by decide) (cok1 trivial) ?_
                                        refine dv (gyes_some rfl rfl) (q_remM (a := ((sgK s i).2.2.2.1)) (b := 256) rfl rfl (by first | decide | omega)) rfl (by decide) (cok2 trivial (cconst rfl)) ?_
                                        refine dvb (gyes_some rfl rfl) (q_int rfl rfl rfl) rfl (by decide) (cok2 trivial (cconst rfl)) (fun c21 => ?_) (fun c21 => ?_)
                                        ·
                                          replace c21 := bne_iff_ne.1 c21
                                          refine dv (gyes_none rfl) (q_pt (v := .bool true) rfl rfl) rfl (by decide) (call_ok rfl) ?_
                                          refine ⟨_, Wk.refl _ _, ?_⟩
                                          show awp _ _ _ _ _ _ _
                                          refine awp_cond_t rfl ?_
                                          refine awp_regs hF ?_
                                          refine dv (gyes_none rfl) (q_as (v := .int .i64 13) rfl) rfl (by decide) (cok1 (cconst rfl)) ?_
                                          exact ⟨_, Wk.U [(0, .string s), (6, .int .i64 ((atV s 56 2 : Nat) : Int)), (7, .int .u64 ((atV s 32 8 : Nat) : Int)), (8, .slice (some ⟨bl, 0, none⟩) i i), (9, .int .u64 ((e : Nat) : Int)), (10, .int .i64 ((ld : Nat) : Int)), (11, .int .i64 ((i : Nat) : Int)), (12, .int .i64 ((atV s 32 8 + (i * 56) : Nat) : Int)), (13, .pointer (some ⟨b51, 0, none⟩)), (14, .bool true), (15, .int .i64 13)] ⟨rfl, rfl, rfl, rfl, rfl, rfl, rfl, rfl, rfl, rfl, rfl, trivial⟩, ⟨_, 13, rfl, s64, (by omega)⟩⟩
                                        ·
                                          replace c21 := bne_eq_false_iff_eq.1 c21
                                          refine dv (gyes_none rfl) (q_pt (v := .bool false) rfl rfl) rfl (by decide) (call_ok rfl) ?_
                                          refine ⟨_, Wk.refl _ _, ?_⟩
                                          show awp _ _ _ _ _ _ _
                                          refine awp_cond_f rfl ?_
                                          refine awp_skip_wk ?_
                                          exact ⟨_, Wk.U [(0, .string s), (6, .int .i64 ((atV s 56 2 : Nat) : Int)), (7, .int .u64 ((atV s 32 8 : Nat) : Int)), (8, .slice (some ⟨bl, 0, none⟩) i i), (9, .int .u64 ((e : Nat) : Int)), (10, .int .i64 ((ld : Nat) : Int)), (11, .int .i64 ((i : Nat) : Int)), (12, .int .i64 ((atV s 32 8 + (i * 56) : Nat) : Int)), (13, .pointer (some ⟨b51, 0, none⟩)), (14, .bool true), (15, .int .i64 ((cd : Nat) : Int))] ⟨rfl, rfl, rfl, rfl, rfl, rfl, rfl, rfl, rfl, rfl, rfl, trivial⟩, ⟨_, cd, rfl, s64, (by omega)⟩⟩
                                      case j2 =>
                                        rintro _ ⟨H65, ce, rfl, s66, hce⟩
                                        refine awp_seq ?_
                                        refine awp_seq ?_
                                        refine awp_regs hF ?_
                                        refine dv (gyes_none rfl) (q_mv (v := .int .i64 ((ce : Nat) : Int)) rfl) rfl (by decide) (cok1 trivial) ?_
                                        refine dvb (gyes_none rfl) (q_int rfl rfl rfl) rfl (by decide) (cok2 trivial (cconst rfl)) (fun c22 => ?_) (fun c22 => ?_)
                                        ·
                                          replace c22 := bne_iff_ne.1 c22
                                          have hw1 : wrongC s (sgK s i) e = ce := wrongC_of hca hcb hcc hcd hce
                                          refine ⟨_, Wk.refl _ _, ?_⟩
                                          show awp _ _ _ _ _ _ _
                                          refine awp_cond_t rfl ?_
                                          refine awp_seq ?_
                                          refine awp_regs hF ?_
                                          refine dv (gyes_none rfl) (q_mv (v := .int .i64 ((ce : Nat) : Int)) rfl) rfl (by decide) (cok1 trivial) ?_
                                          refine dv (gyes_none rfl) (q_mv (v := .int .i64 ((atV s 32 8 + (i * 56) : Nat) : Int)) rfl) rfl (by decide) (cok1 trivial) ?_
                                          refine dv (gyes_none rfl) (q_convin (a := ((atV s 32 8 + (i * 56) : Nat) : Int)) Try.underlying3 Try.underlying25 rfl (u64_in (by omega))) rfl (by decide) (cok1 trivial) ?_
                                          refine dv (gyes_none rfl) (q_as (v := .int .u64 0) rfl) rfl (by decide) (cok1 (cconst rfl)) ?_
                                          refine dv (gyes_none rfl) (q_as (v := .slice none 0 0) rfl) rfl (by decide) (cok1 (cconst rfl)) ?_
                                          refine dv (gyes_none rfl) (q_as (v := .int .i64 ((ce : Nat) : Int)) rfl) rfl (by decide) (cok1 trivial) ?_
                                          refine dv (gyes_none rfl) (q_as (v := .int .u64 ((atV s 32 8 + (i * 56) : Nat) : Int)) rfl) rfl (by decide) (cok1 trivial) ?_
                                          refine ⟨_, Wk.refl _ _, ?_⟩
                                          show awp _ _ _ _ _ _ _
                                          refine awp_nil s66 3 6 rfl (fun b67 H68 hb70 s69 => ?_)
                                          refine awp_ret_wk ?_
                                          obtain ⟨e1, e2, e3, e4, e5⟩ := hr_bad hd0 (k := i) (by omega) (by rw [← he, hw1]; omega) hi
                                          refine ⟨_, Wk.refl _ _, ?_⟩
                                          repeat (with_reducible first | refine then_ret ?_ | refine blk_ret ?_ | refine then_exit ?_ | refine blk_exit ?_ | refine blk_exit' (by decide) ?_ | refine blk_normal ?_ | refine then_normal ?_ | refine retq_ret ?_ | refine retq_normal ?_ | refine ng_normal ?_ | refine ng_ret ?_ | refine ng_exit ?_)
                                          refine ret_is (v := .tuple #[.int .u64 0, .slice (some ⟨b67, 0, none⟩) 0 0, .int .i64 ((ce : Nat) : Int), .int .u64 ((atV s 32 8 + (i * 56) : Nat) : Int)]) rfl (.tmp rfl (.tmp rfl (.tmp rfl (.tmp rfl .nil)))) rfl ?_
                                          exact ⟨_, by rw [e1, e2, e3, ← he, hw1]; first | done | rfl, freshS_of (l := []) s69 (j := 0) rfl rfl e5⟩
                                        ·
                                          replace c22 := bne_eq_false_iff_eq.1 c22
                                          have hw0 : wrongC s (sgK s i) e = 0 := (wrongC_of hca hcb hcc hcd hce).trans (by omega)
                                          have hin := wrong_in hw0
                                          have hkd : (sgK s i).1 = 1 := by omega
                                          have hwl := wrong_ld hw0 hkd
                                          refine ⟨_, Wk.refl _ _, ?_⟩
                                          show awp _ _ _ _ _ _ _
                                          refine awp_cond_f rfl ?_
                                          refine awp_skip_wk ?_
                                          refine ⟨_, Wk.refl _ _, ?_⟩
                                          show awp _ _ _ _ _ _ _
                                          refine awp_seq ?_
                                          refine awp_seq ?_
                                          refine awp_regs hF ?_
                                          refine dv (gyes_none rfl) (q_mv (v := .bool true) rfl) rfl (by decide) (cok1 trivial) ?_
                                          refine ⟨_, Wk.refl _ _, ?_⟩
                                          show awp _ _ _ _ _ _ _
                                          refine awp_cond_t rfl ?_
                                          refine awp_seq ?_
                                          refine awp_regs hF ?_
                                          refine dv (gyes_none rfl) (q_mv (v := .int .i64 ((ld : Nat) : Int)) rfl) rfl (by decide) (cok1 trivial) ?_
                                          refine dv (gyes_none rfl) (OpQ.cast (v' := .int .i64 ((ld + 1 : Nat) : Int)) (q_int rfl rfl rfl) (congrArg _ ((i64_in (by omega)).trans (by first | rfl | omega | (push_cast; rfl))))) rfl (by decide) (cok2 trivial (cconst rfl)) ?_
                                          refine dv (gyes_none rfl) (q_as (v := .int .i64 ((ld + 1 : Nat) : Int)) rfl) rfl (by decide) (cok1 trivial) ?_
                                          refine ⟨_, Wk.refl _ _, ?_⟩
                                          show awp _ _ _ _ _ _ _
                                          refine awp_regs hF ?_
                                          refine dv (gyes_none rfl) (q_field Try.underlying67 rfl Try.sizeOf25 rfl (s66.rd (j := 0) rfl)) rfl (by decide) (cok1 trivial) ?_
                                          refine dv (gyes_none rfl) (q_load (v := .int .u64 (((sgK s i).2.2.2.1 : Nat) : Int)) Try.isAgg25 rfl (s66.rd (j := 0) rfl) rfl) rfl (by decide) (cok1 trivial) ?_
                                          refine dv (gyes_none rfl) (q_field Try.underlying67 rfl Try.sizeOf25 rfl (s66.rd (j := 0) rfl)) rfl (by decide) (cok1 trivial) ?_
                                          refine dv (gyes_none rfl) (q_load (v := .int .u64 (((sgK s i).2.2.2.2.2 : Nat) : Int)) Try.isAgg25 rfl (s66.rd (j := 0) rfl) rfl) rfl (by decide) (cok1 trivial) ?_
                                          refine dv (gyes_none rfl) (OpQ.cast (v' := .int .u64 (((sgK s i).2.2.2.1 + ((sgK s i).2.2.2.2.2) : Nat) : Int)) (q_int rfl rfl rfl) (congrArg _ ((u64_in (by omega)).trans (by first | rfl | omega | (push_cast; rfl))))) rfl (by decide) (cok2 trivial trivial) ?_
                                          refine dv (gyes_none rfl) (OpQ.cast (v' := .int .u64 (((sgK s i).2.2.2.1 + ((sgK s i).2.2.2.2.2) + 255 : Nat) : Int)) (q_int rfl rfl rfl) (congrArg _ ((u64_in (by omega)).trans (by first | rfl | omega | (push_cast; rfl))))) rfl (by decide) (cok2 trivial (cconst rfl)) ?_
                                          refine dv (gyes_none rfl) (q_quoM (a := ((sgK s i).2.2.2.1 + ((sgK s i).2.2.2.2.2) + 255)) (b := 256) rfl rfl (by first | decide | omega) (u64_in (by have := div_le_of (a := ((sgK s i).2.2.2.1 + ((sgK s i).2.2.2.2.2) + 255)) (b := 256) (M := 18446744073709551615) (by omega); omega))) rfl (by decide) (cok2 trivial (cconst rfl)) ?_
                                          refine dv (gyes_none rfl) (OpQ.cast (v' := .int .u64 (((((sgK s i).2.2.2.1 + ((sgK s i).2.2.2.2.2) + 255) / 256) * 256 : Nat) : Int)) (q_int rfl rfl rfl) (congrArg _ ((u64_in (by omega)).trans (by first | rfl | omega | (push_cast; rfl))))) rfl (by decide) (cok2 trivial (cconst rfl)) ?_
                                          refine dv (gyes_none rfl) (q_as (v := .int .u64 (((((sgK s i).2.2.2.1 + ((sgK s i).2.2.2.2.2) + 255) / 256) * 256 : Nat) : Int)) rfl) rfl (by decide) (cok1 trivial) ?_
                                          refine ⟨_, Wk.refl _ _, ?_⟩
                                          show awp _ _ _ _ _ _ _
                                          refine awp_regs hF ?_
                                          refine dv (gyes_none rfl) (q_mv (v := .slice (some ⟨bl, 0, none⟩) i i) rfl) rfl (by decide) (cok1 trivial) ?_
                                          refine dv (gyes_none rfl) (q_loadAgg Try.isAgg67 Try.sizeOf67 rfl (s66.rd (j := 0) rfl) (Nat.le_of_ble_eq_true rfl) rfl) rfl (by decide) (cok1 trivial) ?_
                                          refine x_new (fun b => .slice (some ⟨b, 0, none⟩) 1 1) s66 (gyes_none rfl) (q_buildSliceL (ds := [.int .u64 (((sgK s i).1 : Nat) : Int), .int .u64 (((sgK s i).2.1 : Nat) : Int), .int .u64 (((sgK s i).2.2.1 : Nat) : Int), .int .u64 (((sgK s i).2.2.2.1 : Nat) : Int), .int .u64 (((sgK s i).2.2.2.2.1 : Nat) : Int), .int .u64 (((sgK s i).2.2.2.2.2 : Nat) : Int)]) [.agg #[.int .u64 (((sgK s i).1 : Nat) : Int), .int .u64 (((sgK s i).2.1 : Nat) : Int), .int .u64 (((sgK s i).2.2.1 : Nat) : Int), .int .u64 (((sgK s i).2.2.2.1 : Nat) : Int), .int .u64 (((sgK s i).2.2.2.2.1 : Nat) : Int), .int .u64 (((sgK s i).2.2.2.2.2 : Nat) : Int)]] rfl Try.underlying39 Try.sizeOf67 Try.zeroValue67 rfl (by decide) (by decide) ⟨rfl, trivial⟩ (lvsC (by exact trivial) lvs0) rfl rfl) rfl (by decide) (cok1 trivial) (fun b71 H72 hb74 s73 => ?_)
                                          refine x_appendS (m := 6) (l := [((sgK s i).1, (sgK s i).2.1, (sgK s i).2.2.1, (sgK s i).2.2.2.1, (sgK s i).2.2.2.2.1, (sgK s i).2.2.2.2.2)]) (l0 := lsK s i) (l' := lsK s (i + 1)) (f := segr) [] hF s73 (by kernel_rfl) (j := 2) (i + 1) rfl (gyes_none rfl) Try.underlying39 Try.underlying39 Try.type67 rfl rfl (by decide) rfl segr_w rfl rfl rfl (s73.slsj (l := [((sgK s i).1, (sgK s i).2.1, (sgK s i).2.2.1, (sgK s i).2.2.2.1, (sgK s i).2.2.2.2.1, (sgK s i).2.2.2.2.2)]) segr_w (j := 0) rfl rfl (Nat.le_refl _)) (fun x _ u hu => lc_scalar (segr_sc x u hu)) (lsK_len i).symm (by show (2 * (i + 1) + 1000) * 48 ≤ _; omega) trivial trivial (by decide) rfl rfl (lsK_succ i) (fun b75 H76 hb78 s77 => ⟨?_, ?_⟩)
                                          · exact trivial
                                          refine dv (gyes_none rfl) (q_as (v := .slice (some ⟨b75, 0, none⟩) (i + 1) (i + 1)) rfl) rfl (by decide) (cok1 trivial) ?_
                                          refine ⟨_, Wk.refl _ _, ?_⟩
                                          show awp _ _ _ _ _ _ _
                                          refine awp_regs hF ?_
                                          refine dv (gyes_none rfl) (q_mv (v := .int .i64 ((i : Nat) : Int)) rfl) rfl (by decide) (cok1 trivial) ?_
                                          refine dv (gyes_none rfl) (OpQ.cast (v' := .int .i64 ((i + 1 : Nat) : Int)) (q_int rfl rfl rfl) (congrArg _ ((i64_in (by omega)).trans (by first | rfl | omega | (push_cast; rfl))))) rfl (by decide) (cok2 trivial (cconst rfl)) ?_
                                          refine dv (gyes_none rfl) (q_as (v := .int .i64 ((i + 1 : Nat) : Int)) rfl) rfl (by decide) (cok1 trivial) ?_
                                          refine ⟨_, Wk.U [(0, .string s), (6, .int .i64 ((atV s 56 2 : Nat) : Int)), (7, .int .u64 ((atV s 32 8 : Nat) : Int)), (8, .slice (some ⟨b75, 0, none⟩) (i + 1) (i + 1)), (9, .int .u64 ((((((sgK s i).2.2.2.1 + ((sgK s i).2.2.2.2.2) + 255) / 256) * 256) : Nat) : Int)), (10, .int .i64 (((ld + 1) : Nat) : Int)), (11, .int .i64 (((i + 1) : Nat) : Int))] ⟨rfl, rfl, rfl, rfl, rfl, rfl, rfl, trivial⟩, ((i + 1), ((((sgK s i).2.2.2.1 + ((sgK s i).2.2.2.2.2) + 255) / 256) * 256), (ld + 1)), ⟨_, _, rfl, (s77.sub (.cons _ (.cons _ (.cons_cons _ (.refl _))))), lt_succ_casesN hi (badK_no he hw0), (by omega), (by rw [endK_y (e := 0) hkd]), ⟨by rw [ldK_y hkd, hld.1], by dsimp only; omega⟩⟩, (by omega)⟩
                            ·
                              replace c13 := ne_of_beq_false c13
                              refine dv (gyes_none rfl) (q_as (v := .bool false) rfl) rfl (by decide) (cok1 trivial) ?_
                              refine ⟨_, Wk.refl _ _, ?_⟩
                              show awp _ _ _ _ _ _ _
                              refine awp_seq ?_
                              refine awp_regs hF ?_
                              refine dv (gyes_none rfl) (q_as (v := .int .i64 0) rfl) rfl (by decide) (cok1 (cconst rfl)) ?_
                              refine ⟨_, Wk.refl _ _, ?_⟩
                              show awp _ _ _ _ _ _ _
                              refine awp_join (fun st => ∃ (H79 : AHeap) (ca : Nat), st = ⟨191, U [(0, .string s), (6, .int .i64 ((atV s 56 2 : Nat) : Int)), (7, .int .u64 ((atV s 32 8 : Nat) : Int)), (8, .slice (some ⟨bl, 0, none⟩) i i), (9, .int .u64 ((e : Nat) : Int)), (10, .int .i64 ((ld : Nat) : Int)), (11, .int .i64 ((i : Nat) : Int)), (12, .int .i64 ((atV s 32 8 + (i * 56) : Nat) : Int)), (13, .pointer (some ⟨b51, 0, none⟩)), (14, .bool false), (15, .int .i64 ((ca : Nat) : Int))], [], H79⟩ ∧ St H0 (none0) (Rd H0) H79 [(b51, .cells true [.int .u64 (((sgK s i).1 : Nat) : Int), .int .u64 (((sgK s i).2.1 : Nat) : Int), .int .u64 (((sgK s i).2.2.1 : Nat) : Int), .int .u64 (((sgK s i).2.2.2.1 : Nat) : Int), .int .u64 (((sgK s i).2.2.2.2.1 : Nat) : Int), .int .u64 (((sgK s i).2.2.2.2.2 : Nat) : Int)] 6), (bl, .cells true (fl segr (lsK s i)) 6)] ∧ ((sgK s i).1 = 1 ∧ (sgK s i).2.2.2.1 < e ∧ ca = 8 ∨ ¬ ((sgK s i).1 = 1 ∧ (sgK s i).2.2.2.1 < e) ∧ ca = 0)) ?j1 ?j2
                              case j1 =>
                                refine awp_seq ?_
                                refine awp_regs hF ?_
                                refine dv (gyes_none rfl) (q_mv (v := .bool false) rfl) rfl (by decide) (cok1 trivial) ?_
                                refine dv (gyes_none rfl) (q_mv (v := .bool false) rfl) rfl (by decide) (cok1 trivial) ?_
                                refine dno rfl (.inl rfl) rfl (by decide) ?_
                                refine dno rfl (.inl rfl) rfl (by decide) ?_
                                refine dno rfl (.inl rfl) rfl (by decide) ?_
                                refine dno rfl (.inl rfl) rfl (by decide) ?_
                                refine dv (gyes_none rfl) (q_pf (v := .bool false) rfl rfl) rfl (by decide) (call_ok rfl) ?_
                                refine ⟨_, Wk.refl _ _, ?_⟩
                                show awp _ _ _ _ _ _ _
                                refine awp_cond_f rfl ?_
                                refine awp_skip_wk ?_
                                exact ⟨_, Wk.U [(0, .string s), (6, .int .i64 ((atV s 56 2 : Nat) : Int)), (7, .int .u64 ((atV s 32 8 : Nat) : Int)), (8, .slice (some ⟨bl, 0, none⟩) i i), (9, .int .u64 ((e : Nat) : Int)), (10, .int .i64 ((ld : Nat) : Int)), (11, .int .i64 ((i : Nat) : Int)), (12, .int .i64 ((atV s 32 8 + (i * 56) : Nat) : Int)), (13, .pointer (some ⟨b51, 0, none⟩)), (14, .bool false), (15, .int .i64 0)] ⟨rfl, rfl, rfl, rfl, rfl, rfl, rfl, rfl, rfl, rfl, rfl, trivial⟩, ⟨_, 0, rfl, s56, (by omega)⟩⟩
                              case j2 =>
                                rintro _ ⟨H79, ca, rfl, s80, hca⟩
                                refine awp_join (fun st => ∃ (H81 : AHeap) (cb : Nat), st = ⟨191, U [(0, .string s), (6, .int .i64 ((atV s 56 2 : Nat) : Int)), (7, .int .u64 ((atV s 32 8 : Nat) : Int)), (8, .slice (some ⟨bl, 0, none⟩) i i), (9, .int .u64 ((e : Nat) : Int)), (10, .int .i64 ((ld : Nat) : Int)), (11, .int .i64 ((i : Nat) : Int)), (12, .int .i64 ((atV s 32 8 + (i * 56) : Nat) : Int)), (13, .pointer (some ⟨b51, 0, none⟩)), (14, .bool false), (15, .int .i64 ((cb : Nat) : Int))], [], H81⟩ ∧ St H0 (none0) (Rd H0) H81 [(b51, .cells true [.int .u64 (((sgK s i).1 : Nat) : Int), .int .u64 (((sgK s i).2.1 : Nat) : Int), .int .u64 (((sgK s i).2.2.1 : Nat) : Int), .int .u64 (((sgK s i).2.2.2.1 : Nat) : Int), .int .u64 (((sgK s i).2.2.2.2.1 : Nat) : Int), .int .u64 (((sgK s i).2.2.2.2.2 : Nat) : Int)] 6), (bl, .cells true (fl segr (lsK s i)) 6)] ∧ ((sgK s i).2.2.1 + (sgK s i).2.2.2.2.1 ≤ s.size ∧ cb = ca ∨ s.size < (sgK s i).2.2.1 + (sgK s i).2.2.2.2.1 ∧ cb = 2)) ?j1 ?j2
                                case j1 =>
                                  refine awp_seq ?_
                                  refine awp_regs hF ?_
                                  refine dv (gyes_none rfl) (q_field Try.underlying67 rfl Try.sizeOf25 rfl (s80.rd (j := 0) rfl)) rfl (by decide) (cok1 trivial) ?_
                                  refine dv (gyes_none rfl) (q_load (v := .int .u64 (((sgK s i).2.2.1 : Nat) : Int)) Try.isAgg25 rfl (s80.rd (j := 0) rfl) rfl) rfl (by decide) (cok1 trivial) ?_
                                  refine dv (gyes_none rfl) (q_mv (v := .string s) rfl) rfl (by decide) (cok1 trivial) ?_
                                  refine dv (gyes_none rfl) (q_len_str Try.underlying9 rfl) rfl (by decide) (cok1 trivial) ?_
                                  refine dv (gyes_none rfl) (q_convin (a := ((s.size : Nat) : Int)) Try.underlying3 Try.underlying25 rfl (u64_in (by omega))) rfl (by decide) (cok1 trivial) ?_
                                  refine dvb (gyes_none rfl) (q_int rfl rfl rfl) rfl (by decide) (cok2 trivial trivial) (fun c23 => ?_) (fun c23 => ?_)
                                  ·
                                    replace c23 := of_decide_eq_true c23
                                    refine dv (gyes_none rfl) (q_mv (v := .bool true) rfl) rfl (by decide) (cok1 trivial) ?_
                                    refine dno rfl (.inl rfl) rfl (by decide) ?_
                                    refine dno rfl (.inl rfl) rfl (by decide) ?_
                                    refine dno rfl (.inl rfl) rfl (by decide) ?_
                                    refine dno rfl (.inl rfl) rfl (by decide) ?_
                                    refine dno rfl (.inl rfl) rfl (by decide) ?_
                                    refine dno rfl (.inl rfl) rfl (by decide) ?_
                                    refine dno rfl (.inl rfl) rfl (by decide) ?_
                                    refine dno rfl (.inl rfl) rfl (by decide) ?_
                                    refine dno rfl (.inl rfl) rfl (by decide) ?_
                                    refine dv (gyes_none rfl) (q_pt (v := .bool true) rfl rfl) rfl (by decide) (call_ok rfl) ?_
                                    refine ⟨_, Wk.refl _ _, ?_⟩
                                    show awp _ _ _ _ _ _ _
                                    refine awp_cond_t rfl ?_
                                    refine awp_regs hF ?_
                                    refine dv (gyes_none rfl) (q_as (v := .int .i64 2) rfl) rfl (by decide) (cok1 (cconst rfl)) ?_
                                    exact ⟨_, Wk.U [(0, .string s), (6, .int .i64 ((atV s 56 2 : Nat) : Int)), (7, .int .u64 ((atV s 32 8 : Nat) : Int)), (8, .slice (some ⟨bl, 0, none⟩) i i), (9, .int .u64 ((e : Nat) : Int)), (10, .int .i64 ((ld : Nat) : Int)), (11, .int .i64 ((i : Nat) : Int)), (12, .int .i64 ((atV s 32 8 + (i * 56) : Nat) : Int)), (13, .pointer (some ⟨b51, 0, none⟩)), (14, .bool false), (15, .int .i64 2)] ⟨rfl, rfl, rfl, rfl, rfl, rfl, rfl, rfl, rfl, rfl, rfl, trivial⟩, ⟨_, 2, rfl, s80, (by omega)⟩⟩
                                  ·
                                    replace c23 := of_decide_eq_false c23
                                    refine dv (gyes_none rfl) (q_mv (v := .bool false) rfl) rfl (by decide) (cok1 trivial) ?_
                                    refine dv (gyes_some rfl rfl) (q_field Try.underlying67 rfl Try.sizeOf25 rfl (s80.rd (j := 0) rfl)) rfl (by decide) (cok1 trivial) ?_
                                    refine dv (gyes_some rfl rfl) (q_load (v := .int .u64 (((sgK s i).2.2.2.2.1 : Nat) : Int)) Try.isAgg25 rfl (s80.rd (j := 0) rfl) rfl) rfl (by decide) (cok1 trivial) ?_
                                    refine dv (gyes_some rfl rfl) (q_mv (v := .string s) rfl) rfl (by decide) (cok1 trivial) ?_
                                    refine dv (gyes_some rfl rfl) (q_len_str Try.underlying9 rfl) rfl (by decide) (cok1 trivial) ?_
                                    refine dv (gyes_some rfl rfl) (q_convin (a := ((s.size : Nat) : Int)) Try.underlying3 Try.underlying25 rfl (u64_in (by omega))) rfl (by decide) (cok1 trivial) ?_
                                    refine dv (gyes_some rfl rfl) (q_field Try.underlying67 rfl Try.sizeOf25 rfl (s80.rd (j := 0) rfl)) rfl (by decide) (cok1 trivial) ?_
                                    refine dv (gyes_some rfl rfl) (q_load (v := .int .u64 (((sgK s i).2.2.1 : Nat) : Int)) Try.isAgg25 rfl (s80.rd (j := 0) rfl) rfl) rfl (by decide) (cok1 trivial) ?_
                                    refine dv (gyes_some rfl rfl) (OpQ.cast (v' := .int .u64 ((s.size - ((sgK s i).2.2.1) : Nat) : Int)) (q_int rfl rfl rfl) (congrArg _ ((u64_in (by omega)).trans (by omega)))) rfl (by decide) (cok2 trivial trivial) ?_
                                    refine dvb (gyes_some rfl rfl) (q_int rfl rfl rfl) rfl (by decide) (cok2 trivial trivial) (fun c24 => ?_) (fun c24 => ?_)
                                    ·
                                      replace c24 := of_decide_eq_true c24
                                      refine dv (gyes_none rfl) (q_pf (v := .bool true) rfl rfl) rfl (by decide) (call_ok rfl) ?_
                                      refine ⟨_, Wk.refl _ _, ?_⟩
                                      show awp _ _ _ _ _ _ _
                                      refine awp_cond_t rfl ?_
                                      refine awp_regs hF ?_
                                      refine dv (gyes_none rfl) (q_as (v := .int .i64 2) rfl) rfl (by decide) (cok1 (cconst rfl)) ?_
                                      exact ⟨_, Wk.U [(0, .string s), (6, .int .i64 ((atV s 56 2 : Nat) : Int)), (7, .int .u64 ((atV s 32 8 : Nat) : Int)), (8, .slice (some ⟨bl, 0, none⟩) i i), (9, .int .u64 ((e : Nat) : Int)), (10, .int .i64 ((ld : Nat) : Int)), (11, .int .i64 ((i : Nat) : Int)), (12, .int .i64 ((atV s 32 8 + (i * 56) : Nat) : Int)), (13, .pointer (some ⟨b51, 0, none⟩)), (14, .bool false), (15, .int .i64 2)] ⟨rfl, rfl, rfl, rfl, rfl, rfl, rfl, rfl, rfl, rfl, rfl, trivial⟩, ⟨_, 2, rfl, s80, (by omega)⟩⟩
                                    ·
                                      replace c24 := of_decide_eq_false c24
                                      refine dv (gyes_none rfl) (q_pf (v := .bool false) rfl rfl) rfl (by decide) (call_ok rfl) ?_
                                      refine ⟨_, Wk.refl _ _, ?_⟩
                                      show awp _ _ _ _ _ _ _
                                      refine awp_cond_f rfl ?_
                                      refine awp_skip_wk ?_
                                      exact ⟨_, Wk.U [(0, .string s), (6, .int .i64 ((atV s 56 2 : Nat) : Int)), (7, .int .u64 ((atV s 32 8 : Nat) : Int)), (8, .slice (some ⟨bl, 0, none⟩) i i), (9, .int .u64 ((e : Nat) : Int)), (10, .int .i64 ((ld : Nat) : Int)), (11, .int .i64 ((i : Nat) : Int)), (12, .int .i64 ((atV s 32 8 + (i * 56) : Nat) : Int)), (13, .pointer (some ⟨b51, 0, none⟩)), (14, .bool false), (15, .int .i64 ((ca : Nat) : Int))] ⟨rfl, rfl, rfl, rfl, rfl, rfl, rfl, rfl, rfl, rfl, rfl, trivial⟩, ⟨_, ca, rfl, s80, (by omega)⟩⟩
                                case j2 =>
                                  rintro _ ⟨H81, cb, rfl, s82, hcb⟩
                                  refine awp_join (fun st => ∃ (H83 : AHeap) (cc : Nat), st = ⟨191, U [(0, .string s), (6, .int .i64 ((atV s 56 2 : Nat) : Int)), (7, .int .u64 ((atV s 32 8 : Nat) : Int)), (8, .slice (some ⟨bl, 0, none⟩) i i), (9, .int .u64 ((e : Nat) : Int)), (10, .int .i64 ((ld : Nat) : Int)), (11, .int .i64 ((i : Nat) : Int)), (12, .int .i64 ((atV s 32 8 + (i * 56) : Nat) : Int)), (13, .pointer (some ⟨b51, 0, none⟩)), (14, .bool false), (15, .int .i64 ((cc : Nat) : Int))], [], H83⟩ ∧ St H0 (none0) (Rd H0) H83 [(b51, .cells true [.int .u64 (((sgK s i).1 : Nat) : Int), .int .u64 (((sgK s i).2.1 : Nat) : Int), .int .u64 (((sgK s i).2.2.1 : Nat) : Int), .int .u64 (((sgK s i).2.2.2.1 : Nat) : Int), .int .u64 (((sgK s i).2.2.2.2.1 : Nat) : Int), .int .u64 (((sgK s i).2.2.2.2.2 : Nat) : Int)] 6), (bl, .cells true (fl segr (lsK s i)) 6)] ∧ ((sgK s i).1 = 1 ∧ (1073741824 < (sgK s i).2.2.2.1 ∨ 1073741824 - (sgK s i).2.2.2.1 < (sgK s i).2.2.2.2.2) ∧ cc = 5 ∨ ¬ ((sgK s i).1 = 1 ∧ (1073741824 < (sgK s i).2.2.2.1 ∨ 1073741824 - (sgK s i).2.2.2.1 < (sgK s i).2.2.2.2.2)) ∧ cc = cb)) ?j1 ?j2
                                  case j1 =>
                                    refine awp_seq ?_
                                    refine awp_regs hF ?_
                                    refine dv (gyes_none rfl) (q_mv (v := .bool false) rfl) rfl (by decide) (cok1 trivial) ?_
                                    refine dv (gyes_none rfl) (q_mv (v := .bool false) rfl) rfl (by decide) (cok1 trivial) ?_
                                    refine dno rfl (.inl rfl) rfl (by decide) ?_
                                    refine dno rfl (.inl rfl) rfl (by decide) ?_
                                    refine dno rfl (.inl rfl) rfl (by decide) ?_
                                    refine dno rfl (.inl rfl) rfl (by decide) ?_
                                    refine dno rfl (.inr rfl) rfl (by decide) ?_
                                    refine dno rfl (.inr rfl) rfl (by decide) ?_
                                    refine dno rfl (.inr rfl) rfl (by decide) ?_
                                    refine dno rfl (.inr rfl) rfl (by decide) ?_
                                    refine dno rfl (.inr rfl) rfl (by decide) ?_
                                    refine dno rfl (.inr rfl) rfl (by decide) ?_
                                    refine dno rfl (.inl rfl) rfl (by decide) ?_
                                    refine dv (gyes_none rfl) (q_pf (v := .bool false) rfl rfl) rfl (by decide) (call_ok rfl) ?_
                                    refine ⟨_, Wk.refl _ _, ?_⟩
                                    show awp _ _ _ _ _ _ _
                                    refine awp_cond_f rfl ?_
                                    refine awp_skip_wk ?_
                                    exact ⟨_, Wk.U [(0, .string s), (6, .int .i64 ((atV s 56 2 : Nat) : Int)), (7, .int .u64 ((atV s 32 8 : Nat) : Int)), (8, .slice (some ⟨bl, 0, none⟩) i i), (9, .int .u64 ((e : Nat) : Int)), (10, .int .i64 ((ld : Nat) : Int)), (11, .int .i64 ((i : Nat) : Int)), (12, .int .i64 ((atV s 32 8 + (i * 56) : Nat) : Int)), (13, .pointer (some ⟨b51, 0, none⟩)), (14, .bool false), (15, .int .i64 ((cb : Nat) : Int))] ⟨rfl, rfl, rfl, rfl, rfl, rfl, rfl, rfl, rfl, rfl, rfl, trivial⟩, ⟨_, cb, rfl, s82, (by omega)⟩⟩
                                  case j2 =>
                                    rintro _ ⟨H83, cc, rfl, s84, hcc⟩
                                    refine awp_join (fun st => ∃ (H85 : AHeap) (cd : Nat), st = ⟨191, U [(0, .string s), (6, .int .i64 ((atV s 56 2 : Nat) : Int)), (7, .int .u64 ((atV s 32 8 : Nat) : Int)), (8, .slice (some ⟨bl, 0, none⟩) i i), (9, .int .u64 ((e : Nat) : Int)), (10, .int .i64 ((ld : Nat) : Int)), (11, .int .i64 ((i : Nat) : Int)), (12, .int .i64 ((atV s 32 8 + (i * 56) : Nat) : Int)), (13, .pointer (some ⟨b51, 0, none⟩)), (14, .bool false), (15, .int .i64 ((cd : Nat) : Int))], [], H85⟩ ∧ St H0 (none0) (Rd H0) H85 [(b51, .cells true [.int .u64 (((sgK s i).1 : Nat) : Int), .int .u64 (((sgK s i).2.1 : Nat) : Int), .int .u64 (((sgK s i).2.2.1 : Nat) : Int), .int .u64 (((sgK s i).2.2.2.1 : Nat) : Int), .int .u64 (((sgK s i).2.2.2.2.1 : Nat) : Int), .int .u64 (((sgK s i).2.2.2.2.2 : Nat) : Int)] 6), (bl, .cells true (fl segr (lsK s i)) 6)] ∧ ((sgK s i).1 = 1 ∧ ((sgK s i).2.2.2.2.2 = 0 ∨ (sgK s i).2.2.2.2.2 < (sgK s i).2.2.2.2.1) ∧ cd = 4 ∨ ¬ ((sgK s i).1 = 1 ∧ ((sgK s i).2.2.2.2.2 = 0 ∨ (sgK s i).2.2.2.2.2 < (sgK s i).2.2.2.2.1)) ∧ cd = cc)) ?j1 ?j2
                                    case j1 =>
                                      refine awp_seq ?_
                                      refine awp_regs hF ?_
                                      refine dv (gyes_none rfl) (q_mv (v := .bool false) rfl) rfl (by decide) (cok1 trivial) ?_
                                      refine dv (gyes_none rfl) (q_mv (v := .bool false) rfl) rfl (by decide) (cok1 trivial) ?_
                                      refine dno rfl (.inl rfl) rfl (by decide) ?_
                                      refine dno rfl (.inl rfl) rfl (by decide) ?_
                                      refine dno rfl (.inl rfl) rfl (by decide) ?_
                                      refine dno rfl (.inl rfl) rfl (by decide) ?_
                                      refine dno rfl (.inr rfl) rfl (by decide) ?_
                                      refine dno rfl (.inr rfl) rfl (by decide) ?_
                                      refine dno rfl (.inr rfl) rfl (by decide) ?_
                                      refine dno rfl (.inr rfl) rfl (by decide) ?_
                                      refine dno rfl (.inr rfl) rfl (by decide) ?_
                                      refine dno rfl (.inl rfl) rfl (by decide) ?_
                                      refine dv (gyes_none rfl) (q_pf (v := .bool false) rfl rfl) rfl (by decide) (call_ok rfl) ?_
                                      refine ⟨_, Wk.refl _ _, ?_⟩
                                      show awp _ _ _ _ _ _ _
                                      refine awp_cond_f rfl ?_
                                      refine awp_skip_wk ?_
                                      exact ⟨_, Wk.U [(0, .string s), (6, .int .i64 ((atV s 56 2 : Nat) : Int)), (7, .int .u64 ((atV s 32 8 : Nat) : Int)), (8, .slice (some ⟨bl, 0, none⟩) i i), (9, .int .u64 ((e : Nat) : Int)), (10, .int .i64 ((ld : Nat) : Int)), (11, .int .i64 ((i : Nat) : Int)), (12, .int .i64 ((atV s 32 8 + (i * 56) : Nat) : Int)), (13, .pointer (some ⟨b51, 0, none⟩)), (14, .bool false), (15, .int .i64 ((cc : Nat) : Int))] ⟨rfl, rfl, rfl, rfl, rfl, rfl, rfl, rfl, rfl, rfl, rfl, trivial⟩, ⟨_, cc, rfl, s84, (by omega)⟩⟩
                                    case j2 =>
                                      rintro _ ⟨H85, cd, rfl, s86, hcd⟩
                                      refine awp_join (fun st => ∃ (H87 : AHeap) (ce : Nat), st = ⟨191, U [(0, .string s), (6, .int .i64 ((atV s 56 2 : Nat) : Int)), (7, .int .u64 ((atV s 32 8 : Nat) : Int)), (8, .slice (some ⟨bl, 0, none⟩) i i), (9, .int .u64 ((e : Nat) : Int)), (10, .int .i64 ((ld : Nat) : Int)), (11, .int .i64 ((i : Nat) : Int)), (12, .int .i64 ((atV s 32 8 + (i * 56) : Nat) : Int)), (13, .pointer (some ⟨b51, 0, none⟩)), (14, .bool false), (15, .int .i64 ((ce : Nat) : Int))], [], H87⟩ ∧ St H0 (none0) (Rd H0) H87 [(b51, .cells true [.int .u64 (((sgK s i).1 : Nat) : Int), .int .u64 (((sgK s i).2.1 : Nat) : Int), .int .u64 (((sgK s i).2.2.1 : Nat) : Int), .int .u64 (((sgK s i).2.2.2.1 : Nat) : Int), .int .u64 (((sgK s i).2.2.2.2.1 : Nat) : Int), .int .u64 (((sgK s i).2.2.2.2.2 : Nat) : Int)] 6), (bl, .cells true (fl segr (lsK s i)) 6)] ∧ ((sgK s i).1 = 1 ∧ (sgK s i).2.2.2.1 % 256 ≠ 0 ∧ ce = 13 ∨ ¬ ((sgK s i).1 = 1 ∧ (sgK s i).2.2.2.1 % 256 ≠ 0) ∧ ce = cd)) ?j1 ?j2
                                      case j1 =>
                                        refine awp_seq ?_
                                        refine awp_regs hF ?_
                                        refine dv (gyes_none rfl) (q_mv (v := .bool false) rfl) rfl (by decide) (cok1 trivial) ?_
                                        refine dv (gyes_none rfl) (q_mv (v := .bool false) rfl) rfl (by decide) (cok1 trivial) ?_
                                        refine dno rfl (.inl rfl) rfl (by decide) ?_
                                        refine dno rfl (.inl rfl) rfl (by decide) ?_
                                        refine dno rfl (.inl rfl) rfl (by decide) ?_
                                        refine dno rfl (.inl rfl) rfl (by decide) ?_
                                        refine dv (gyes_none rfl) (q_pf (v := .bool false) rfl rfl) rfl (by decide) (call_ok rfl) ?_
                                        refine ⟨_, Wk.refl _ _, ?_⟩
                                        show awp _ _ _ _ _ _ _
                                        refine awp_cond_f rfl ?_
                                        refine awp_skip_wk ?_
                                        exact ⟨_, Wk.U [(0, .string s), (6, .int .i64 ((atV s 56 2 : Nat) : Int)), (7, .int .u64 ((atV s 32 8 : Nat) : Int)), (8, .slice (some ⟨bl, 0, none⟩) i i), (9, .int .u64 ((e : Nat) : Int)), (10, .int .i64 ((ld : Nat) : Int)), (11, .int .i64 ((i : Nat) : Int)), (12, .int .i64 ((atV s 32 8 + (i * 56) : Nat) : Int)), (13, .pointer (some ⟨b51, 0, none⟩)), (14, .bool false), (15, .int .i64 ((cd : Nat) : Int))] ⟨rfl, rfl, rfl, rfl, rfl, rfl, rfl, rfl, rfl, rfl, rfl, trivial⟩, ⟨_, cd, rfl, s86, (by omega)⟩⟩
                                      case j2 =>
                                        rintro _ ⟨H87, ce, rfl, s88, hce⟩
                                        refine awp_seq ?_
                                        refine awp_seq ?_
                                        refine awp_regs hF ?_
                                        refine dv (gyes_none rfl) (q_mv (v := .int .i64 ((ce : Nat) : Int)) rfl) rfl (by decide) (cok1 trivial) ?_
                                        refine dvb (gyes_none rfl) (q_int rfl rfl rfl) rfl (by decide) (cok2 trivial (cconst rfl)) (fun c25 => ?_) (fun c25 => ?_)
                                        ·
                                          replace c25 := bne_iff_ne.1 c25
                                          have hw1 : wrongC s (sgK s i) e = ce := wrongC_of hca hcb hcc hcd hce
                                          refine ⟨_, Wk.refl _ _, ?_⟩
                                          show awp _ _ _ _ _ _ _
                                          refine awp_cond_t rfl ?_
                                          refine awp_seq ?_
                                          refine awp_regs hF ?_
                                          refine dv (gyes_none rfl) (q_mv (v := .int .i64 ((ce : Nat) : Int)) rfl) rfl (by decide) (cok1 trivial) ?_
                                          refine dv (gyes_none rfl) (q_mv (v := .int .i64 ((atV s 32 8 + (i * 56) : Nat) : Int)) rfl) rfl (by decide) (cok1 trivial) ?_
                                          refine dv (gyes_none rfl) (q_convin (a := ((atV s 32 8 + (i * 56) : Nat) : Int)) Try.underlying3 Try.underlying25 rfl (u64_in (by omega))) rfl (by decide) (cok1 trivial) ?_
                                          refine dv (gyes_none rfl) (q_as (v := .int .u64 0) rfl) rfl (by decide) (cok1 (cconst rfl)) ?_
                                          refine dv (gyes_none rfl) (q_as (v := .slice none 0 0) rfl) rfl (by decide) (cok1 (cconst rfl)) ?_
                                          refine dv (gyes_none rfl) (q_as (v := .int .i64 ((ce : Nat) : Int)) rfl) rfl (by decide) (cok1 trivial) ?_
                                          refine dv (gyes_none rfl) (q_as (v := .int .u64 ((atV s 32 8 + (i * 56) : Nat) : Int)) rfl) rfl (by decide) (cok1 trivial) ?_
                                          refine ⟨_, Wk.refl _ _, ?_⟩
                                          show awp _ _ _ _ _ _ _
                                          refine awp_nil s88 3 6 rfl (fun b89 H90 hb92 s91 => ?_)
                                          refine awp_ret_wk ?_
                                          obtain ⟨e1, e2, e3, e4, e5⟩ := hr_bad hd0 (k := i) (by omega) (by rw [← he, hw1]; omega) hi
                                          refine ⟨_, Wk.refl _ _, ?_⟩
                                          repeat (with_reducible first | refine then_ret ?_ | refine blk_ret ?_ | refine then_exit ?_ | refine blk_exit ?_ | refine blk_exit' (by decide) ?_ | refine blk_normal ?_ | refine then_normal ?_ | refine retq_ret ?_ | refine retq_normal ?_ | refine ng_normal ?_ | refine ng_ret ?_ | refine ng_exit ?_)
                                          refine ret_is (v := .tuple #[.int .u64 0, .slice (some ⟨b89, 0, none⟩) 0 0, .int .i64 ((ce : Nat) : Int), .int .u64 ((atV s 32 8 + (i * 56) : Nat) : Int)]) rfl (.tmp rfl (.tmp rfl (.tmp rfl (.tmp rfl .nil)))) rfl ?_
                                          exact ⟨_, by rw [e1, e2, e3, ← he, hw1]; first | done | rfl, freshS_of (l := []) s91 (j := 0) rfl rfl e5⟩
                                        ·
                                          replace c25 := bne_eq_false_iff_eq.1 c25
                                          have hw0 : wrongC s (sgK s i) e = 0 := (wrongC_of hca hcb hcc hcd hce).trans (by omega)
                                          have hin := wrong_in hw0
                                          have hkd : (sgK s i).1 ≠ 1 := by omega
                                          refine ⟨_, Wk.refl _ _, ?_⟩
                                          show awp _ _ _ _ _ _ _
                                          refine awp_cond_f rfl ?_
                                          refine awp_skip_wk ?_
                                          refine ⟨_, Wk.refl _ _, ?_⟩
                                          show awp _ _ _ _ _ _ _
                                          refine awp_seq ?_
                                          refine awp_seq ?_
                                          refine awp_regs hF ?_
                                          refine dv (gyes_none rfl) (q_mv (v := .bool false) rfl) rfl (by decide) (cok1 trivial) ?_
                                          refine ⟨_, Wk.refl _ _, ?_⟩
                                          show awp _ _ _ _ _ _ _
                                          refine awp_cond_f rfl ?_
                                          refine awp_skip_wk ?_
                                          refine ⟨_, Wk.refl _ _, ?_⟩
                                          show awp _ _ _ _ _ _ _
                                          refine awp_regs hF ?_
                                          refine dv (gyes_none rfl) (q_mv (v := .slice (some ⟨bl, 0, none⟩) i i) rfl) rfl (by decide) (cok1 trivial) ?_
                                          refine dv (gyes_none rfl) (q_loadAgg Try.isAgg67 Try.sizeOf67 rfl (s88.rd (j := 0) rfl) (Nat.le_of_ble_eq_true rfl) rfl) rfl (by decide) (cok1 trivial) ?_
                                          refine x_new (fun b => .slice (some ⟨b, 0, none⟩) 1 1) s88 (gyes_none rfl) (q_buildSliceL (ds := [.int .u64 (((sgK s i).1 : Nat) : Int), .int .u64 (((sgK s i).2.1 : Nat) : Int), .int .u64 (((sgK s i).2.2.1 : Nat) : Int), .int .u64 (((sgK s i).2.2.2.1 : Nat) : Int), .int .u64 (((sgK s i).2.2.2.2.1 : Nat) : Int), .int .u64 (((sgK s i).2.2.2.2.2 : Nat) : Int)]) [.agg #[.int .u64 (((sgK s i).1 : Nat) : Int), .int .u64 (((sgK s i).2.1 : Nat) : Int), .int .u64 (((sgK s i).2.2.1 : Nat) : Int), .int .u64 (((sgK s i).2.2.2.1 : Nat) : Int), .int .u64 (((sgK s i).2.2.2.2.1 : Nat) : Int), .int .u64 (((sgK s i).2.2.2.2.2 : Nat) : Int)]] rfl Try.underlying39 Try.sizeOf67 Try.zeroValue67 rfl (by decide) (by decide) ⟨rfl, trivial⟩ (lvsC (by exact trivial) lvs0) rfl rfl) rfl (by decide) (cok1 trivial) (fun b93 H94 hb96 s95 => ?_)
                                          refine x_appendS (m := 6) (l := [((sgK s i).1, (sgK s i).2.1, (sgK s i).2.2.1, (sgK s i).2.2.2.1, (sgK s i).2.2.2.2.1, (sgK s i).2.2.2.2.2)]) (l0 := lsK s i) (l' := lsK s (i + 1)) (f := segr) [] hF s95 (by kernel_rfl) (j := 2) (i + 1) rfl (gyes_none rfl) Try.underlying39 Try.underlying39 Try.type67 rfl rfl (by decide) rfl segr_w rfl rfl rfl (s95.slsj (l := [((sgK s i).1, (sgK s i).2.1, (sgK s i).2.2.1, (sgK s i).2.2.2.1, (sgK s i).2.2.2.2.1, (sgK s i).2.2.2.2.2)]) segr_w (j := 0) rfl rfl (Nat.le_refl _)) (fun x _ u hu => lc_scalar (segr_sc x u hu)) (lsK_len i).symm (by show (2 * (i + 1) + 1000) * 48 ≤ _; omega) trivial trivial (by decide) rfl rfl (lsK_succ i) (fun b97 H98 hb100 s99 => ⟨?_, ?_⟩)
                                          · exact trivial
                                          refine dv (gyes_none rfl) (q_as (v := .slice (some ⟨b97, 0, none⟩) (i + 1) (i + 1)) rfl) rfl (by decide) (cok1 trivial) ?_
                                          refine ⟨_, Wk.refl _ _, ?_⟩
                                          show awp _ _ _ _ _ _ _
                                          refine awp_regs hF ?_
                                          refine dv (gyes_none rfl) (q_mv (v := .int .i64 ((i : Nat) : Int)) rfl) rfl (by decide) (cok1 trivial) ?_
                                          refine dv (gyes_none rfl) (OpQ.cast (v' := .int .i64 ((i + 1 : Nat) : Int)) (q_int rfl rfl rfl) (congrArg _ ((i64_in (by omega)).trans (by first | rfl | omega | (push_cast; rfl))))) rfl (by decide) (cok2 trivial (cconst rfl)) ?_
                                          refine dv (gyes_none rfl) (q_as (v := .int .i64 ((i + 1 : Nat) : Int)) rfl) rfl (by decide) (cok1 trivial) ?_
                                          refine ⟨_, Wk.U [(0, .string s), (6, .int .i64 ((atV s 56 2 : Nat) : Int)), (7, .int .u64 ((atV s 32 8 : Nat) : Int)), (8, .slice (some ⟨b97, 0, none⟩) (i + 1) (i + 1)), (9, .int .u64 ((e : Nat) : Int)), (10, .int .i64 ((ld : Nat) : Int)), (11, .int .i64 (((i + 1) : Nat) : Int))] ⟨rfl, rfl, rfl, rfl, rfl, rfl, rfl, trivial⟩, ((i + 1), e, ld), ⟨_, _, rfl, (s99.sub (.cons _ (.cons _ (.cons_cons _ (.refl _))))), lt_succ_casesN hi (badK_no he hw0), (by omega), (by rw [endK_n hkd]; exact he), ⟨by rw [ldK_n hkd, hld.1], by dsimp only; omega⟩⟩, (by omega)⟩
                          ·
                            replace c12 := of_decide_eq_false c12
                            have hkk : i = atV s 56 2 := by omega
                            refine ⟨_, Wk.refl _ _, ?_⟩
                            show awp _ _ _ _ _ _ _
                            refine awp_cond_f rfl ?_
                            refine awp_exit_wk ?_
                            refine ⟨_, Wk.refl _ _, ?_⟩
                            show awp _ _ _ _ _ _ _
                            refine awp_seq ?_
                            refine awp_seq ?_
                            refine awp_regs hF ?_
                            refine dv (gyes_none rfl) (q_mv (v := .int .i64 ((ld : Nat) : Int)) rfl) rfl (by decide) (cok1 trivial) ?_
                            refine dvb (gyes_none rfl) (q_int rfl rfl rfl) rfl (by decide) (cok2 trivial (cconst rfl)) (fun c26 => ?_) (fun c26 => ?_)
                            ·
                              replace c26 := eq_of_beq c26
                              refine ⟨_, Wk.refl _ _, ?_⟩
                              show awp _ _ _ _ _ _ _
                              refine awp_cond_t rfl ?_
                              refine awp_seq ?_
                              refine awp_regs hF ?_
                              refine dv (gyes_none rfl) (q_as (v := .int .u64 0) rfl) rfl (by decide) (cok1 (cconst rfl)) ?_
                              refine dv (gyes_none rfl) (q_as (v := .slice none 0 0) rfl) rfl (by decide) (cok1 (cconst rfl)) ?_
                              refine dv (gyes_none rfl) (q_as (v := .int .i64 18) rfl) rfl (by decide) (cok1 (cconst rfl)) ?_
                              refine dv (gyes_none rfl) (q_as (v := .int .u64 0) rfl) rfl (by decide) (cok1 (cconst rfl)) ?_
                              refine ⟨_, Wk.refl _ _, ?_⟩
                              show awp _ _ _ _ _ _ _
                              refine awp_nil s50 3 6 rfl (fun b101 H102 hb104 s103 => ?_)
                              refine awp_ret_wk ?_
                              obtain ⟨e1, e2, e3, e4, e5⟩ := hr_none hd0 (by rw [hN, ← hkk]; exact hi) (by rw [hN, ← hkk, ← hld.1]; omega)
                              refine ⟨_, Wk.refl _ _, ?_⟩
                              repeat (with_reducible first | refine then_ret ?_ | refine blk_ret ?_ | refine then_exit ?_ | refine blk_exit ?_ | refine blk_exit' (by decide) ?_ | refine blk_normal ?_ | refine then_normal ?_ | refine retq_ret ?_ | refine retq_normal ?_ | refine ng_normal ?_ | refine ng_ret ?_ | refine ng_exit ?_)
                              refine ret_is (v := .tuple #[.int .u64 0, .slice (some ⟨b101, 0, none⟩) 0 0, .int .i64 18, .int .u64 0]) rfl (.tmp rfl (.tmp rfl (.tmp rfl (.tmp rfl .nil)))) rfl ?_
                              exact ⟨_, by rw [e1, e2, e3]; first | done | rfl, freshS_of (l := []) s103 (j := 0) rfl rfl e5⟩
                            ·
                              replace c26 := ne_of_beq_false c26
                              refine ⟨_, Wk.refl _ _, ?_⟩
                              show awp _ _ _ _ _ _ _
                              refine awp_cond_f rfl ?_
                              refine awp_skip_wk ?_
                              refine ⟨_, Wk.refl _ _, ?_⟩
                              show awp _ _ _ _ _ _ _
                              refine awp_seq ?_
                              refine awp_regs hF ?_
                              refine dv (gyes_none rfl) (q_mv (v := .string s) rfl) rfl (by decide) (cok1 trivial) ?_
                              refine dv (gyes_none rfl) (q_call0 Try.call33 rfl (refAt_ok s 24 8 hs (by omega) (by omega))) rfl (by decide) (call_ok rfl) ?_
                              refine dv (gyes_none rfl) (q_mv (v := .slice (some ⟨bl, 0, none⟩) i i) rfl) rfl (by decide) (cok1 trivial) ?_
                              refine dv (gyes_none rfl) (q_as (v := .int .u64 ((atV s 24 8 : Nat) : Int)) rfl) rfl (by decide) (cok1 trivial) ?_
                              refine dv (gyes_none rfl) (q_as (v := .slice (some ⟨bl, 0, none⟩) i i) rfl) rfl (by decide) (cok1 trivial) ?_
                              refine dv (gyes_none rfl) (q_as (v := .int .i64 0) rfl) rfl (by decide) (cok1 (cconst rfl)) ?_
                              refine dv (gyes_none rfl) (q_as (v := .int .u64 0) rfl) rfl (by decide) (cok1 (cconst rfl)) ?_
                              refine ⟨_, Wk.refl _ _, ?_⟩
                              show awp _ _ _ _ _ _ _
                              refine awp_ret_wk ?_
                              obtain ⟨e1, e2, e3, e4, e5⟩ := hr_ok hd0 (by rw [hN, ← hkk]; exact hi) (by rw [hN, ← hkk, ← hld.1]; omega)
                              refine ⟨_, Wk.refl _ _, ?_⟩
                              repeat (with_reducible first | refine then_ret ?_ | refine blk_ret ?_ | refine then_exit ?_ | refine blk_exit ?_ | refine blk_exit' (by decide) ?_ | refine blk_normal ?_ | refine then_normal ?_ | refine retq_ret ?_ | refine retq_normal ?_ | refine ng_normal ?_ | refine ng_ret ?_ | refine ng_exit ?_)
                              refine ret_is (v := .tuple #[.int .u64 ((atV s 24 8 : Nat) : Int), .slice (some ⟨bl, 0, none⟩) i i, .int .i64 0, .int .u64 0]) rfl (.tmp rfl (.tmp rfl (.tmp rfl (.tmp rfl .nil)))) rfl ?_
                              exact ⟨_, by rw [e1, e2, e3]; first | done | rfl, freshS_of (l := lsK s i) s50 (j := 0) rfl (lsK_len _) (e5.trans (by rw [hN, hkk]))⟩

end Go.Proofs.YthfndghgfabbjaaA


/-
  Walks of functions of the given program, and what they compute.
-/
namespace Go.Proofs.YthfndghgfabbjaaA
set_option linter.unusedVariables false
open Go Go.RowKit Go.Shelf Go.Proofs
def zerosB (n : Nat) : ByteArray := bytesOf (List.replicate n (0 : UInt8))
theorem zerosB_size (n : Nat) : (zerosB n).size = n := by rw [← bl_length]; simp [zerosB, bl, bytesOf]
theorem rep0 (c : Nat) : (⟨(Go.Lib.repeatL [(0 : UInt8)] c).toArray⟩ : ByteArray) = zerosB c := by
  have : Go.Lib.repeatL [(0 : UInt8)] c = List.replicate c (0 : UInt8) := by
    induction c with
    | zero => rfl
    | succ c ih => rw [List.replicate_succ, ← ih]; simp [Go.Lib.repeatL]
  rw [this]; rfl
theorem repeat_ok {H0 : AHeap} (c : Nat) (hc : c ≤ 140737488355328) : ACalls Try.prog 46 [.string (⟨#[0]⟩ : ByteArray), .int .i64 ((c : Nat) : Int)] H0 (Rets (.string (zerosB c)) H0) := by
  rw [← rep0]
  exact acalls_of_world rfl rfl (fun w => Go.Proofs.YthfndghgfabbjaaShRep.strings_Repeat ⟨#[0]⟩ c w (by omega) (by show 1 * c ≤ _; omega)) H0
theorem nthN_mem {α : Type} [Inhabited α] {l : List α} {k : Nat} (h : k < l.length) : nth l k ∈ l := by rw [nth_eq h]; exact List.getElem_mem h
/-- The end of the last segment that is loaded, among the first ones. -/
def endL (l : List Sg) : Nat → Nat
  | 0 => 0
  | k + 1 => if (nth l k).1 = 1 then ((nth l k).2.2.2.1 + (nth l k).2.2.2.2.2 + 255) / 256 * 256 else endL l k
/-- The segments that are loaded lie low. -/
def LowL (l : List Sg) : Prop := ∀ x ∈ l, x.1 = 1 → x.2.2.2.1 + x.2.2.2.2.2 ≤ 1073741824
def InB (B : ByteArray) (l : List Sg) : Prop := ∀ x ∈ l, x.2.2.1 + x.2.2.2.2.1 ≤ B.size
def pB (a n : Nat) (x : Sg) : Bool := decide (x.1 = 1 ∧ x.2.2.2.1 ≤ a ∧ a < x.2.2.2.1 + x.2.2.2.2.2 ∧ n ≤ x.2.2.2.1 + x.2.2.2.2.2 - a)
def imgI (l : List Sg) (a n : Nat) : Nat := firstK (fun i => pB a n (nth l i)) l.length
def fileP (B : ByteArray) (x : Sg) (f n : Nat) : ByteArray := (partV B x.2.2.1 x.2.2.2.2.1).extract (min f x.2.2.2.2.1) (min (f + n) x.2.2.2.2.1)
def segB (B : ByteArray) (x : Sg) (a n : Nat) : ByteArray := fileP B x (a - x.2.2.2.1) n ++ zerosB (n - (fileP B x (a - x.2.2.2.1) n).size)
def imgAt (B : ByteArray) (l : List Sg) (a n : Nat) : ByteArray × Bool := if imgI l a n < l.length then (segB B (nth l (imgI l a n)) a n, true) else (⟨#[]⟩, false)
theorem imgAt_yes {B : ByteArray} {l : List Sg} {a n i : Nat} (hi : i < l.length) (h : pB a n (nth l i) = true) (hn : ∀ j, j < i → pB a n (nth l j) = false) : imgAt B l a n = (segB B (nth l i) a n, true) := by
  have : imgI l a n = i := firstK_yes hi h hn
  unfold imgAt; rw [this, if_pos hi]
theorem imgAt_no {B : ByteArray} {l : List Sg} {a n : Nat} (hn : ∀ j, j < l.length → pB a n (nth l j) = false) : imgAt B l a n = (⟨#[]⟩, false) := by
  have : imgI l a n = l.length := firstK_no hn
  unfold imgAt; rw [this, if_neg (Nat.lt_irrefl _)]
def pP (p : Nat) (x : Sg) : Bool := decide (x.1 = 1 ∧ p % 256 = 0 ∧ x.2.2.2.1 ≤ p ∧ p < (x.2.2.2.1 + x.2.2.2.2.2 + 255) / 256 * 256)
def imgPI (l : List Sg) (p : Nat) : Nat := firstK (fun i => pP p (nth l i)) l.length
def imgP (l : List Sg) (p : Nat) : Nat × Bool := if imgPI l p < l.length then ((nth l (imgPI l p)).2.1, true) else (0, false)
theorem pB_kind {a n : Nat} {x : Sg} (h : x.1 ≠ 1) : pB a n x = false := decide_eq_false fun k => h k.1
theorem pB_no {a n : Nat} {x : Sg} (h : ¬ (x.1 = 1 ∧ x.2.2.2.1 ≤ a ∧ a < x.2.2.2.1 + x.2.2.2.2.2 ∧ n ≤ x.2.2.2.1 + x.2.2.2.2.2 - a)) : pB a n x = false := decide_eq_false h
theorem pB_yes {a n : Nat} {x : Sg} (h : x.1 = 1 ∧ x.2.2.2.1 ≤ a ∧ a < x.2.2.2.1 + x.2.2.2.2.2 ∧ n ≤ x.2.2.2.1 + x.2.2.2.2.2 - a) : pB a n x = true := decide_eq_true h
theorem partV_full {B : ByteArray} {x : Sg} (h : x.2.2.1 + x.2.2.2.2.1 ≤ B.size) : (partV B x.2.2.1 x.2.2.2.2.1).size = x.2.2.2.2.1 := by rw [partV_in h, size_extract h]; omega
theorem fileP_le {B : ByteArray} {x : Sg} {f n : Nat} (h : x.2.2.1 + x.2.2.2.2.1 ≤ B.size) : (fileP B x f n).size ≤ n := by
  unfold fileP
  rw [size_extract (by rw [partV_full h]; omega)]
  omega
theorem Kp.rd0 {H H' : AHeap} (k : K0 H H') {b : Nat} {vs : List Value} {sz : Nat} (h : Rd H b vs sz) : Rd H' b vs sz := k.rd h fun h => h
set_option maxRecDepth 100000 in
set_option maxHeartbeats 4000000 in
theorem of_ok {H0 : AHeap} (B : ByteArray) (E k : Nat) (vL : Value) (l : List Sg) (hL : SlS segc 6 H0 vL l) : ACalls Try.prog 45 [.agg #[.string B, .int .u64 ((E : Nat) : Int), vL], .int .u32 ((k : Nat) : Int)] H0 (fun v H' => ∃ bk bi, v = .func (.func 51) #[] #[.pointer (some ⟨bi, 0, none⟩), .pointer (some ⟨bk, 0, none⟩)] ∧ NewL H0 H' [(bk, .cells true [.int .u32 ((k : Nat) : Int)] 1), (bi, .cells true [.string B, .int .u64 ((E : Nat) : Int), vL] 3)]) := by
  have hF : Wd Fence.wide := .inl rfl
  have hM : Try.prog.follows .mixedOrders = true := by kernel_rfl
  have s0 := St.begin H0
  refine acalls_st Try.func45 rfl Try.ntmps45 rfl ?_
  refine awp_seq ?_
  refine awp_regs hF ?_
  refine x_new (fun b => .pointer (some ⟨b, 0, none⟩)) s0 (gyes_none rfl) (q_box (v := .agg #[.string B, .int .u64 ((E : Nat) : Int), vL]) (vs := [.string B, .int .u64 ((E : Nat) : Int), vL]) 3 rfl (by exact trivial) rfl) rfl (by decide) (cok1 trivial) (fun b1 H2 hb4 s3 => ?_)
  refine x_new (fun b => .pointer (some ⟨b, 0, none⟩)) s3 (gyes_none rfl) (q_box (v := .int .u32 ((k : Nat) : Int)) (vs := [.int .u32 ((k : Nat) : Int)]) 1 rfl (by exact trivial) rfl) rfl (by decide) (cok1 trivial) (fun b5 H6 hb8 s7 => ?_)
  refine dv (gyes_none rfl) (q_as (v := .nilFunc) rfl) rfl (by decide) (cok1 (cconst rfl)) ?_
  refine ⟨_, Wk.refl _ _, ?_⟩
  show awp _ _ _ _ _ _ _
  refine awp_seq ?_
  refine awp_regs hF ?_
  refine dv (gyes_none rfl) (q_makeFuncL [.pointer (some ⟨b1, 0, none⟩), .pointer (some ⟨b5, 0, none⟩)] ⟨rfl, rfl, trivial⟩) rfl (by decide) (cok2 trivial trivial) ?_
  refine dv (gyes_none rfl) (q_as (v := .func (.func 51) #[] #[.pointer (some ⟨b1, 0, none⟩), .pointer (some ⟨b5, 0, none⟩)]) rfl) rfl (by decide) (cok1 trivial) ?_
  refine ⟨_, Wk.refl _ _, ?_⟩
  show awp _ _ _ _ _ _ _
  refine awp_ret_wk ?_
  refine ⟨_, Wk.refl _ _, ?_⟩
  repeat (with_reducible first | refine then_ret ?_ | refine blk_ret ?_ | refine then_exit ?_ | refine blk_exit ?_ | refine blk_exit' (by decide) ?_ | refine blk_normal ?_ | refine then_normal ?_ | refine retq_ret ?_ | refine retq_normal ?_ | refine ng_normal ?_ | refine ng_ret ?_ | refine ng_exit ?_)
  refine ret_is (v := .func (.func 51) #[] #[.pointer (some ⟨b1, 0, none⟩), .pointer (some ⟨b5, 0, none⟩)]) rfl (.tmp rfl .nil) rfl ?_
  exact ⟨_, _, rfl, s7.newL⟩
set_option maxRecDepth 100000 in
set_option maxHeartbeats 4000000 in
theorem of1_ok {H0 : AHeap} (B : ByteArray) (E k : Nat) (vL : Value) (l : List Sg) (hl : l.length ≤ 1000000) (y : Value) (bi bk : Nat) (Iv E' : Nat → AHeap → Prop) (h0 : Iv 0 H0)
    (hm : ∀ i H H', Iv i H → K0 H H' → Iv i H') (hsk : ∀ i H, Iv i H → i < l.length → (nth l i).1 ≠ k → Iv (i + 1) H)
    (hb : ∀ i H, Iv i H → Rd H bi [.string B, .int .u64 ((E : Nat) : Int), vL] 3 ∧ Rd H bk [.int .u32 ((k : Nat) : Int)] 1 ∧ SlS segc 6 H vL l)
    (hy : ∀ i H, Iv i H → i < l.length → (nth l i).1 = k → Ylds Try.prog y [.agg (segc (nth l i)).toArray] H (fun b H' => (b = true → Iv (i + 1) H') ∧ (b = false → E' (i + 1) H'))) : ACalls Try.prog 51 [y, .pointer (some ⟨bi, 0, none⟩), .pointer (some ⟨bk, 0, none⟩)] H0 (fun v H' => v = .tuple #[] ∧ (Iv l.length H' ∨ ∃ i, i < l.length ∧ E' (i + 1) H')) := by
  have hF : Wd Fence.wide := .inl rfl
  have hM : Try.prog.follows .mixedOrders = true := by kernel_rfl
  have s0 := St.begin H0
  obtain ⟨hi_, hk_, hL⟩ := hb _ _ h0
  refine acalls_st Try.func51 rfl Try.ntmps51 rfl ?_
  refine awp_seq ?_
  refine awp_regs hF ?_
  refine dv (gyes_none rfl) (q_field Try.underlying33 rfl Try.sizeOf31 rfl (s0.zrd hi_)) rfl (by decide) (cok1 trivial) ?_
  refine dv (gyes_none rfl) (q_load (v := vL) Try.isAgg31 rfl (s0.zrd hi_) rfl) rfl (by decide) (cok1 trivial) ?_
  refine dv (gyes_none rfl) (q_len_sls (l := l) Try.underlying31 (hL) rfl) rfl (by decide) (cok1 trivial) ?_
  refine dv (gyes_none rfl) (q_mv (v := .int .i64 0) rfl) rfl (by decide) (cok1 (cconst rfl)) ?_
  refine ⟨_, Wk.refl _ _, ?_⟩
  show awp _ _ _ _ _ _ _
  refine awp_block ?_
  refine awp_wk (Wk.U [(0, y), (1, .pointer (some ⟨bi, 0, none⟩)), (2, .pointer (some ⟨bk, 0, none⟩)), (7, vL), (8, .int .i64 ((l.length : Nat) : Int)), (9, .int .i64 0)] ⟨rfl, rfl, rfl, rfl, rfl, rfl, trivial⟩) ?_
  refine awp_loop (fun (i : Nat) st => ∃ (H1 : AHeap), st = ⟨24, U [(0, y), (1, .pointer (some ⟨bi, 0, none⟩)), (2, .pointer (some ⟨bk, 0, none⟩)), (7, vL), (8, .int .i64 ((l.length : Nat) : Int)), (9, .int .i64 ((i : Nat) : Int))], [], H1⟩ ∧ St H1 (none0) (Rd H1) H1 [] ∧ (i ≤ l.length ∧ Iv i H1)) (fun (i : Nat) => l.length - i) (x0 := (0)) ?h0 ?round
  case h0 =>
    exact ⟨_, rfl, s0, ⟨Nat.zero_le _, hm _ _ _ h0 s0.kp⟩⟩
  case round =>
    rintro i _ ⟨H1, rfl, s2, hI⟩
    obtain ⟨hi_, hk_, hL⟩ := hb _ _ hI.2
    refine awp_seq ?_
    refine awp_regs hF ?_
    refine dvb (gyes_none rfl) (q_int rfl rfl rfl) rfl (by decide) (cok2 trivial trivial) (fun c1 => ?_) (fun c1 => ?_)
    ·
      replace c1 := of_decide_eq_true c1
      refine ⟨_, Wk.refl _ _, ?_⟩
      show awp _ _ _ _ _ _ _
      refine awp_seq ?_
      refine awp_cond_t rfl ?_
      refine awp_skip_wk ?_
      refine ⟨_, Wk.refl _ _, ?_⟩
      show awp _ _ _ _ _ _ _
      refine awp_seq ?_
      refine awp_block ?_
      refine awp_seq ?_
      refine awp_regs hF ?_
      refine dv (gyes_none rfl) (q_index_sls (l := l) (i := i) Try.underlying31 Try.sizeOf75 (hL) segc_w rfl rfl (by omega)) rfl (by decide) (cok2 trivial trivial) ?_
      refine dv (gyes_none rfl) (q_loadA_sls (l := l) (i := i) Try.isAgg75 Try.sizeOf75 (hL) segc_w rfl (by omega)) rfl (by decide) (cok1 trivial) ?_
      refine x_new (fun b => .pointer (some ⟨b, 0, none⟩)) s2 (gyes_none rfl) (q_alloc (vs := [.int .u32 0, .int .i64 0, .int .u64 0, .int .u64 0, .int .u64 0, .int .u64 0]) 6 Try.zeroValue75 (by first | exact flat_scalar rfl | exact flat_agg rfl) rfl) rfl (by decide) (by simp [Op.operands, Call.operands]) (fun b3 H4 hb6 s5 => ?_)
      refine x_store [] hF s5 (by kernel_rfl) (gyes_none rfl) (j := 0) (v := .agg #[.int .u32 (((nth l i).1 : Nat) : Int), .int .i64 (((nth l i).2.1 : Nat) : Int), .int .u64 (((nth l i).2.2.1 : Nat) : Int), .int .u64 (((nth l i).2.2.2.1 : Nat) : Int), .int .u64 (((nth l i).2.2.2.2.1 : Nat) : Int), .int .u64 (((nth l i).2.2.2.2.2 : Nat) : Int)]) rfl Try.sizeOf75 rfl rfl rfl rfl rfl trivial (lcsA ⟨(lc_scalar rfl), (lc_scalar rfl), (lc_scalar rfl), (lc_scalar rfl), (lc_scalar rfl), (lc_scalar rfl), trivial⟩) (Nat.le_of_ble_eq_true rfl) trivial trivial rfl rfl (F' := [(b3, .cells true [.int .u32 (((nth l i).1 : Nat) : Int), .int .i64 (((nth l i).2.1 : Nat) : Int), .int .u64 (((nth l i).2.2.1 : Nat) : Int), .int .u64 (((nth l i).2.2.2.1 : Nat) : Int), .int .u64 (((nth l i).2.2.2.2.1 : Nat) : Int), .int .u64 (((nth l i).2.2.2.2.2 : Nat) : Int)] 6)]) rfl (fun H7 s8 => ⟨?_, ?_⟩)
      · exact trivial
      refine ⟨_, Wk.refl _ _, ?_⟩
      show awp _ _ _ _ _ _ _
      refine awp_seq ?_
      refine awp_regs hF ?_
      refine dv (gyes_none rfl) (q_field Try.underlying75 rfl Try.sizeOf73 rfl (s8.rd (j := 0) rfl)) rfl (by decide) (cok1 trivial) ?_
      refine dv (gyes_none rfl) (q_load (v := .int .u32 (((nth l i).1 : Nat) : Int)) Try.isAgg73 rfl (s8.rd (j := 0) rfl) rfl) rfl (by decide) (cok1 trivial) ?_
      refine dv (gyes_none rfl) (q_load (v := .int .u32 ((k : Nat) : Int)) Try.isAgg73 rfl (s8.zrd hk_) rfl) rfl (by decide) (cok1 trivial) ?_
      refine dvb (gyes_none rfl) (q_int rfl rfl rfl) rfl (by decide) (cok2 trivial trivial) (fun c2 => ?_) (fun c2 => ?_)
      ·
        replace c2 := eq_of_beq c2
        refine dv (gyes_none rfl) (q_mv (v := .bool true) rfl) rfl (by decide) (cok1 trivial) ?_
        refine dv (gyes_some rfl rfl) (q_mv (v := y) rfl) rfl (by decide) (cok1 trivial) ?_
        refine dv (gyes_some rfl rfl) (q_loadAgg Try.isAgg75 Try.sizeOf75 rfl (s8.rd (j := 0) rfl) (Nat.le_of_ble_eq_true rfl) rfl) rfl (by decide) (cok1 trivial) ?_
        refine x_yield [] (by kernel_rfl) (gyes_some rfl rfl) (y := y) (args := [.agg #[.int .u32 (((nth l i).1 : Nat) : Int), .int .i64 (((nth l i).2.1 : Nat) : Int), .int .u64 (((nth l i).2.2.1 : Nat) : Int), .int .u64 (((nth l i).2.2.2.1 : Nat) : Int), .int .u64 (((nth l i).2.2.2.2.1 : Nat) : Int), .int .u64 (((nth l i).2.2.2.2.2 : Nat) : Int)]]) rfl rfl (hy i _ (hm _ _ _ hI.2 s8.kp) (by omega) (by omega)) (show _ < _ by decide) (cok1 trivial) rfl rfl (fun y9 H10 hy11 => ⟨trivial, ?_⟩)
        show dList _ _ _ _ _ _ _ _ _ _
        cases y9
        case false =>
          refine dv (gyes_some rfl rfl) (q_not (b := false) rfl) rfl (by decide) (cok1 trivial) ?_
          refine dv (gyes_none rfl) (q_pt (v := .bool true) rfl rfl) rfl (by decide) (call_ok rfl) ?_
          refine ⟨_, Wk.refl _ _, ?_⟩
          show awp _ _ _ _ _ _ _
          refine awp_cond_t rfl ?_
          refine awp_ret_wk ?_
          refine ⟨_, Wk.refl _ _, ?_⟩
          repeat (with_reducible first | refine then_ret ?_ | refine blk_ret ?_ | refine then_exit ?_ | refine blk_exit ?_ | refine blk_exit' (by decide) ?_ | refine blk_normal ?_ | refine then_normal ?_ | refine retq_ret ?_ | refine retq_normal ?_ | refine ng_normal ?_ | refine ng_ret ?_ | refine ng_exit ?_)
          refine ret_is (v := .tuple #[]) rfl .nil rfl ?_
          exact ⟨rfl, .inr ⟨i, by omega, hy11.2 rfl⟩⟩
        case true =>
          have h12 := hy11.1 rfl
          have s13 := St.begin H10
          refine dv (gyes_some rfl rfl) (q_not (b := true) rfl) rfl (by decide) (cok1 trivial) ?_
          refine dv (gyes_none rfl) (q_pt (v := .bool false) rfl rfl) rfl (by decide) (call_ok rfl) ?_
          refine ⟨_, Wk.refl _ _, ?_⟩
          show awp _ _ _ _ _ _ _
          refine awp_cond_f rfl ?_
          refine awp_skip_wk ?_
          refine ⟨_, Wk.refl _ _, ?_⟩
          show awp _ _ _ _ _ _ _
          refine awp_regs hF ?_
          refine dv (gyes_none rfl) (OpQ.cast (v' := .int .i64 ((i + 1 : Nat) : Int)) (q_int rfl rfl rfl) (congrArg _ ((i64_in (by omega)).trans (by first | rfl | omega | (push_cast; rfl))))) rfl (by decide) (cok2 trivial (cconst rfl)) ?_
          refine dv (gyes_none rfl) (q_mv (v := .int .i64 ((i + 1 : Nat) : Int)) rfl) rfl (by decide) (cok1 trivial) ?_
          refine ⟨_, Wk.U [(0, y), (1, .pointer (some ⟨bi, 0, none⟩)), (2, .pointer (some ⟨bk, 0, none⟩)), (7, vL), (8, .int .i64 ((l.length : Nat) : Int)), (9, .int .i64 (((i + 1) : Nat) : Int))] ⟨rfl, rfl, rfl, rfl, rfl, rfl, trivial⟩, (i + 1), ⟨_, rfl, (St.begin _), ⟨by omega, h12⟩⟩, (by omega)⟩
      ·
        replace c2 := ne_of_beq_false c2
        refine dv (gyes_none rfl) (q_mv (v := .bool false) rfl) rfl (by decide) (cok1 trivial) ?_
        refine dno rfl (.inl rfl) rfl (by decide) ?_
        refine dno rfl (.inl rfl) rfl (by decide) ?_
        refine dno rfl (.inl rfl) rfl (by decide) ?_
        refine dno rfl (.inl rfl) rfl (by decide) ?_
        refine dv (gyes_none rfl) (q_pf (v := .bool false) rfl rfl) rfl (by decide) (call_ok rfl) ?_
        refine ⟨_, Wk.refl _ _, ?_⟩
        show awp _ _ _ _ _ _ _
        refine awp_cond_f rfl ?_
        refine awp_skip_wk ?_
        refine ⟨_, Wk.refl _ _, ?_⟩
        show awp _ _ _ _ _ _ _
        refine awp_regs hF ?_
        refine dv (gyes_none rfl) (OpQ.cast (v' := .int .i64 ((i + 1 : Nat) : Int)) (q_int rfl rfl rfl) (congrArg _ ((i64_in (by omega)).trans (by first | rfl | omega | (push_cast; rfl))))) rfl (by decide) (cok2 trivial (cconst rfl)) ?_
        refine dv (gyes_none rfl) (q_mv (v := .int .i64 ((i + 1 : Nat) : Int)) rfl) rfl (by decide) (cok1 trivial) ?_
        refine ⟨_, Wk.U [(0, y), (1, .pointer (some ⟨bi, 0, none⟩)), (2, .pointer (some ⟨bk, 0, none⟩)), (7, vL), (8, .int .i64 ((l.length : Nat) : Int)), (9, .int .i64 (((i + 1) : Nat) : Int))] ⟨rfl, rfl, rfl, rfl, rfl, rfl, trivial⟩, (i + 1), ⟨_, rfl, (St.begin _), ⟨by omega, hm _ _ _ (hsk i _ hI.2 (by omega) (by omega)) s8.kp⟩⟩, (by omega)⟩
    ·
      replace c1 := of_decide_eq_false c1
      refine ⟨_, Wk.refl _ _, ?_⟩
      show awp _ _ _ _ _ _ _
      refine awp_seq ?_
      refine awp_cond_f rfl ?_
      refine awp_exit_wk ?_
      refine ⟨_, Wk.refl _ _, ?_⟩
      repeat (with_reducible first | refine then_ret ?_ | refine blk_ret ?_ | refine then_exit ?_ | refine blk_exit ?_ | refine blk_exit' (by decide) ?_ | refine blk_normal ?_ | refine then_normal ?_ | refine retq_ret ?_ | refine retq_normal ?_ | refine ng_normal ?_ | refine ng_ret ?_ | refine ng_exit ?_)
      refine ret_is (v := .tuple #[]) rfl .nil rfl ?_
      obtain rfl : i = l.length := by omega
      exact ⟨rfl, .inl hI.2⟩

end Go.Proofs.YthfndghgfabbjaaA


/-
  Walks of functions of the given program, and what they compute.
-/
namespace Go.Proofs.YthfndghgfabbjaaA
set_option linter.unusedVariables false
open Go Go.RowKit Go.Shelf Go.Proofs
set_option maxRecDepth 100000 in
set_option maxHeartbeats 4000000 in
theorem imgAt_ok {H0 : AHeap} (B : ByteArray) (E a n : Nat) (ha : a < 18446744073709551616) (hn : n < 18446744073709551616) (vL : Value) (l : List Sg) (hB : B.size ≤ 140737488355328) (hL : SlS segc 6 H0 vL l) (hl : l.length ≤ 1000000) (hlow : LowL l) (hinb : InB B l) : ACalls Try.prog 35 [.agg #[.string B, .int .u64 ((E : Nat) : Int), vL], .int .u64 ((a : Nat) : Int), .int .u64 ((n : Nat) : Int)] H0 (Rets (.tuple #[.string (imgAt B l a n).1, .bool (imgAt B l a n).2]) H0) := by
  have hF : Wd Fence.wide := .inl rfl
  have hM : Try.prog.follows .mixedOrders = true := by kernel_rfl
  have s0 := St.begin H0
  refine acalls_st Try.func35 rfl Try.ntmps35 rfl ?_
  refine awp_seq ?_
  refine awp_regs hF ?_
  refine x_new (fun b => .pointer (some ⟨b, 0, none⟩)) s0 (gyes_none rfl) (q_box (v := .agg #[.string B, .int .u64 ((E : Nat) : Int), vL]) (vs := [.string B, .int .u64 ((E : Nat) : Int), vL]) 3 rfl (by exact trivial) rfl) rfl (by decide) (cok1 trivial) (fun b1 H2 hb4 s3 => ?_)
  refine x_new (fun b => .pointer (some ⟨b, 0, none⟩)) s3 (gyes_none rfl) (q_box (v := .int .u64 ((a : Nat) : Int)) (vs := [.int .u64 ((a : Nat) : Int)]) 1 rfl (by exact trivial) rfl) rfl (by decide) (cok1 trivial) (fun b5 H6 hb8 s7 => ?_)
  refine x_new (fun b => .pointer (some ⟨b, 0, none⟩)) s7 (gyes_none rfl) (q_box (v := .int .u64 ((n : Nat) : Int)) (vs := [.int .u64 ((n : Nat) : Int)]) 1 rfl (by exact trivial) rfl) rfl (by decide) (cok1 trivial) (fun b9 H10 hb12 s11 => ?_)
  refine x_new (fun b => .pointer (some ⟨b, 0, none⟩)) s11 (gyes_none rfl) (q_alloc (vs := [.string ⟨#[]⟩]) 1 Try.zeroValue9 (by first | exact flat_scalar rfl | exact flat_agg rfl) rfl) rfl (by decide) (by simp [Op.operands, Call.operands]) (fun b13 H14 hb16 s15 => ?_)
  refine x_new (fun b => .pointer (some ⟨b, 0, none⟩)) s15 (gyes_none rfl) (q_alloc (vs := [.bool false]) 1 Try.zeroValue4 (by first | exact flat_scalar rfl | exact flat_agg rfl) rfl) rfl (by decide) (by simp [Op.operands, Call.operands]) (fun b17 H18 hb20 s19 => ?_)
  refine ⟨_, Wk.refl _ _, ?_⟩
  show awp _ _ _ _ _ _ _
  refine awp_seq ?_
  refine awp_seq ?_
  refine awp_regs hF ?_
  refine dv (gyes_none rfl) (q_loadAgg Try.isAgg33 Try.sizeOf33 rfl (s19.rd (j := 4) rfl) (Nat.le_of_ble_eq_true rfl) rfl) rfl (by decide) (cok1 trivial) ?_
  refine x_call [] hF (by kernel_rfl) (gyes_none rfl) Try.call45 rfl (args := [.agg #[.string B, .int .u64 ((E : Nat) : Int), vL], .int .u32 1]) rfl (of_ok B E 1 vL l (s19.sls hL)) (show _ < _ by decide) (call_ok rfl) rfl rfl (fun _ _ _ _ hd => by cases hd) ?_
  rintro _ H23 ⟨b21, b22, rfl, hn24⟩
  have s25 := s19.callL hn24
  refine ⟨trivial, ?_⟩
  show dList _ _ _ _ _ _ _ _ _ _
  refine ⟨_, Wk.refl _ _, ?_⟩
  show awp _ _ _ _ _ _ _
  refine awp_block ?_
  refine range_st s25 rfl Try.call51 (fun fn26 lp27 d28 l29 H30 hlp31 hd32 s33 => ?_)
  refine (of1_ok (H0 := H30) B E 1 vL l (by omega) _ b22 b21 (fun (k : Nat) (H34 : AHeap) => St H0 (none0) (Rd H0) H34 [(l29, lp27 .ready none), (d28, .mark), (b21, .cells true [.int .u32 1] 1), (b22, .cells true [.string B, .int .u64 ((E : Nat) : Int), vL] 3), (b17, .cells true [.bool false] 1), (b13, .cells true [.string ⟨#[]⟩] 1), (b9, .cells true [.int .u64 ((n : Nat) : Int)] 1), (b5, .cells true [.int .u64 ((a : Nat) : Int)] 1), (b1, .cells true [.string B, .int .u64 ((E : Nat) : Int), vL] 3)] ∧ (∀ j, j < k → pB a n (nth l j) = false)) (fun (k' : Nat) (H34 : AHeap) => ∃ (r : ByteArray), St H0 (none0) (Rd H0) H34 [(l29, lp27 (.done) (some .ret)), (d28, .mark), (b21, .cells true [.int .u32 1] 1), (b22, .cells true [.string B, .int .u64 ((E : Nat) : Int), vL] 3), (b17, .cells true [.bool true] 1), (b13, .cells true [.string r] 1), (b9, .cells true [.int .u64 ((n : Nat) : Int)] 1), (b5, .cells true [.int .u64 ((a : Nat) : Int)] 1), (b1, .cells true [.string B, .int .u64 ((E : Nat) : Int), vL] 3)] ∧ (imgAt B l a n = (r, true))) ?h00 (fun _ _ _ ⟨s_, hq⟩ k_ => ⟨s_.call0 k_, hq⟩) (fun k _ ⟨s_, hq⟩ hi_ hne => ⟨s_, lt_succ_casesN hq (pB_kind hne)⟩) ?hb ?round).mono ?after
  case h00 => exact ⟨s33, fun j h => absurd h (Nat.not_lt_zero _)⟩
  case hb =>
    rintro k H34 ⟨s35, hq⟩
    exact ⟨s35.rd (j := 3) rfl, s35.rd (j := 2) rfl, s35.sls hL⟩
  case round =>
    rintro k H34  ⟨s35, hq⟩ hx hkd
    have hlw := hlow _ (nthN_mem hx) hkd
    have hin := hinb _ (nthN_mem hx)
    have hps := partV_full hin
    have hfl := fileP_le (f := a - (nth l k).2.2.2.1) (n := n) hin
    refine ylds_roundB hlp31 (s35.getj (j := 0) rfl) rfl rfl (fun l36 hF => ?_)
    refine awp_regs hF ?_
    refine x_new (fun b => .pointer (some ⟨b, 0, none⟩)) s35 (gyes_none rfl) (q_alloc (vs := [.int .u32 0, .int .i64 0, .int .u64 0, .int .u64 0, .int .u64 0, .int .u64 0]) 6 Try.zeroValue75 (by first | exact flat_scalar rfl | exact flat_agg rfl) rfl) rfl (by decide) (by simp [Op.operands, Call.operands]) (fun b37 H38 hb40 s39 => ?_)
    refine x_store [] hF s39 (by kernel_rfl) (gyes_none rfl) (j := 0) (v := .agg #[.int .u32 (((nth l k).1 : Nat) : Int), .int .i64 (((nth l k).2.1 : Nat) : Int), .int .u64 (((nth l k).2.2.1 : Nat) : Int), .int .u64 (((nth l k).2.2.2.1 : Nat) : Int), .int .u64 (((nth l k).2.2.2.2.1 : Nat) : Int), .int .u64 (((nth l k).2.2.2.2.2 : Nat) : Int)]) rfl Try.sizeOf75 rfl rfl rfl rfl rfl trivial (lcsA ⟨(lc_scalar rfl), (lc_scalar rfl), (lc_scalar rfl), (lc_scalar rfl), (lc_scalar rfl), (lc_scalar rfl), trivial⟩) (Nat.le_of_ble_eq_true rfl) trivial trivial rfl rfl (F' := [(b37, .cells true [.int .u32 (((nth l k).1 : Nat) : Int), .int .i64 (((nth l k).2.1 : Nat) : Int), .int .u64 (((nth l k).2.2.1 : Nat) : Int), .int .u64 (((nth l k).2.2.2.1 : Nat) : Int), .int .u64 (((nth l k).2.2.2.2.1 : Nat) : Int), .int .u64 (((nth l k).2.2.2.2.2 : Nat) : Int)] 6), (l29, lp27 .ready none), (d28, .mark), (b21, .cells true [.int .u32 1] 1), (b22, .cells true [.string B, .int .u64 ((E : Nat) : Int), vL] 3), (b17, .cells true [.bool false] 1), (b13, .cells true [.string ⟨#[]⟩] 1), (b9, .cells true [.int .u64 ((n : Nat) : Int)] 1), (b5, .cells true [.int .u64 ((a : Nat) : Int)] 1), (b1, .cells true [.string B, .int .u64 ((E : Nat) : Int), vL] 3)]) rfl (fun H41 s42 => ⟨?_, ?_⟩)
    · exact trivial
    refine ⟨_, Wk.refl _ _, ?_⟩
    refine then_normal ?_
    refine ⟨_, _, rfl, s42.getj (j := 1) rfl, ?body⟩
    case body =>
      have s43 := s42.setAt (j := 1) rfl (lp27 .busy none)
      show awp _ _ _ _ _ _ _
      refine awp_block ?_
      refine awp_seq ?_
      refine awp_seq ?_
      refine awp_regs hF ?_
      refine dv (gyes_none rfl) (q_load (v := .int .u64 ((a : Nat) : Int)) Try.isAgg25 rfl (s43.rd (j := 8) rfl) rfl) rfl (by decide) (cok1 trivial) ?_
      refine dv (gyes_none rfl) (q_field Try.underlying75 rfl Try.sizeOf25 rfl (s43.rd (j := 0) rfl)) rfl (by decide) (cok1 trivial) ?_
      refine dv (gyes_none rfl) (q_load (v := .int .u64 (((nth l k).2.2.2.1 : Nat) : Int)) Try.isAgg25 rfl (s43.rd (j := 0) rfl) rfl) rfl (by decide) (cok1 trivial) ?_
      refine dvb (gyes_none rfl) (q_int rfl rfl rfl) rfl (by decide) (cok2 trivial trivial) (fun c1 => ?_) (fun c1 => ?_)
      ·
        replace c1 := of_decide_eq_true c1
        refine dv (gyes_none rfl) (q_mv (v := .bool true) rfl) rfl (by decide) (cok1 trivial) ?_
        refine dno rfl (.inl rfl) rfl (by decide) ?_
        refine dno rfl (.inl rfl) rfl (by decide) ?_
        refine dno rfl (.inl rfl) rfl (by decide) ?_
        refine dno rfl (.inl rfl) rfl (by decide) ?_
        refine dno rfl (.inl rfl) rfl (by decide) ?_
        refine dno rfl (.inl rfl) rfl (by decide) ?_
        refine dno rfl (.inl rfl) rfl (by decide) ?_
        refine dv (gyes_none rfl) (q_pt (v := .bool true) rfl rfl) rfl (by decide) (call_ok rfl) ?_
        refine dv (gyes_none rfl) (q_mv (v := .bool true) rfl) rfl (by decide) (cok1 trivial) ?_
        refine dno rfl (.inl rfl) rfl (by decide) ?_
        refine dno rfl (.inl rfl) rfl (by decide) ?_
        refine dno rfl (.inl rfl) rfl (by decide) ?_
        refine dno rfl (.inl rfl) rfl (by decide) ?_
        refine dno rfl (.inl rfl) rfl (by decide) ?_
        refine dno rfl (.inl rfl) rfl (by decide) ?_
        refine dno rfl (.inl rfl) rfl (by decide) ?_
        refine dno rfl (.inl rfl) rfl (by decide) ?_
        refine dno rfl (.inl rfl) rfl (by decide) ?_
        refine dv (gyes_none rfl) (q_pt (v := .bool true) rfl rfl) rfl (by decide) (call_ok rfl) ?_
        refine dv (gyes_none rfl) (q_mv (v := .bool true) rfl) rfl (by decide) (cok1 trivial) ?_
        refine dno rfl (.inl rfl) rfl (by decide) ?_
        refine dno rfl (.inl rfl) rfl (by decide) ?_
        refine dno rfl (.inl rfl) rfl (by decide) ?_
        refine dno rfl (.inl rfl) rfl (by decide) ?_
        refine dno rfl (.inl rfl) rfl (by decide) ?_
        refine dno rfl (.inl rfl) rfl (by decide) ?_
        refine dno rfl (.inl rfl) rfl (by decide) ?_
        refine dv (gyes_none rfl) (q_pt (v := .bool true) rfl rfl) rfl (by decide) (call_ok rfl) ?_
        refine ⟨_, Wk.refl _ _, ?_⟩
        show awp _ _ _ _ _ _ _
        refine awp_cond_t rfl ?_
        refine awp_exit_wk ?_
        refine ⟨_, Wk.refl _ _, ?_⟩
        repeat (with_reducible first | refine then_ret ?_ | refine blk_ret ?_ | refine then_exit ?_ | refine blk_exit ?_ | refine blk_exit' (by decide) ?_ | refine blk_normal ?_ | refine then_normal ?_ | refine retq_ret ?_ | refine retq_normal ?_ | refine ng_normal ?_ | refine ng_ret ?_ | refine ng_exit ?_)
        exact ⟨(s43.forget 0).getj (j := 0) rfl, (fun _ => ⟨((s43.forget 0).setAt (j := 0) rfl (lp27 .ready none)), (lt_succ_casesN hq (pB_no (by omega)))⟩), (fun h => nomatch h)⟩
      ·
        replace c1 := of_decide_eq_false c1
        refine dv (gyes_none rfl) (q_mv (v := .bool false) rfl) rfl (by decide) (cok1 trivial) ?_
        refine dv (gyes_some rfl rfl) (q_load (v := .int .u64 ((a : Nat) : Int)) Try.isAgg25 rfl (s43.rd (j := 8) rfl) rfl) rfl (by decide) (cok1 trivial) ?_
        refine dv (gyes_some rfl rfl) (q_field Try.underlying75 rfl Try.sizeOf25 rfl (s43.rd (j := 0) rfl)) rfl (by decide) (cok1 trivial) ?_
        refine dv (gyes_some rfl rfl) (q_load (v := .int .u64 (((nth l k).2.2.2.1 : Nat) : Int)) Try.isAgg25 rfl (s43.rd (j := 0) rfl) rfl) rfl (by decide) (cok1 trivial) ?_
        refine dv (gyes_some rfl rfl) (OpQ.cast (v' := .int .u64 ((a - ((nth l k).2.2.2.1) : Nat) : Int)) (q_int rfl rfl rfl) (congrArg _ ((u64_in (by omega)).trans (by omega)))) rfl (by decide) (cok2 trivial trivial) ?_
        refine dv (gyes_some rfl rfl) (q_field Try.underlying75 rfl Try.sizeOf25 rfl (s43.rd (j := 0) rfl)) rfl (by decide) (cok1 trivial) ?_
        refine dv (gyes_some rfl rfl) (q_load (v := .int .u64 (((nth l k).2.2.2.2.2 : Nat) : Int)) Try.isAgg25 rfl (s43.rd (j := 0) rfl) rfl) rfl (by decide) (cok1 trivial) ?_
        refine dvb (gyes_some rfl rfl) (q_int rfl rfl rfl) rfl (by decide) (cok2 trivial trivial) (fun c2 => ?_) (fun c2 => ?_)
        ·
          replace c2 := of_decide_eq_true c2
          refine dv (gyes_none rfl) (q_pf (v := .bool true) rfl rfl) rfl (by decide) (call_ok rfl) ?_
          refine dv (gyes_none rfl) (q_mv (v := .bool true) rfl) rfl (by decide) (cok1 trivial) ?_
          refine dno rfl (.inl rfl) rfl (by decide) ?_
          refine dno rfl (.inl rfl) rfl (by decide) ?_
          refine dno rfl (.inl rfl) rfl (by decide) ?_
          refine dno rfl (.inl rfl) rfl (by decide) ?_
          refine dno rfl (.inl rfl) rfl (by decide) ?_
          refine dno rfl (.inl rfl) rfl (by decide) ?_
          refine dno rfl (.inl rfl) rfl (by decide) ?_
          refine dno rfl (.inl rfl) rfl (by decide) ?_
          refine dno rfl (.inl rfl) rfl (by decide) ?_
          refine dv (gyes_none rfl) (q_pt (v := .bool true) rfl rfl) rfl (by decide) (call_ok rfl) ?_
          refine dv (gyes_none rfl) (q_mv (v := .bool true) rfl) rfl (by decide) (cok1 trivial) ?_
          refine dno rfl (.inl rfl) rfl (by decide) ?_
          refine dno rfl (.inl rfl) rfl (by decide) ?_
          refine dno rfl (.inl rfl) rfl (by decide) ?_
          refine dno rfl (.inl rfl) rfl (by decide) ?_
          refine dno rfl (.inl rfl) rfl (by decide) ?_
          refine dno rfl (.inl rfl) rfl (by decide) ?_
          refine dno rfl (.inl rfl) rfl (by decide) ?_
          refine dv (gyes_none rfl) (q_pt (v := .bool true) rfl rfl) rfl (by decide) (call_ok rfl) ?_
          refine ⟨_, Wk.refl _ _, ?_⟩
          show awp _ _ _ _ _ _ _
          refine awp_cond_t rfl ?_
          refine awp_exit_wk ?_
          refine ⟨_, Wk.refl _ _, ?_⟩
          repeat (with_reducible first | refine then_ret ?_ | refine blk_ret ?_ | refine then_exit ?_ | refine blk_exit ?_ | refine blk_exit' (by decide) ?_ | refine blk_normal ?_ | refine then_normal ?_ | refine retq_ret ?_ | refine retq_normal ?_ | refine ng_normal ?_ | refine ng_ret ?_ | refine ng_exit ?_)
          exact ⟨(s43.forget 0).getj (j := 0) rfl, (fun _ => ⟨((s43.forget 0).setAt (j := 0) rfl (lp27 .ready none)), (lt_succ_casesN hq (pB_no (by omega)))⟩), (fun h => nomatch h)⟩
        ·
          replace c2 := of_decide_eq_false c2
          refine dv (gyes_none rfl) (q_pf (v := .bool false) rfl rfl) rfl (by decide) (call_ok rfl) ?_
          refine dv (gyes_none rfl) (q_mv (v := .bool false) rfl) rfl (by decide) (cok1 trivial) ?_
          refine dv (gyes_some rfl rfl) (q_load (v := .int .u64 ((n : Nat) : Int)) Try.isAgg25 rfl (s43.rd (j := 7) rfl) rfl) rfl (by decide) (cok1 trivial) ?_
          refine dv (gyes_some rfl rfl) (q_field Try.underlying75 rfl Try.sizeOf25 rfl (s43.rd (j := 0) rfl)) rfl (by decide) (cok1 trivial) ?_
          refine dv (gyes_some rfl rfl) (q_load (v := .int .u64 (((nth l k).2.2.2.2.2 : Nat) : Int)) Try.isAgg25 rfl (s43.rd (j := 0) rfl) rfl) rfl (by decide) (cok1 trivial) ?_
          refine dv (gyes_some rfl rfl) (q_load (v := .int .u64 ((a : Nat) : Int)) Try.isAgg25 rfl (s43.rd (j := 8) rfl) rfl) rfl (by decide) (cok1 trivial) ?_
          refine dv (gyes_some rfl rfl) (q_field Try.underlying75 rfl Try.sizeOf25 rfl (s43.rd (j := 0) rfl)) rfl (by decide) (cok1 trivial) ?_
          refine dv (gyes_some rfl rfl) (q_load (v := .int .u64 (((nth l k).2.2.2.1 : Nat) : Int)) Try.isAgg25 rfl (s43.rd (j := 0) rfl) rfl) rfl (by decide) (cok1 trivial) ?_
          refine dv (gyes_some rfl rfl) (OpQ.cast (v' := .int .u64 ((a - ((nth l k).2.2.2.1) : Nat) : Int)) (q_int rfl rfl rfl) (congrArg _ ((u64_in (by omega)).trans (by omega)))) rfl (by decide) (cok2 trivial trivial) ?_
          refine dv (gyes_some rfl rfl) (OpQ.cast (v' := .int .u64 ((((nth l k).2.2.2.2.2) - (a - ((nth l k).2.2.2.1)) : Nat) : Int)) (q_int rfl rfl rfl) (congrArg _ ((u64_in (by omega)).trans (by omega)))) rfl (by decide) (cok2 trivial trivial) ?_
          refine dvb (gyes_some rfl rfl) (q_int rfl rfl rfl) rfl (by decide) (cok2 trivial trivial) (fun c3 => ?_) (fun c3 => ?_)
          ·
            replace c3 := of_decide_eq_true c3
            refine dv (gyes_none rfl) (q_pf (v := .bool true) rfl rfl) rfl (by decide) (call_ok rfl) ?_
            refine dv (gyes_none rfl) (q_mv (v := .bool true) rfl) rfl (by decide) (cok1 trivial) ?_
            refine dno rfl (.inl rfl) rfl (by decide) ?_
            refine dno rfl (.inl rfl) rfl (by decide) ?_
            refine dno rfl (.inl rfl) rfl (by decide) ?_
            refine dno rfl (.inl rfl) rfl (by decide) ?_
            refine dno rfl (.inl rfl) rfl (by decide) ?_
            refine dno rfl (.inl rfl) rfl (by decide) ?_
            refine dno rfl (.inl rfl) rfl (by decide) ?_
            refine dv (gyes_none rfl) (q_pt (v := .bool true) rfl rfl) rfl (by decide) (call_ok rfl) ?_
            refine ⟨_, Wk.refl _ _, ?_⟩
            show awp _ _ _ _ _ _ _
            refine awp_cond_t rfl ?_
            refine awp_exit_wk ?_
            refine ⟨_, Wk.refl _ _, ?_⟩
            repeat (with_reducible first | refine then_ret ?_ | refine blk_ret ?_ | refine then_exit ?_ | refine blk_exit ?_ | refine blk_exit' (by decide) ?_ | refine blk_normal ?_ | refine then_normal ?_ | refine retq_ret ?_ | refine retq_normal ?_ | refine ng_normal ?_ | refine ng_ret ?_ | refine ng_exit ?_)
            exact ⟨(s43.forget 0).getj (j := 0) rfl, (fun _ => ⟨((s43.forget 0).setAt (j := 0) rfl (lp27 .ready none)), (lt_succ_casesN hq (pB_no (by omega)))⟩), (fun h => nomatch h)⟩
          ·
            replace c3 := of_decide_eq_false c3
            refine dv (gyes_none rfl) (q_pf (v := .bool false) rfl rfl) rfl (by decide) (call_ok rfl) ?_
            refine dv (gyes_none rfl) (q_mv (v := .bool false) rfl) rfl (by decide) (cok1 trivial) ?_
            refine dv (gyes_some rfl rfl) (q_load (v := .int .u64 ((a : Nat) : Int)) Try.isAgg25 rfl (s43.rd (j := 8) rfl) rfl) rfl (by decide) (cok1 trivial) ?_
            refine dv (gyes_some rfl rfl) (q_field Try.underlying75 rfl Try.sizeOf25 rfl (s43.rd (j := 0) rfl)) rfl (by decide) (cok1 trivial) ?_
            refine dv (gyes_some rfl rfl) (q_load (v := .int .u64 (((nth l k).2.2.2.1 : Nat) : Int)) Try.isAgg25 rfl (s43.rd (j := 0) rfl) rfl) rfl (by decide) (cok1 trivial) ?_
            refine dv (gyes_some rfl rfl) (OpQ.cast (v' := .int .u64 ((a - ((nth l k).2.2.2.1) : Nat) : Int)) (q_int rfl rfl rfl) (congrArg _ ((u64_in (by omega)).trans (by omega)))) rfl (by decide) (cok2 trivial trivial) ?_
            refine dv (gyes_some rfl rfl) (q_field Try.underlying75 rfl Try.sizeOf25 rfl (s43.rd (j := 0) rfl)) rfl (by decide) (cok1 trivial) ?_
            refine dv (gyes_some rfl rfl) (q_load (v := .int .u64 (((nth l k).2.2.2.2.2 : Nat) : Int)) Try.isAgg25 rfl (s43.rd (j := 0) rfl) rfl) rfl (by decide) (cok1 trivial) ?_
            refine dvb (gyes_some rfl rfl) (q_int rfl rfl rfl) rfl (by decide) (cok2 trivial trivial) (fun c4 => ?_) (fun c4 => ?_)
            ·
              replace c4 := eq_of_beq c4
              refine dv (gyes_none rfl) (q_pf (v := .bool true) rfl rfl) rfl (by decide) (call_ok rfl) ?_
              refine ⟨_, Wk.refl _ _, ?_⟩
              show awp _ _ _ _ _ _ _
              refine awp_cond_t rfl ?_
              refine awp_exit_wk ?_
              refine ⟨_, Wk.refl _ _, ?_⟩
              repeat (with_reducible first | refine then_ret ?_ | refine blk_ret ?_ | refine then_exit ?_ | refine blk_exit ?_ | refine blk_exit' (by decide) ?_ | refine blk_normal ?_ | refine then_normal ?_ | refine retq_ret ?_ | refine retq_normal ?_ | refine ng_normal ?_ | refine ng_ret ?_ | refine ng_exit ?_)
              exact ⟨(s43.forget 0).getj (j := 0) rfl, (fun _ => ⟨((s43.forget 0).setAt (j := 0) rfl (lp27 .ready none)), (lt_succ_casesN hq (pB_no (by omega)))⟩), (fun h => nomatch h)⟩
            ·
              replace c4 := ne_of_beq_false c4
              refine dv (gyes_none rfl) (q_pf (v := .bool false) rfl rfl) rfl (by decide) (call_ok rfl) ?_
              refine ⟨_, Wk.refl _ _, ?_⟩
              show awp _ _ _ _ _ _ _
              refine awp_cond_f rfl ?_
              refine awp_skip_wk ?_
              refine ⟨_, Wk.refl _ _, ?_⟩
              show awp _ _ _ _ _ _ _
              refine awp_seq ?_
              refine awp_regs hF ?_
              refine dv (gyes_none rfl) (q_load (v := .int .u64 ((a : Nat) : Int)) Try.isAgg25 rfl (s43.rd (j := 8) rfl) rfl) rfl (by decide) (cok1 trivial) ?_
              refine dv (gyes_none rfl) (q_field Try.underlying75 rfl Try.sizeOf25 rfl (s43.rd (j := 0) rfl)) rfl (by decide) (cok1 trivial) ?_
              refine dv (gyes_none rfl) (q_load (v := .int .u64 (((nth l k).2.2.2.1 : Nat) : Int)) Try.isAgg25 rfl (s43.rd (j := 0) rfl) rfl) rfl (by decide) (cok1 trivial) ?_
              refine dv (gyes_none rfl) (OpQ.cast (v' := .int .u64 ((a - ((nth l k).2.2.2.1) : Nat) : Int)) (q_int rfl rfl rfl) (congrArg _ ((u64_in (by omega)).trans (by omega)))) rfl (by decide) (cok2 trivial trivial) ?_
              refine dv (gyes_none rfl) (q_as (v := .int .u64 ((a - ((nth l k).2.2.2.1) : Nat) : Int)) rfl) rfl (by decide) (cok1 trivial) ?_
              refine ⟨_, Wk.refl _ _, ?_⟩
              show awp _ _ _ _ _ _ _
              refine awp_seq ?_
              refine awp_regs hF ?_
              refine dv (gyes_none rfl) (q_field Try.underlying33 rfl Try.sizeOf9 rfl (s43.rd (j := 9) rfl)) rfl (by decide) (cok1 trivial) ?_
              refine dv (gyes_none rfl) (q_load (v := .string B) Try.isAgg9 rfl (s43.rd (j := 9) rfl) rfl) rfl (by decide) (cok1 trivial) ?_
              refine dv (gyes_none rfl) (q_field Try.underlying75 rfl Try.sizeOf25 rfl (s43.rd (j := 0) rfl)) rfl (by decide) (cok1 trivial) ?_
              refine dv (gyes_none rfl) (q_load (v := .int .u64 (((nth l k).2.2.1 : Nat) : Int)) Try.isAgg25 rfl (s43.rd (j := 0) rfl) rfl) rfl (by decide) (cok1 trivial) ?_
              refine dv (gyes_none rfl) (q_field Try.underlying75 rfl Try.sizeOf25 rfl (s43.rd (j := 0) rfl)) rfl (by decide) (cok1 trivial) ?_
              refine dv (gyes_none rfl) (q_load (v := .int .u64 (((nth l k).2.2.2.2.1 : Nat) : Int)) Try.isAgg25 rfl (s43.rd (j := 0) rfl) rfl) rfl (by decide) (cok1 trivial) ?_
              refine dv (gyes_none rfl) (q_call0 Try.call43 rfl (part_ok B ((nth l k).2.2.1) ((nth l k).2.2.2.2.1) hB (by omega) (by omega))) rfl (by decide) (call_ok rfl) ?_
              refine dv (gyes_none rfl) (q_mv (v := .tuple #[.string (partV B ((nth l k).2.2.1) ((nth l k).2.2.2.2.1)), .bool (decide ((nth l k).2.2.1 + (nth l k).2.2.2.2.1 ≤ B.size))]) rfl) rfl (by decide) (cok1 trivial) ?_
              refine dv (gyes_none rfl) (q_extract (v := .string (partV B ((nth l k).2.2.1) ((nth l k).2.2.2.2.1))) rfl rfl) rfl (by decide) (cok1 trivial) ?_
              refine dv (gyes_none rfl) (q_extract (v := .bool (decide ((nth l k).2.2.1 + (nth l k).2.2.2.2.1 ≤ B.size))) rfl rfl) rfl (by decide) (cok1 trivial) ?_
              refine dv (gyes_none rfl) (q_as (v := .string (partV B ((nth l k).2.2.1) ((nth l k).2.2.2.2.1))) rfl) rfl (by decide) (cok1 trivial) ?_
              refine dv (gyes_none rfl) (q_as (v := .bool (decide ((nth l k).2.2.1 + (nth l k).2.2.2.2.1 ≤ B.size))) rfl) rfl (by decide) (cok1 trivial) ?_
              refine ⟨_, Wk.refl _ _, ?_⟩
              show awp _ _ _ _ _ _ _
              refine awp_seq ?_
              refine awp_regs hF ?_
              refine dv (gyes_none rfl) (q_mv (v := .string (partV B ((nth l k).2.2.1) ((nth l k).2.2.2.2.1))) rfl) rfl (by decide) (cok1 trivial) ?_
              refine dv (gyes_none rfl) (q_mv (v := .int .u64 ((a - ((nth l k).2.2.2.1) : Nat) : Int)) rfl) rfl (by decide) (cok1 trivial) ?_
              refine dv (gyes_none rfl) (q_field Try.underlying75 rfl Try.sizeOf25 rfl (s43.rd (j := 0) rfl)) rfl (by decide) (cok1 trivial) ?_
              refine dv (gyes_none rfl) (q_load (v := .int .u64 (((nth l k).2.2.2.2.1 : Nat) : Int)) Try.isAgg25 rfl (s43.rd (j := 0) rfl) rfl) rfl (by decide) (cok1 trivial) ?_
              refine dv (gyes_none rfl) (OpQ.cast (v' := .int .u64 ((min (a - ((nth l k).2.2.2.1)) ((nth l k).2.2.2.2.1) : Nat) : Int)) (q_min rfl rfl) (by congr 1; split <;> omega)) rfl (by decide) (cok2 trivial trivial) ?_
              refine dv (gyes_none rfl) (q_mv (v := .int .u64 ((a - ((nth l k).2.2.2.1) : Nat) : Int)) rfl) rfl (by decide) (cok1 trivial) ?_
              refine dv (gyes_none rfl) (q_load (v := .int .u64 ((n : Nat) : Int)) Try.isAgg25 rfl (s43.rd (j := 7) rfl) rfl) rfl (by decide) (cok1 trivial) ?_
              refine dv (gyes_none rfl) (OpQ.cast (v' := .int .u64 ((a - ((nth l k).2.2.2.1) + n : Nat) : Int)) (q_int rfl rfl rfl) (congrArg _ ((u64_in (by omega)).trans (by first | rfl | omega | (push_cast; rfl))))) rfl (by decide) (cok2 trivial trivial) ?_
              refine dv (gyes_none rfl) (q_field Try.underlying75 rfl Try.sizeOf25 rfl (s43.rd (j := 0) rfl)) rfl (by decide) (cok1 trivial) ?_
              refine dv (gyes_none rfl) (q_load (v := .int .u64 (((nth l k).2.2.2.2.1 : Nat) : Int)) Try.isAgg25 rfl (s43.rd (j := 0) rfl) rfl) rfl (by decide) (cok1 trivial) ?_
              refine dv (gyes_none rfl) (OpQ.cast (v' := .int .u64 ((min (a - ((nth l k).2.2.2.1) + n) ((nth l k).2.2.2.2.1) : Nat) : Int)) (q_min rfl rfl) (by congr 1; split <;> omega)) rfl (by decide) (cok2 trivial trivial) ?_
              refine dv (gyes_none rfl) (OpQ.cast (v' := .string (fileP B (nth l k) (a - (nth l k).2.2.2.1) n)) (q_substr (i := min (a - (nth l k).2.2.2.1) (nth l k).2.2.2.2.1) (j := min (a - (nth l k).2.2.2.1 + n) (nth l k).2.2.2.2.1) Try.underlying9 rfl ⟨_, rfl⟩ ⟨_, rfl⟩ (by omega) (by omega)) rfl) rfl (by decide) (call_ok rfl) ?_
              refine dv (gyes_none rfl) (q_as (v := .string (fileP B (nth l k) (a - (nth l k).2.2.2.1) n)) rfl) rfl (by decide) (cok1 trivial) ?_
              refine ⟨_, Wk.refl _ _, ?_⟩
              show awp _ _ _ _ _ _ _
              refine awp_seq ?_
              refine awp_regs hF ?_
              refine dv (gyes_none rfl) (q_mv (v := .string (fileP B (nth l k) (a - (nth l k).2.2.2.1) n)) rfl) rfl (by decide) (cok1 trivial) ?_
              refine dv (gyes_none rfl) (q_load (v := .int .u64 ((n : Nat) : Int)) Try.isAgg25 rfl (s43.rd (j := 7) rfl) rfl) rfl (by decide) (cok1 trivial) ?_
              refine dv (gyes_none rfl) (q_convin (a := ((n : Nat) : Int)) Try.underlying25 Try.underlying3 rfl (i64_in (by omega))) rfl (by decide) (cok1 trivial) ?_
              refine dv (gyes_none rfl) (q_mv (v := .string (fileP B (nth l k) (a - (nth l k).2.2.2.1) n)) rfl) rfl (by decide) (cok1 trivial) ?_
              refine dv (gyes_none rfl) (q_len_str Try.underlying9 rfl) rfl (by decide) (cok1 trivial) ?_
              refine dv (gyes_none rfl) (OpQ.cast (v' := .int .i64 ((n - ((fileP B (nth l k) (a - (nth l k).2.2.2.1) n).size) : Nat) : Int)) (q_int rfl rfl rfl) (congrArg _ ((i64_in (by omega)).trans (by omega)))) rfl (by decide) (cok2 trivial trivial) ?_
              refine dv (gyes_none rfl) (q_call0 Try.call46 rfl (repeat_ok (n - (fileP B (nth l k) (a - (nth l k).2.2.2.1) n).size) (by omega))) rfl (by decide) (call_ok rfl) ?_
              refine dv (gyes_none rfl) (q_cat rfl rfl (by rw [zerosB_size]; omega)) rfl (by decide) (cok2 trivial trivial) ?_
              refine x_store1 [] hF s43 (by kernel_rfl) (gyes_none rfl) (j := 6) (v := .string ((fileP B (nth l k) (a - (nth l k).2.2.2.1) n) ++ (zerosB (n - (fileP B (nth l k) (a - (nth l k).2.2.2.1) n).size)))) rfl Try.sizeOf9 rfl rfl rfl (lc_scalar rfl) (Nat.le_of_ble_eq_true rfl) trivial trivial rfl rfl (F' := [(b37, .cells true [.int .u32 (((nth l k).1 : Nat) : Int), .int .i64 (((nth l k).2.1 : Nat) : Int), .int .u64 (((nth l k).2.2.1 : Nat) : Int), .int .u64 (((nth l k).2.2.2.1 : Nat) : Int), .int .u64 (((nth l k).2.2.2.2.1 : Nat) : Int), .int .u64 (((nth l k).2.2.2.2.2 : Nat) : Int)] 6), (l29, lp27 .busy none), (d28, .mark), (b21, .cells true [.int .u32 1] 1), (b22, .cells true [.string B, .int .u64 ((E : Nat) : Int), vL] 3), (b17, .cells true [.bool false] 1), (b13, .cells true [.string ((fileP B (nth l k) (a - (nth l k).2.2.2.1) n) ++ (zerosB (n - (fileP B (nth l k) (a - (nth l k).2.2.2.1) n).size)))] 1), (b9, .cells true [.int .u64 ((n : Nat) : Int)] 1), (b5, .cells true [.int .u64 ((a : Nat) : Int)] 1), (b1, .cells true [.string B, .int .u64 ((E : Nat) : Int), vL] 3)]) rfl (fun H44 s45 => ⟨?_, ?_⟩)
              · exact trivial
              refine x_store1 [] hF s45 (by kernel_rfl) (gyes_none rfl) (j := 5) (v := .bool true) rfl Try.sizeOf4 rfl rfl rfl (lc_scalar rfl) (Nat.le_of_ble_eq_true rfl) trivial (cconst rfl) rfl rfl (F' := [(b37, .cells true [.int .u32 (((nth l k).1 : Nat) : Int), .int .i64 (((nth l k).2.1 : Nat) : Int), .int .u64 (((nth l k).2.2.1 : Nat) : Int), .int .u64 (((nth l k).2.2.2.1 : Nat) : Int), .int .u64 (((nth l k).2.2.2.2.1 : Nat) : Int), .int .u64 (((nth l k).2.2.2.2.2 : Nat) : Int)] 6), (l29, lp27 .busy none), (d28, .mark), (b21, .cells true [.int .u32 1] 1), (b22, .cells true [.string B, .int .u64 ((E : Nat) : Int), vL] 3), (b17, .cells true [.bool true] 1), (b13, .cells true [.string ((fileP B (nth l k) (a - (nth l k).2.2.2.1) n) ++ (zerosB (n - (fileP B (nth l k) (a - (nth l k).2.2.2.1) n).size)))] 1), (b9, .cells true [.int .u64 ((n : Nat) : Int)] 1), (b5, .cells true [.int .u64 ((a : Nat) : Int)] 1), (b1, .cells true [.string B, .int .u64 ((E : Nat) : Int), vL] 3)]) rfl (fun H46 s47 => ⟨?_, ?_⟩)
              · exact trivial
              refine ⟨_, Wk.refl _ _, ?_⟩
              show awp _ _ _ _ _ _ _
              refine awp_ret_wk ?_
              refine ⟨_, Wk.refl _ _, ?_⟩
              repeat (with_reducible first | refine then_ret ?_ | refine blk_ret ?_ | refine then_exit ?_ | refine blk_exit ?_ | refine blk_exit' (by decide) ?_ | refine blk_normal ?_ | refine then_normal ?_ | refine retq_ret ?_ | refine retq_normal ?_ | refine ng_normal ?_ | refine ng_ret ?_ | refine ng_exit ?_)
              exact ⟨(s47.forget 0).getj (j := 0) rfl, (fun h => nomatch h), (fun _ => ⟨_, ((s47.forget 0).setAt (j := 0) rfl (lp27 .done (some .ret))), imgAt_yes hx (pB_yes (by omega)) hq⟩)⟩
  case after =>
    rintro v H' ⟨rfl, hpost⟩
    rcases hpost with ⟨s48, hq⟩ | ⟨i_, hi_, ⟨r, s49, hr⟩⟩
    ·
      refine ⟨(by
          intro e he
          rcases List.mem_cons.1 he with rfl | he
          · exact s48.getj (j := 1) rfl
          · cases he), .inl ⟨s48.getj (j := 0) rfl, ?_⟩⟩
      have s50 := (s48.setAt (j := 0) rfl .none).forget 0
      refine ⟨_, Wk.refl _ _, ?_⟩
      show awp _ _ _ _ _ _ _
      refine awp_seq ?_
      refine awp_regs hF ?_
      refine x_store1 [] hF s50 (by kernel_rfl) (gyes_none rfl) (j := 4) (v := .string (⟨#[]⟩ : ByteArray)) rfl Try.sizeOf9 rfl rfl rfl (lc_scalar rfl) (Nat.le_of_ble_eq_true rfl) trivial (cconst rfl) rfl rfl (F' := [(d28, .mark), (b21, .cells true [.int .u32 1] 1), (b22, .cells true [.string B, .int .u64 ((E : Nat) : Int), vL] 3), (b17, .cells true [.bool false] 1), (b13, .cells true [.string (⟨#[]⟩ : ByteArray)] 1), (b9, .cells true [.int .u64 ((n : Nat) : Int)] 1), (b5, .cells true [.int .u64 ((a : Nat) : Int)] 1), (b1, .cells true [.string B, .int .u64 ((E : Nat) : Int), vL] 3)]) rfl (fun H51 s52 => ⟨?_, ?_⟩)
      · exact trivial
      refine x_store1 [] hF s52 (by kernel_rfl) (gyes_none rfl) (j := 3) (v := .bool false) rfl Try.sizeOf4 rfl rfl rfl (lc_scalar rfl) (Nat.le_of_ble_eq_true rfl) trivial (cconst rfl) rfl rfl (F' := [(d28, .mark), (b21, .cells true [.int .u32 1] 1), (b22, .cells true [.string B, .int .u64 ((E : Nat) : Int), vL] 3), (b17, .cells true [.bool false] 1), (b13, .cells true [.string (⟨#[]⟩ : ByteArray)] 1), (b9, .cells true [.int .u64 ((n : Nat) : Int)] 1), (b5, .cells true [.int .u64 ((a : Nat) : Int)] 1), (b1, .cells true [.string B, .int .u64 ((E : Nat) : Int), vL] 3)]) rfl (fun H53 s54 => ⟨?_, ?_⟩)
      · exact trivial
      refine ⟨_, Wk.refl _ _, ?_⟩
      show awp _ _ _ _ _ _ _
      refine awp_ret_wk ?_
      refine ⟨_, Wk.refl _ _, ?_⟩
      repeat (with_reducible first | refine then_ret ?_ | refine blk_ret ?_ | refine then_exit ?_ | refine blk_exit ?_ | refine blk_exit' (by decide) ?_ | refine blk_normal ?_ | refine then_normal ?_ | refine retq_ret ?_ | refine retq_normal ?_ | refine ng_normal ?_ | refine ng_ret ?_ | refine ng_exit ?_)
      exact ret_noneD (v := .tuple #[.string (⟨#[]⟩ : ByteArray), .bool false]) rfl (s54.setAt (j := 0) rfl .none).kp (.cell rfl Try.isAgg9 ((s54.setAt (j := 0) rfl .none).rd (j := 4) rfl) rfl (.cell rfl Try.isAgg4 ((s54.setAt (j := 0) rfl .none).rd (j := 3) rfl) rfl .nil)) rfl rfl ⟨by rw [imgAt_no hq]; first | done | rfl, rfl⟩
    ·
      refine ⟨(by
          intro e he
          rcases List.mem_cons.1 he with rfl | he
          · exact s49.getj (j := 1) rfl
          · cases he), .inr ⟨_, s49.getj (j := 0) rfl, ?_⟩⟩
      have s55 := (s49.setAt (j := 0) rfl .none).forget 0
      refine awp_ret_wk ?_
      refine ⟨_, Wk.refl _ _, ?_⟩
      repeat (with_reducible first | refine then_ret ?_ | refine blk_ret ?_ | refine then_exit ?_ | refine blk_exit ?_ | refine blk_exit' (by decide) ?_ | refine blk_normal ?_ | refine then_normal ?_ | refine retq_ret ?_ | refine retq_normal ?_ | refine ng_normal ?_ | refine ng_ret ?_ | refine ng_exit ?_)
      exact ret_noneD (v := .tuple #[.string r, .bool true]) rfl (s55.setAt (j := 0) rfl .none).kp (.cell rfl Try.isAgg9 ((s55.setAt (j := 0) rfl .none).rd (j := 4) rfl) rfl (.cell rfl Try.isAgg4 ((s55.setAt (j := 0) rfl .none).rd (j := 3) rfl) rfl .nil)) rfl rfl ⟨by rw [hr]; first | done | rfl, rfl⟩

end Go.Proofs.YthfndghgfabbjaaA

