/-
  Walks of functions of the given program, and what they compute.
-/
import Derived.Test.YtmoldjiooccppaaB5
import Derived.Test.YtmoldjiooccppaaS5
import Derived.Test.YtmoldjiooccppaaProg
import Derived.KernelRfl
namespace Go.Proofs.YtmoldjiooccppaaA
set_option linter.unusedVariables false
open Go Go.RowKit Go.Shelf Go.Proofs
theorem go_end {C : List Nat} {n x : Nat} (hn : n ≤ C.length) (h : ¬ (n < C.length) ∨ x = 0 ∨ C.length ≤ x) : walkGo C (C.length - n) x = [] := by
  rcases h with h | h
  · rw [show C.length - n = 0 by omega]; rfl
  · exact go_stop h
set_option maxRecDepth 100000 in
set_option maxHeartbeats 4000000 in
theorem rwalk_ok {H0 : AHeap} (s : ByteArray) (hs : s.size ≤ 140737488355328) (B C : List Nat) (vB vC : Value) (hB : Sl u32v H0 vB B) (hC : Sl u32v H0 vC C) (hB1 : B.length < 4294967296) (hBv : ∀ x ∈ B, x < 4294967296) (hCv : ∀ x ∈ C, x < 4294967296) (hC1 : C.length ≤ 1000000) : ACalls Try.prog 11 [vB, vC, .string s] H0 (Fresh i64v (walkL B C s) H0) := by
  have hF : Wd Fence.wide := .inl rfl
  have hM : Try.prog.follows .mixedOrders = true := by kernel_rfl
  have s0 := St.begin H0
  refine acalls_st Try.func11 rfl Try.ntmps11 rfl ?_
  refine awp_seq ?_
  refine awp_regs hF ?_
  refine dv (gyes_none rfl) (q_as (v := .slice none 0 0) rfl) rfl (by decide) (cok1 (cconst rfl)) ?_
  refine ⟨_, Wk.refl _ _, ?_⟩
  show awp _ _ _ _ _ _ _
  refine awp_seq ?_
  refine awp_regs hF ?_
  refine dv (gyes_none rfl) (q_as (v := .slice none 0 0) rfl) rfl (by decide) (cok1 (cconst rfl)) ?_
  refine ⟨_, Wk.refl _ _, ?_⟩
  show awp _ _ _ _ _ _ _
  refine awp_seq ?_
  refine awp_seq ?_
  refine awp_regs hF ?_
  refine dv (gyes_none rfl) (q_mv (v := vB) rfl) rfl (by decide) (cok1 trivial) ?_
  refine dv (gyes_none rfl) (q_len_sl (l := B) Try.underlying24 (s0.sl hB) rfl) rfl (by decide) (cok1 trivial) ?_
  refine dvb (gyes_none rfl) (q_int rfl rfl rfl) rfl (by decide) (cok2 trivial (cconst rfl)) (fun c1 => ?_) (fun c1 => ?_)
  ·
    replace c1 := eq_of_beq c1
    refine ⟨_, Wk.refl _ _, ?_⟩
    show awp _ _ _ _ _ _ _
    refine awp_cond_t rfl ?_
    refine awp_seq ?_
    refine awp_regs hF ?_
    refine dv (gyes_none rfl) (q_as (v := .slice none 0 0) rfl) rfl (by decide) (cok1 (cconst rfl)) ?_
    refine ⟨_, Wk.refl _ _, ?_⟩
    show awp _ _ _ _ _ _ _
    refine awp_nil s0 6 1 rfl (fun b1 H2 hb4 s3 => ?_)
    refine awp_ret_wk ?_
    refine ⟨_, Wk.refl _ _, ?_⟩
    repeat (with_reducible first | refine then_ret ?_ | refine blk_ret ?_ | refine then_exit ?_ | refine blk_exit ?_ | refine blk_exit' (by decide) ?_ | refine blk_normal ?_ | refine then_normal ?_ | refine retq_ret ?_ | refine retq_normal ?_ | refine ng_normal ?_ | refine ng_ret ?_ | refine ng_exit ?_)
    refine ret_is rfl (.tmp rfl .nil) rfl ?_
    rw [walk_nil (by omega)]
    exact fresh_of (l := []) s3 (j := 0) rfl rfl
  ·
    replace c1 := ne_of_beq_false c1
    have hB0 : 0 < B.length := by omega
    have hk : hash s % B.length < B.length := Nat.mod_lt _ hB0
    have hh := hash_lt s
    have hv : nth B (hash s % B.length) < 4294967296 := by rw [nth_eq hk]; exact hBv _ (List.getElem_mem hk)
    refine ⟨_, Wk.refl _ _, ?_⟩
    show awp _ _ _ _ _ _ _
    refine awp_cond_f rfl ?_
    refine awp_skip_wk ?_
    refine ⟨_, Wk.refl _ _, ?_⟩
    show awp _ _ _ _ _ _ _
    refine awp_seq ?_
    refine awp_regs hF ?_
    refine dv (gyes_none rfl) (q_mv (v := vB) rfl) rfl (by decide) (cok1 trivial) ?_
    refine dv (gyes_none rfl) (q_mv (v := .string s) rfl) rfl (by decide) (cok1 trivial) ?_
    refine dv (gyes_none rfl) (q_call0 Try.call22 rfl (rhash_ok rfl s hs)) rfl (by decide) (cok2 trivial trivial) ?_
    refine dv (gyes_none rfl) (q_convin (a := ((hash s : Nat) : Int)) Try.underlying31 Try.underlying3 rfl (i64_in (by omega))) rfl (by decide) (cok1 trivial) ?_
    refine dv (gyes_none rfl) (q_mv (v := vB) rfl) rfl (by decide) (cok1 trivial) ?_
    refine dv (gyes_none rfl) (q_len_sl (l := B) Try.underlying24 (s0.sl hB) rfl) rfl (by decide) (cok1 trivial) ?_
    refine dv (gyes_none rfl) (q_remM (a := (hash s)) (b := B.length) rfl rfl (by first | decide | omega)) rfl (by decide) (cok2 trivial trivial) ?_
    refine dv (gyes_none rfl) (q_index_sl (l := B) (i := ((hash s) % B.length)) Try.underlying24 Try.sizeOf31 (s0.sl hB) rfl rfl (by omega)) rfl (by decide) (cok2 trivial trivial) ?_
    refine dv (gyes_none rfl) (q_load_sl (l := B) (i := ((hash s) % B.length)) Try.isAgg31 (s0.sl hB) rfl (by omega)) rfl (by decide) (cok1 trivial) ?_
    refine dv (gyes_none rfl) (q_convin (a := ((nth B ((hash s) % B.length) : Nat) : Int)) Try.underlying31 Try.underlying3 rfl (i64_in (by omega))) rfl (by decide) (cok1 trivial) ?_
    refine dv (gyes_none rfl) (q_as (v := .int .i64 ((nth B ((hash s) % B.length) : Nat) : Int)) rfl) rfl (by decide) (cok1 trivial) ?_
    refine ⟨_, Wk.refl _ _, ?_⟩
    show awp _ _ _ _ _ _ _
    refine awp_seq ?_
    refine awp_block ?_
    refine awp_nil s0 7 1 rfl (fun b5 H6 hb8 s7 => ?_)
    refine awp_wk (Wk.U [(0, vB), (1, vC), (2, .string s), (7, .slice (some ⟨b5, 0, none⟩) (([] : List Nat).length) (([] : List Nat).length)), (8, .int .i64 (((nth B (hash s % B.length)) : Nat) : Int))] ⟨rfl, rfl, rfl, rfl, rfl, trivial⟩) ?_
    refine awp_loop (fun ((l, x) : (List Nat) × Nat) st => ∃ (H9 : AHeap) (b : Nat), st = ⟨47, U [(0, vB), (1, vC), (2, .string s), (7, .slice (some ⟨b, 0, none⟩) l.length l.length), (8, .int .i64 ((x : Nat) : Int))], [], H9⟩ ∧ St H0 (none0) (Rd H0) H9 [(b, .cells true (l.map i64v) 1)] ∧ (l ++ walkGo C (C.length - l.length) x = walkL B C s ∧ l.length ≤ C.length ∧ x < 4294967296)) (fun ((l, x) : (List Nat) × Nat) => C.length - l.length) (x0 := (([] : List Nat), (nth B (hash s % B.length)))) ?h0 ?round
    case h0 =>
      exact ⟨_, _, rfl, s7, ⟨by rw [walk_pos hB0, nth_eq hk]; rfl, Nat.zero_le _, by rw [nth_eq hk]; exact hBv _ (List.getElem_mem hk)⟩⟩
    case round =>
      rintro ⟨l, x⟩ _ ⟨H9, b, rfl, s10, hl⟩
      dsimp only at *
      refine awp_seq ?_
      refine awp_seq ?_
      refine awp_regs hF ?_
      refine dv (gyes_none rfl) (q_mv (v := .slice (some ⟨b, 0, none⟩) l.length l.length) rfl) rfl (by decide) (cok1 trivial) ?_
      refine dv (gyes_none rfl) (q_len_slice Try.underlying29 rfl (s10.rd (j := 0) rfl)) rfl (by decide) (cok1 trivial) ?_
      refine dv (gyes_none rfl) (q_mv (v := vC) rfl) rfl (by decide) (cok1 trivial) ?_
      refine dv (gyes_none rfl) (q_len_sl (l := C) Try.underlying24 (s10.sl hC) rfl) rfl (by decide) (cok1 trivial) ?_
      refine dvb (gyes_none rfl) (q_int rfl rfl rfl) rfl (by decide) (cok2 trivial trivial) (fun c2 => ?_) (fun c2 => ?_)
      ·
        replace c2 := of_decide_eq_true c2
        try (have hx : x < C.length := by omega)
        try (have hv : nth C x < 4294967296 := by rw [nth_eq hx]; exact hCv _ (List.getElem_mem hx))
        refine dv (gyes_none rfl) (q_mv (v := .bool true) rfl) rfl (by decide) (cok1 trivial) ?_
        refine dv (gyes_some rfl rfl) (q_mv (v := .int .i64 ((x : Nat) : Int)) rfl) rfl (by decide) (cok1 trivial) ?_
        refine dvb (gyes_some rfl rfl) (q_int rfl rfl rfl) rfl (by decide) (cok2 trivial (cconst rfl)) (fun c3 => ?_) (fun c3 => ?_)
        ·
          replace c3 := of_decide_eq_true c3
          try (have hx : x < C.length := by omega)
          try (have hv : nth C x < 4294967296 := by rw [nth_eq hx]; exact hCv _ (List.getElem_mem hx))
          refine dv (gyes_none rfl) (q_pt (v := .bool true) rfl rfl) rfl (by decide) (call_ok rfl) ?_
          refine dv (gyes_none rfl) (q_mv (v := .bool true) rfl) rfl (by decide) (cok1 trivial) ?_
          refine dv (gyes_some rfl rfl) (q_mv (v := .int .i64 ((x : Nat) : Int)) rfl) rfl (by decide) (cok1 trivial) ?_
          refine dv (gyes_some rfl rfl) (q_mv (v := vC) rfl) rfl (by decide) (cok1 trivial) ?_
          refine dv (gyes_some rfl rfl) (q_len_sl (l := C) Try.underlying24 (s10.sl hC) rfl) rfl (by decide) (cok1 trivial) ?_
          refine dvb (gyes_some rfl rfl) (q_int rfl rfl rfl) rfl (by decide) (cok2 trivial trivial) (fun c4 => ?_) (fun c4 => ?_)
          ·
            replace c4 := of_decide_eq_true c4
            try (have hx : x < C.length := by omega)
            try (have hv : nth C x < 4294967296 := by rw [nth_eq hx]; exact hCv _ (List.getElem_mem hx))
            refine dv (gyes_none rfl) (q_pt (v := .bool true) rfl rfl) rfl (by decide) (call_ok rfl) ?_
            refine ⟨_, Wk.refl _ _, ?_⟩
            show awp _ _ _ _ _ _ _
            refine awp_cond_t rfl ?_
            refine awp_skip_wk ?_
            refine ⟨_, Wk.refl _ _, ?_⟩
            show awp _ _ _ _ _ _ _
            refine awp_block ?_
            refine awp_seq ?_
            refine awp_regs hF ?_
            refine dv (gyes_none rfl) (q_mv (v := .slice (some ⟨b, 0, none⟩) l.length l.length) rfl) rfl (by decide) (cok1 trivial) ?_
            refine dv (gyes_none rfl) (q_mv (v := .int .i64 ((x : Nat) : Int)) rfl) rfl (by decide) (cok1 trivial) ?_
            refine x_new (fun b => .slice (some ⟨b, 0, none⟩) 1 1) s10 (gyes_none rfl) (q_buildSliceL (ds := [.int .i64 ((x : Nat) : Int)]) [.int .i64 ((x : Nat) : Int)] rfl Try.underlying29 Try.sizeOf3 Try.zeroValue3 rfl (by decide) (by decide) ⟨rfl, trivial⟩ (lvsC (by exact trivial) lvs0) rfl rfl) rfl (by decide) (cok1 trivial) (fun b11 H12 hb14 s13 => ?_)
            refine x_append (l := [x]) (f := i64v) [] hF s13 (by kernel_rfl) (j := 1) ((l ++ [x]).length) (by simp) (gyes_none rfl) Try.underlying29 Try.underlying29 Try.type3 rfl rfl (by decide) rfl rfl rfl rfl (s13.slj (l := [x]) (f := i64v) (j := 0) rfl rfl (Nat.le_refl _)) (fun x => lc_scalar rfl) (by simp) (by show (2 * _ + 1000) * 8 ≤ _; first | omega | (simp only [List.length_append, List.length_cons, List.length_nil, List.length_take]; omega)) trivial trivial (by decide) rfl rfl (vs' := (l ++ [x]).map i64v) (by simp) (fun b15 H16 hb18 s17 => ⟨?_, ?_⟩)
            · exact trivial
            refine dv (gyes_none rfl) (q_as (v := .slice (some ⟨b15, 0, none⟩) ((l ++ [x]).length) ((l ++ [x]).length)) rfl) rfl (by decide) (cok1 trivial) ?_
            refine ⟨_, Wk.refl _ _, ?_⟩
            show awp _ _ _ _ _ _ _
            refine awp_regs hF ?_
            refine dv (gyes_none rfl) (q_mv (v := vC) rfl) rfl (by decide) (cok1 trivial) ?_
            refine dv (gyes_none rfl) (q_mv (v := .int .i64 ((x : Nat) : Int)) rfl) rfl (by decide) (cok1 trivial) ?_
            refine dv (gyes_none rfl) (q_index_sl (l := C) (i := x) Try.underlying24 Try.sizeOf31 (s17.sl hC) rfl rfl (by omega)) rfl (by decide) (cok2 trivial trivial) ?_
            refine dv (gyes_none rfl) (q_load_sl (l := C) (i := x) Try.isAgg31 (s17.sl hC) rfl (by omega)) rfl (by decide) (cok1 trivial) ?_
            refine dv (gyes_none rfl) (q_convin (a := ((nth C x : Nat) : Int)) Try.underlying31 Try.underlying3 rfl (i64_in (by omega))) rfl (by decide) (cok1 trivial) ?_
            refine dv (gyes_none rfl) (q_as (v := .int .i64 ((nth C x : Nat) : Int)) rfl) rfl (by decide) (cok1 trivial) ?_
            refine ⟨_, Wk.U [(0, vB), (1, vC), (2, .string s), (7, .slice (some ⟨b15, 0, none⟩) ((l ++ [x]).length) ((l ++ [x]).length)), (8, .int .i64 (((nth C x) : Nat) : Int))] ⟨rfl, rfl, rfl, rfl, rfl, trivial⟩, ((l ++ [x]), (nth C x)), ⟨_, _, rfl, (s17.sub (.cons _ (.cons_cons _ (.refl _)))), ⟨by rw [← hl.1, List.append_assoc, List.length_append, List.length_cons, List.length_nil, go_step (n := C.length - l.length) (by omega) (by omega) hx, nth_eq hx, Nat.sub_sub]; rfl, by rw [List.length_append, List.length_cons, List.length_nil]; omega, by rw [nth_eq hx]; exact hCv _ (List.getElem_mem hx)⟩⟩, (by rw [List.length_append, List.length_cons, List.length_nil]; omega)⟩
          ·
            replace c4 := of_decide_eq_false c4
            refine dv (gyes_none rfl) (q_pt (v := .bool false) rfl rfl) rfl (by decide) (call_ok rfl) ?_
            refine ⟨_, Wk.refl _ _, ?_⟩
            show awp _ _ _ _ _ _ _
            refine awp_cond_f rfl ?_
            refine awp_exit_wk ?_
            refine ⟨_, Wk.refl _ _, ?_⟩
            show awp _ _ _ _ _ _ _
            refine awp_seq ?_
            refine awp_regs hF ?_
            refine dv (gyes_none rfl) (q_mv (v := .slice (some ⟨b, 0, none⟩) l.length l.length) rfl) rfl (by decide) (cok1 trivial) ?_
            refine dv (gyes_none rfl) (q_as (v := .slice (some ⟨b, 0, none⟩) l.length l.length) rfl) rfl (by decide) (cok1 trivial) ?_
            refine ⟨_, Wk.refl _ _, ?_⟩
            show awp _ _ _ _ _ _ _
            refine awp_ret_wk ?_
            refine ⟨_, Wk.refl _ _, ?_⟩
            repeat (with_reducible first | refine then_ret ?_ | refine blk_ret ?_ | refine then_exit ?_ | refine blk_exit ?_ | refine blk_exit' (by decide) ?_ | refine blk_normal ?_ | refine then_normal ?_ | refine retq_ret ?_ | refine retq_normal ?_ | refine ng_normal ?_ | refine ng_ret ?_ | refine ng_exit ?_)
            refine ret_is rfl (.tmp rfl .nil) rfl ?_
            obtain rfl : l = walkL B C s := by
              have h1 := hl.1
              rw [go_end hl.2.1 (by omega), List.append_nil] at h1; exact h1
            exact fresh_of s10 (j := 0) rfl rfl
        ·
          replace c3 := of_decide_eq_false c3
          refine dv (gyes_none rfl) (q_pt (v := .bool false) rfl rfl) rfl (by decide) (call_ok rfl) ?_
          refine dv (gyes_none rfl) (q_mv (v := .bool false) rfl) rfl (by decide) (cok1 trivial) ?_
          refine dno rfl (.inl rfl) rfl (by decide) ?_
          refine dno rfl (.inl rfl) rfl (by decide) ?_
          refine dno rfl (.inl rfl) rfl (by decide) ?_
          refine dno rfl (.inl rfl) rfl (by decide) ?_
          refine dv (gyes_none rfl) (q_pf (v := .bool false) rfl rfl) rfl (by decide) (call_ok rfl) ?_
          refine ⟨_, Wk.refl _ _, ?_⟩
          show awp _ _ _ _ _ _ _
          refine awp_cond_f rfl ?_
          refine awp_exit_wk ?_
          refine ⟨_, Wk.refl _ _, ?_⟩
          show awp _ _ _ _ _ _ _
          refine awp_seq ?_
          refine awp_regs hF ?_
          refine dv (gyes_none rfl) (q_mv (v := .slice (some ⟨b, 0, none⟩) l.length l.length) rfl) rfl (by decide) (cok1 trivial) ?_
          refine dv (gyes_none rfl) (q_as (v := .slice (some ⟨b, 0, none⟩) l.length l.length) rfl) rfl (by decide) (cok1 trivial) ?_
          refine ⟨_, Wk.refl _ _, ?_⟩
          show awp _ _ _ _ _ _ _
          refine awp_ret_wk ?_
          refine ⟨_, Wk.refl _ _, ?_⟩
          repeat (with_reducible first | refine then_ret ?_ | refine blk_ret ?_ | refine then_exit ?_ | refine blk_exit ?_ | refine blk_exit' (by decide) ?_ | refine blk_normal ?_ | refine then_normal ?_ | refine retq_ret ?_ | refine retq_normal ?_ | refine ng_normal ?_ | refine ng_ret ?_ | refine ng_exit ?_)
          refine ret_is rfl (.tmp rfl .nil) rfl ?_
          obtain rfl : l = walkL B C s := by
            have h1 := hl.1
            rw [go_end hl.2.1 (by omega), List.append_nil] at h1; exact h1
          exact fresh_of s10 (j := 0) rfl rfl
      ·
        replace c2 := of_decide_eq_false c2
        refine dv (gyes_none rfl) (q_mv (v := .bool false) rfl) rfl (by decide) (cok1 trivial) ?_
        refine dno rfl (.inl rfl) rfl (by decide) ?_
        refine dno rfl (.inl rfl) rfl (by decide) ?_
        refine dv (gyes_none rfl) (q_pf (v := .bool false) rfl rfl) rfl (by decide) (call_ok rfl) ?_
        refine dv (gyes_none rfl) (q_mv (v := .bool false) rfl) rfl (by decide) (cok1 trivial) ?_
        refine dno rfl (.inl rfl) rfl (by decide) ?_
        refine dno rfl (.inl rfl) rfl (by decide) ?_
        refine dno rfl (.inl rfl) rfl (by decide) ?_
        refine dno rfl (.inl rfl) rfl (by decide) ?_
        refine dv (gyes_none rfl) (q_pf (v := .bool false) rfl rfl) rfl (by decide) (call_ok rfl) ?_
        refine ⟨_, Wk.refl _ _, ?_⟩
        show awp _ _ _ _ _ _ _
        refine awp_cond_f rfl ?_
        refine awp_exit_wk ?_
        refine ⟨_, Wk.refl _ _, ?_⟩
        show awp _ _ _ _ _ _ _
        refine awp_seq ?_
        refine awp_regs hF ?_
        refine dv (gyes_none rfl) (q_mv (v := .slice (some ⟨b, 0, none⟩) l.length l.length) rfl) rfl (by decide) (cok1 trivial) ?_
        refine dv (gyes_none rfl) (q_as (v := .slice (some ⟨b, 0, none⟩) l.length l.length) rfl) rfl (by decide) (cok1 trivial) ?_
        refine ⟨_, Wk.refl _ _, ?_⟩
        show awp _ _ _ _ _ _ _
        refine awp_ret_wk ?_
        refine ⟨_, Wk.refl _ _, ?_⟩
        repeat (with_reducible first | refine then_ret ?_ | refine blk_ret ?_ | refine then_exit ?_ | refine blk_exit ?_ | refine blk_exit' (by decide) ?_ | refine blk_normal ?_ | refine then_normal ?_ | refine retq_ret ?_ | refine retq_normal ?_ | refine ng_normal ?_ | refine ng_ret ?_ | refine ng_exit ?_)
        refine ret_is rfl (.tmp rfl .nil) rfl ?_
        obtain rfl : l = walkL B C s := by
          have h1 := hl.1
          rw [go_end hl.2.1 (by omega), List.append_nil] at h1; exact h1
        exact fresh_of s10 (j := 0) rfl rfl

end Go.Proofs.YtmoldjiooccppaaA
