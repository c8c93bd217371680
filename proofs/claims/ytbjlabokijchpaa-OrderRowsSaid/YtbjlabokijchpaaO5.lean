/-
  Walks of functions of the given program, and what they compute.
-/
import Derived.Test.YtbjlabokijchpaaO4
import Derived.Test.YtbjlabokijchpaaB8
import Derived.Test.YtbjlabokijchpaaProg
import Derived.KernelRfl
namespace Go.Proofs.YtbjlabokijchpaaA
set_option linter.unusedVariables false
open Go Go.RowKit Go.Shelf Go.Proofs
set_option maxRecDepth 100000 in
set_option maxHeartbeats 4000000 in
theorem clone_ok {H0 : AHeap} (l : List Int) (vL : Value) (hL : Sl intv H0 vL l) (hl : l.length ≤ 1000000) : ACalls Try.prog 18 [vL] H0 (Fresh intv l H0) := by
  have hF : Wd Fence.wide := .inl rfl
  have hM : Try.prog.follows .mixedOrders = true := by kernel_rfl
  have s0 := St.begin H0
  refine acalls_st Try.func18 rfl Try.ntmps18 rfl ?_
  refine awp_seq ?_
  refine awp_regs hF ?_
  refine dv (gyes_none rfl) (q_as (v := .slice none 0 0) rfl) rfl (by decide) (cok1 (cconst rfl)) ?_
  refine ⟨_, Wk.refl _ _, ?_⟩
  show awp _ _ _ _ _ _ _
  refine awp_seq ?_
  refine awp_seq ?_
  refine awp_regs hF ?_
  refine dv (gyes_none rfl) (q_mv (v := vL) rfl) rfl (by decide) (cok1 trivial) ?_
  refine x_isnil_sl [] hF (by kernel_rfl) (gyes_none rfl) Try.underlying23 rfl (s0.sl hL) trivial (show _ < _ by decide) rfl (fun t1 ht2 => ⟨?_, ?_⟩)
  · exact trivial
  cases t1
  case false =>
    refine ⟨_, Wk.refl _ _, ?_⟩
    show awp _ _ _ _ _ _ _
    refine awp_cond_f rfl ?_
    refine awp_skip_wk ?_
    refine ⟨_, Wk.refl _ _, ?_⟩
    show awp _ _ _ _ _ _ _
    refine awp_seq ?_
    refine awp_regs hF ?_
    refine x_new (fun b => .slice (some ⟨b, 0, none⟩) 0 0) s0 (gyes_none rfl) (q_emptyLit Try.underlying23 Try.sizeOf3) rfl (by decide) (by simp [Op.operands, Call.operands]) (fun b3 H4 hb6 s5 => ?_)
    refine dv (gyes_none rfl) (q_mv (v := vL) rfl) rfl (by decide) (cok1 trivial) ?_
    refine x_new (fun b => .slice (some ⟨b, 0, none⟩) l.length l.length) s5 (gyes_none rfl) (q_append_nullS (l := l) (f := intv) (m' := l.length) (by simp) Try.underlying23 Try.underlying23 Try.type3 rfl rfl (by decide) rfl rfl rfl (s5.getj (j := 0) rfl) (s5.sl hL) (fun x => lc_scalar rfl) (by show (2 * _ + 1000) * 8 ≤ _; first | omega | (simp only [List.length_append, List.length_cons, List.length_nil, List.length_take, List.length_drop]; omega))) rfl (by decide) (cok2 trivial trivial) (fun b7 H8 hb10 s9 => ?_)
    refine dv (gyes_none rfl) (q_as (v := .slice (some ⟨b7, 0, none⟩) l.length l.length) rfl) rfl (by decide) (cok1 trivial) ?_
    refine ⟨_, Wk.refl _ _, ?_⟩
    show awp _ _ _ _ _ _ _
    refine awp_ret_wk ?_
    refine ⟨_, Wk.refl _ _, ?_⟩
    repeat (with_reducible first | refine then_ret ?_ | refine blk_ret ?_ | refine then_exit ?_ | refine blk_exit ?_ | refine blk_exit' (by decide) ?_ | refine blk_normal ?_ | refine then_normal ?_ | refine retq_ret ?_ | refine retq_normal ?_ | refine ng_normal ?_ | refine ng_ret ?_ | refine ng_exit ?_)
    refine ret_is (v := .slice (some ⟨b7, 0, none⟩) l.length l.length) rfl (.tmp rfl .nil) rfl ?_
    exact fresh_of (l := l) s9 (j := 0) rfl rfl
  case true =>
    have hnil : l = [] := ht2 rfl
    refine ⟨_, Wk.refl _ _, ?_⟩
    show awp _ _ _ _ _ _ _
    refine awp_cond_t rfl ?_
    refine awp_seq ?_
    refine awp_regs hF ?_
    refine dv (gyes_none rfl) (q_as (v := .slice none 0 0) rfl) rfl (by decide) (cok1 (cconst rfl)) ?_
    refine ⟨_, Wk.refl _ _, ?_⟩
    show awp _ _ _ _ _ _ _
    refine awp_nil s0 2 1 rfl (fun b11 H12 hb14 s13 => ?_)
    refine awp_ret_wk ?_
    refine ⟨_, Wk.refl _ _, ?_⟩
    repeat (with_reducible first | refine then_ret ?_ | refine blk_ret ?_ | refine then_exit ?_ | refine blk_exit ?_ | refine blk_exit' (by decide) ?_ | refine blk_normal ?_ | refine then_normal ?_ | refine retq_ret ?_ | refine retq_normal ?_ | refine ng_normal ?_ | refine ng_ret ?_ | refine ng_exit ?_)
    refine ret_is (v := .slice (some ⟨b11, 0, none⟩) 0 0) rfl (.tmp rfl .nil) rfl ?_
    subst hnil
    exact fresh_of (l := []) s13 (j := 0) rfl rfl
set_option maxRecDepth 100000 in
set_option maxHeartbeats 4000000 in
theorem delete0_ok {H0 : AHeap} (L : List Int) (i b : Nat) (hb : H0[b]? = some (.cells true (L.map intv) 1)) (hi : i < L.length) (hL : L.length ≤ 1000000) : ACalls Try.prog 20 [.slice (some ⟨b, 0, none⟩) L.length L.length, .int .i64 ((i : Nat) : Int), .int .i64 ((i + 1 : Nat) : Int)] H0 (fun v H' => v = .slice (some ⟨b, 0, none⟩) (L.length - 1) L.length ∧ Kp (· = b) H0 H' ∧ H'[b]? = some (.cells true ((L.eraseIdx i).map intv) 1)) := by
  have hF : Wd Fence.wide := .inl rfl
  have hM : Try.prog.follows .mixedOrders = true := by kernel_rfl
  have s0 := St.begin1 hb
  refine acalls_st Try.func20 rfl Try.ntmps20 rfl ?_
  refine awp_seq ?_
  refine awp_regs hF ?_
  refine dv (gyes_none rfl) (q_as (v := .slice none 0 0) rfl) rfl (by decide) (cok1 (cconst rfl)) ?_
  refine ⟨_, Wk.refl _ _, ?_⟩
  show awp _ _ _ _ _ _ _
  refine awp_seq ?_
  refine awp_regs hF ?_
  refine dv (gyes_none rfl) (q_mv (v := .slice (some ⟨b, 0, none⟩) L.length L.length) rfl) rfl (by decide) (cok1 trivial) ?_
  refine dv (gyes_none rfl) (q_mv (v := .int .i64 ((i : Nat) : Int)) rfl) rfl (by decide) (cok1 trivial) ?_
  refine dv (gyes_none rfl) (q_mv (v := .int .i64 ((i + 1 : Nat) : Int)) rfl) rfl (by decide) (cok1 trivial) ?_
  refine dv (gyes_none rfl) (q_mv (v := .slice (some ⟨b, 0, none⟩) L.length L.length) rfl) rfl (by decide) (cok1 trivial) ?_
  refine dv (gyes_none rfl) (q_len_slice Try.underlying23 rfl (s0.rd (j := 0) rfl)) rfl (by decide) (cok1 trivial) ?_
  refine dv (gyes_none rfl) (OpQ.cast (v' := .slice (some ⟨b, i, none⟩) ((i + 1) - i) (L.length - i)) (q_slice (i := i) (j := (i + 1)) (m := L.length) Try.underlying23 Try.sizeOf3 rfl (s0.rd (j := 0) rfl) ⟨_, rfl⟩ ⟨_, rfl⟩ ⟨_, rfl⟩ (by omega) (by omega) (by omega)) (by simp)) rfl (by decide) (call_ok rfl) ?_
  refine ⟨_, Wk.refl _ _, ?_⟩
  show awp _ _ _ _ _ _ _
  refine awp_seq ?_
  refine awp_seq ?_
  refine awp_regs hF ?_
  refine dv (gyes_none rfl) (q_mv (v := .int .i64 ((i : Nat) : Int)) rfl) rfl (by decide) (cok1 trivial) ?_
  refine dv (gyes_none rfl) (q_mv (v := .int .i64 ((i + 1 : Nat) : Int)) rfl) rfl (by decide) (cok1 trivial) ?_
  refine dvb (gyes_none rfl) (q_int rfl rfl rfl) rfl (by decide) (cok2 trivial trivial) (fun c1 => ?_) (fun c1 => ?_)
  ·
    replace c1 := eq_of_beq c1
    exfalso; omega
  ·
    replace c1 := ne_of_beq_false c1
    refine ⟨_, Wk.refl _ _, ?_⟩
    show awp _ _ _ _ _ _ _
    refine awp_cond_f rfl ?_
    refine awp_skip_wk ?_
    refine ⟨_, Wk.refl _ _, ?_⟩
    show awp _ _ _ _ _ _ _
    refine awp_seq ?_
    refine awp_regs hF ?_
    refine dv (gyes_none rfl) (q_mv (v := .slice (some ⟨b, 0, none⟩) L.length L.length) rfl) rfl (by decide) (cok1 trivial) ?_
    refine dv (gyes_none rfl) (q_len_slice Try.underlying23 rfl (s0.rd (j := 0) rfl)) rfl (by decide) (cok1 trivial) ?_
    refine dv (gyes_none rfl) (q_as (v := .int .i64 ((L.length : Nat) : Int)) rfl) rfl (by decide) (cok1 trivial) ?_
    refine ⟨_, Wk.refl _ _, ?_⟩
    show awp _ _ _ _ _ _ _
    refine awp_seq ?_
    refine awp_regt hF hM (by kernel_rfl) (by kernel_rfl) ?_
    refine dv (gyes_none rfl) (q_mv (v := .slice (some ⟨b, 0, none⟩) L.length L.length) rfl) rfl (by decide) (cok1 trivial) ?_
    refine dv (gyes_none rfl) (q_mv (v := .int .i64 ((i : Nat) : Int)) rfl) rfl (by decide) (cok1 trivial) ?_
    refine dv (gyes_none rfl) (OpQ.cast (v' := .slice (some ⟨b, 0, none⟩) i L.length) (q_slice (i := 0) (j := i) (m := L.length) Try.underlying23 Try.sizeOf3 rfl (s0.rd (j := 0) rfl) rfl ⟨_, rfl⟩ rfl (by omega) (by omega) (by omega)) (by simp)) rfl (by decide) (cok2 trivial trivial) ?_
    refine dv (gyes_none rfl) (q_mv (v := .slice (some ⟨b, 0, none⟩) L.length L.length) rfl) rfl (by decide) (cok1 trivial) ?_
    refine dv (gyes_none rfl) (q_mv (v := .int .i64 ((i + 1 : Nat) : Int)) rfl) rfl (by decide) (cok1 trivial) ?_
    refine dv (gyes_none rfl) (OpQ.cast (v' := .slice (some ⟨b, i + 1, none⟩) (L.length - (i + 1)) (L.length - (i + 1))) (q_slice (i := (i + 1)) (j := L.length) (m := L.length) Try.underlying23 Try.sizeOf3 rfl (s0.rd (j := 0) rfl) ⟨_, rfl⟩ ⟨rfl, rfl⟩ rfl (by omega) (by omega) (by omega)) (by simp)) rfl (by decide) (cok2 trivial trivial) ?_
    refine x_appendIn [] hF s0 (by kernel_rfl) (j := 0) (L.length - 1) (sz := 1) (m := (L.drop (i + 1)).length) (xs := (L.drop (i + 1)).map intv) (by rw [List.length_drop]; omega) (gyes_none rfl) Try.underlying23 Try.type3 rfl rfl rfl rfl (by omega) (fun ρ w v' hh hv => src_sl (fun x => lc_scalar rfl) Try.underlying23 (sl_drop (s0.rd (j := 0) rfl) (by omega) rfl (Nat.le_refl _)) ρ w v' hh hv) (by omega) (by rw [List.length_map]; omega) (by simp) trivial trivial (by decide) rfl rfl (vs' := splice (L.map intv) i ((L.drop (i + 1)).map intv)) (by rw [Nat.zero_add, Nat.mul_one]) rfl (fun H1 s2 => ⟨?_, ?_⟩)
    · exact trivial
    refine dv (gyes_none rfl) (q_as (v := .slice (some ⟨b, 0, none⟩) (L.length - 1) L.length) rfl) rfl (by decide) (cok1 trivial) ?_
    refine ⟨_, Wk.refl _ _, ?_⟩
    show awp _ _ _ _ _ _ _
    refine awp_seq ?_
    refine awp_regs hF ?_
    refine dv (gyes_none rfl) (q_mv (v := .slice (some ⟨b, 0, none⟩) (L.length - 1) L.length) rfl) rfl (by decide) (cok1 trivial) ?_
    refine dv (gyes_none rfl) (q_mv (v := .slice (some ⟨b, 0, none⟩) (L.length - 1) L.length) rfl) rfl (by decide) (cok1 trivial) ?_
    refine dv (gyes_none rfl) (q_len_slice Try.underlying23 rfl (s2.rd (j := 0) rfl)) rfl (by decide) (cok1 trivial) ?_
    refine dv (gyes_none rfl) (q_mv (v := .int .i64 ((L.length : Nat) : Int)) rfl) rfl (by decide) (cok1 trivial) ?_
    refine dv (gyes_none rfl) (OpQ.cast (v' := .slice (some ⟨b, L.length - 1, none⟩) (L.length - (L.length - 1)) (L.length - (L.length - 1))) (q_slice (i := (L.length - 1)) (j := L.length) (m := L.length) Try.underlying23 Try.sizeOf3 rfl (s2.rd (j := 0) rfl) ⟨_, rfl⟩ ⟨_, rfl⟩ rfl (by omega) (by omega) (by omega)) (by simp)) rfl (by decide) (call_ok rfl) ?_
    refine x_clear [] hF s2 (by kernel_rfl) (j := 0) (z := .int .i64 0) (gyes_none rfl) Try.underlying23 Try.zeroValue3 rfl rfl rfl (Nat.le_refl _) rfl (by rw [splice_length (by simp; omega), List.length_map]; omega) trivial rfl (vs' := (L.eraseIdx i).map intv ++ [.int .i64 0]) (by rw [show L.length - (L.length - 1) = 1 by omega]; exact splice_del hi) rfl (fun H3 s4 => ⟨?_, ?_⟩)
    · exact trivial
    refine ⟨_, Wk.refl _ _, ?_⟩
    show awp _ _ _ _ _ _ _
    refine awp_seq ?_
    refine awp_shrink s4 (j := 0) (vs2 := (L.eraseIdx i).map intv) rfl (L.length - 1) (by rw [List.take_append_of_le_length (by rw [List.length_map, List.length_eraseIdx_of_lt hi]; omega), List.take_of_length_le (by rw [List.length_map, List.length_eraseIdx_of_lt hi]; omega)]) (fun H5 s6 => ?_)
    refine awp_regs hF ?_
    refine dv (gyes_none rfl) (q_mv (v := .slice (some ⟨b, 0, none⟩) (L.length - 1) L.length) rfl) rfl (by decide) (cok1 trivial) ?_
    refine dv (gyes_none rfl) (q_as (v := .slice (some ⟨b, 0, none⟩) (L.length - 1) L.length) rfl) rfl (by decide) (cok1 trivial) ?_
    refine ⟨_, Wk.refl _ _, ?_⟩
    show awp _ _ _ _ _ _ _
    refine awp_ret_wk ?_
    refine ⟨_, Wk.refl _ _, ?_⟩
    repeat (with_reducible first | refine then_ret ?_ | refine blk_ret ?_ | refine then_exit ?_ | refine blk_exit ?_ | refine blk_exit' (by decide) ?_ | refine blk_normal ?_ | refine then_normal ?_ | refine retq_ret ?_ | refine retq_normal ?_ | refine ng_normal ?_ | refine ng_ret ?_ | refine ng_exit ?_)
    refine ret_is (v := .slice (some ⟨b, 0, none⟩) (L.length - 1) L.length) rfl (.tmp rfl .nil) rfl ?_
    exact ⟨rfl, s6.kp, s6.getj (j := 0) rfl⟩
theorem delete_ok {H0 : AHeap} (L : List Int) (i b : Nat) (hb : H0[b]? = some (.cells true (L.map intv) 1)) (hi : i < L.length) (hL : L.length ≤ 1000000) : ACalls Try.prog 20 [.slice (some ⟨b, 0, none⟩) L.length L.length, .int .i64 ((i : Nat) : Int), .int .i64 ((i + 1 : Nat) : Int)] H0 (fun v H' => v = .slice (some ⟨b, 0, none⟩) (L.eraseIdx i).length (L.eraseIdx i).length ∧ Kp (· = b) H0 H' ∧ H'[b]? = some (.cells true ((L.eraseIdx i).map intv) 1)) := by
  have h1 : (L.eraseIdx i).length = L.length - 1 := List.length_eraseIdx_of_lt hi
  rw [h1]
  exact acalls_cap (delete0_ok L i b hb hi hL) (Nat.le_refl _) (by omega)

end Go.Proofs.YtbjlabokijchpaaA
