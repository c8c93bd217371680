/-
  Walks over abstract states: texts of one claim, merged.
-/
import Derived.Test.YtjgeheookgogaaaM3
import Derived.Test.YtjgeheookgogaaaProg
import Derived.KernelRfl
/-
  Walks of functions of the given program, and what they compute.
-/
namespace Go.Proofs.YtjgeheookgogaaaA
set_option linter.unusedVariables false
open Go Go.RowKit Go.Shelf Go.Proofs
def spi (x : Sp) : List Value := [.int .i64 ((x.1 : Nat) : Int), .int .i64 ((x.2 : Nat) : Int)]
theorem spi_w : Wm spi 2 := fun _ => rfl
theorem spi_sc : ∀ x, ∀ u ∈ spi x, Scalar u = true := fun x u hu => by simp [spi] at hu; rcases hu with rfl | rfl <;> rfl
theorem freshS_of {α : Type} {f : α → List Value} {m : Nat} {l l' : List α} {H0 : AHeap} {Z : Rs} {H : AHeap} {F : List (Nat × AObj)} (h : St H0 none0 Z H F) {j b n : Nat} (hj : F[j]? = some (b, .cells true (fl f l) m)) (hn : l.length = n) (e : l' = l) : FreshS f m l' H0 (.slice (some ⟨b, 0, none⟩) n n) H := by
  subst hn e
  exact ⟨h.kp, b, rfl, h.out hj, h.getj hj⟩
theorem good_y {w : List Bool} {n al hi a : Nat} (h1 : 0 < n) (h2 : 0 < al) (h3 : a % al = 0) (h4 : n ≤ hi - a) (h5 : isV w a (a + n) false = true) : goodV w n al hi a = true := by
  unfold goodV; rw [h5, decide_eq_true ⟨h1, h2, h3, h4⟩]; rfl
theorem good_n {w : List Bool} {n al hi a : Nat} (h : ¬ (0 < n ∧ 0 < al ∧ a % al = 0 ∧ n ≤ hi - a)) : goodV w n al hi a = false := by
  unfold goodV; rw [decide_eq_false h]; rfl
theorem good_m {w : List Bool} {n al hi a : Nat} (h : isV w a (a + n) false = false) : goodV w n al hi a = false := by
  unfold goodV; rw [h, Bool.and_false]
set_option maxRecDepth 100000 in
set_option maxHeartbeats 4000000 in
theorem is_ok {H0 : AHeap} (w : List Bool) (vw : Value) (hw : Sl boolv H0 vw w) (hwl : w.length ≤ 1000000) (lo hi : Nat) (t : Bool) (hh : hi ≤ w.length) (hlo : lo ≤ 1000000) : ACalls Try.prog 19 [vw, .int .i64 ((lo : Nat) : Int), .int .i64 ((hi : Nat) : Int), .bool t] H0 (Rets (.bool (isV w lo hi t)) H0) := by
  have hF : Wd Fence.wide := .inl rfl
  have hM : Try.prog.follows .mixedOrders = true := by kernel_rfl
  have s0 := St.begin H0
  refine acalls_st Try.func19 rfl Try.ntmps19 rfl ?_
  refine awp_seq ?_
  refine awp_regs hF ?_
  refine dv (gyes_none rfl) (q_as (v := .bool false) rfl) rfl (by decide) (cok1 (cconst rfl)) ?_
  refine ⟨_, Wk.refl _ _, ?_⟩
  show awp _ _ _ _ _ _ _
  refine awp_seq ?_
  refine awp_seq ?_
  refine awp_regs hF ?_
  refine dv (gyes_none rfl) (q_mv (v := .int .i64 ((lo : Nat) : Int)) rfl) rfl (by decide) (cok1 trivial) ?_
  refine dv (gyes_none rfl) (q_as (v := .int .i64 ((lo : Nat) : Int)) rfl) rfl (by decide) (cok1 trivial) ?_
  refine ⟨_, Wk.refl _ _, ?_⟩
  show awp _ _ _ _ _ _ _
  refine awp_block ?_
  refine awp_wk (Wk.U [(0, vw), (1, .int .i64 ((lo : Nat) : Int)), (2, .int .i64 ((hi : Nat) : Int)), (3, .bool t), (9, .int .i64 ((lo : Nat) : Int))] ⟨rfl, rfl, rfl, rfl, rfl, trivial⟩) ?_
  refine awp_loop (fun (i : Nat) st => ∃ (H1 : AHeap), st = ⟨22, U [(0, vw), (1, .int .i64 ((lo : Nat) : Int)), (2, .int .i64 ((hi : Nat) : Int)), (3, .bool t), (9, .int .i64 ((i : Nat) : Int))], [], H1⟩ ∧ St H0 (none0) (Rd H0) H1 [] ∧ (lo ≤ i ∧ (i ≤ hi ∨ i = lo) ∧ ∀ j, lo ≤ j → j < i → nth w j = t)) (fun (i : Nat) => hi - i) (x0 := (lo)) ?h0 ?round
  case h0 =>
    exact ⟨_, rfl, s0, ⟨Nat.le_refl _, .inr rfl, fun j h1 h2 => by omega⟩⟩
  case round =>
    rintro i _ ⟨H1, rfl, s2, hv⟩
    refine awp_seq ?_
    refine awp_seq ?_
    refine awp_regs hF ?_
    refine dv (gyes_none rfl) (q_mv (v := .int .i64 ((i : Nat) : Int)) rfl) rfl (by decide) (cok1 trivial) ?_
    refine dv (gyes_none rfl) (q_mv (v := .int .i64 ((hi : Nat) : Int)) rfl) rfl (by decide) (cok1 trivial) ?_
    refine dvb (gyes_none rfl) (q_int rfl rfl rfl) rfl (by decide) (cok2 trivial trivial) (fun c1 => ?_) (fun c1 => ?_)
    ·
      replace c1 := of_decide_eq_true c1
      refine ⟨_, Wk.refl _ _, ?_⟩
      show awp _ _ _ _ _ _ _
      refine awp_cond_t rfl ?_
      refine awp_skip_wk ?_
      refine ⟨_, Wk.refl _ _, ?_⟩
      show awp _ _ _ _ _ _ _
      refine awp_seq ?_
      refine awp_block ?_
      refine awp_seq ?_
      refine awp_regs hF ?_
      refine dv (gyes_none rfl) (q_mv (v := vw) rfl) rfl (by decide) (cok1 trivial) ?_
      refine dv (gyes_none rfl) (q_mv (v := .int .i64 ((i : Nat) : Int)) rfl) rfl (by decide) (cok1 trivial) ?_
      refine dv (gyes_none rfl) (q_index_sl (l := w) (i := i) Try.underlying40 Try.sizeOf4 (s2.sl hw) rfl rfl (by omega)) rfl (by decide) (cok2 trivial trivial) ?_
      refine dv (gyes_none rfl) (q_load_sl (l := w) (i := i) Try.isAgg4 (s2.sl hw) rfl (by omega)) rfl (by decide) (cok1 trivial) ?_
      refine dv (gyes_none rfl) (q_mv (v := .bool t) rfl) rfl (by decide) (cok1 trivial) ?_
      refine dvb (gyes_none rfl) (OpQ.cast (v' := .bool ((nth w i) != t)) (q_boolne Try.underlying4 rfl rfl) rfl) rfl (by decide) (cok2 trivial trivial) (fun c2 => ?_) (fun c2 => ?_)
      ·
        replace c2 := bne_iff_ne.1 c2
        refine ⟨_, Wk.refl _ _, ?_⟩
        show awp _ _ _ _ _ _ _
        refine awp_cond_t rfl ?_
        refine awp_seq ?_
        refine awp_regs hF ?_
        refine dv (gyes_none rfl) (q_as (v := .bool false) rfl) rfl (by decide) (cok1 (cconst rfl)) ?_
        refine ⟨_, Wk.refl _ _, ?_⟩
        show awp _ _ _ _ _ _ _
        refine awp_ret_wk ?_
        refine ⟨_, Wk.refl _ _, ?_⟩
        repeat (with_reducible first | refine then_ret ?_ | refine blk_ret ?_ | refine then_exit ?_ | refine blk_exit ?_ | refine blk_exit' (by decide) ?_ | refine blk_normal ?_ | refine then_normal ?_ | refine retq_ret ?_ | refine retq_normal ?_ | refine ng_normal ?_ | refine ng_ret ?_ | refine ng_exit ?_)
        exact ret_none (v := .bool false) rfl s2.kp (.tmp rfl .nil) rfl rfl ⟨by rw [isV_f (i := i) hv.1 (by omega) (by assumption)], rfl⟩
      ·
        replace c2 := bne_eq_false_iff_eq.1 c2
        refine ⟨_, Wk.refl _ _, ?_⟩
        show awp _ _ _ _ _ _ _
        refine awp_cond_f rfl ?_
        refine awp_skip_wk ?_
        refine ⟨_, Wk.refl _ _, ?_⟩
        show awp _ _ _ _ _ _ _
        refine awp_regs hF ?_
        refine dv (gyes_none rfl) (q_mv (v := .int .i64 ((i : Nat) : Int)) rfl) rfl (by decide) (cok1 trivial) ?_
        refine dv (gyes_none rfl) (OpQ.cast (v' := .int .i64 ((i + 1 : Nat) : Int)) (q_int rfl rfl rfl) (congrArg _ ((i64_in (by omega)).trans (by first | rfl | omega | (push_cast; rfl))))) rfl (by decide) (cok2 trivial (cconst rfl)) ?_
        refine dv (gyes_none rfl) (q_as (v := .int .i64 ((i + 1 : Nat) : Int)) rfl) rfl (by decide) (cok1 trivial) ?_
        refine ⟨_, Wk.U [(0, vw), (1, .int .i64 ((lo : Nat) : Int)), (2, .int .i64 ((hi : Nat) : Int)), (3, .bool t), (9, .int .i64 (((i + 1) : Nat) : Int))] ⟨rfl, rfl, rfl, rfl, rfl, trivial⟩, (i + 1), ⟨_, rfl, s2, ⟨by omega, by omega, fun j h1 h2 => by by_cases e : j = i; (subst e; assumption); exact hv.2.2 j h1 (by omega)⟩⟩, (by omega)⟩
    ·
      replace c1 := of_decide_eq_false c1
      refine ⟨_, Wk.refl _ _, ?_⟩
      show awp _ _ _ _ _ _ _
      refine awp_cond_f rfl ?_
      refine awp_exit_wk ?_
      refine ⟨_, Wk.refl _ _, ?_⟩
      show awp _ _ _ _ _ _ _
      refine awp_seq ?_
      refine awp_regs hF ?_
      refine dv (gyes_none rfl) (q_as (v := .bool true) rfl) rfl (by decide) (cok1 (cconst rfl)) ?_
      refine ⟨_, Wk.refl _ _, ?_⟩
      show awp _ _ _ _ _ _ _
      refine awp_ret_wk ?_
      refine ⟨_, Wk.refl _ _, ?_⟩
      repeat (with_reducible first | refine then_ret ?_ | refine blk_ret ?_ | refine then_exit ?_ | refine blk_exit ?_ | refine blk_exit' (by decide) ?_ | refine blk_normal ?_ | refine then_normal ?_ | refine retq_ret ?_ | refine retq_normal ?_ | refine ng_normal ?_ | refine ng_ret ?_ | refine ng_exit ?_)
      exact ret_none (v := .bool true) rfl s2.kp (.tmp rfl .nil) rfl rfl ⟨by rw [isV_iff.2 fun a h1 h2 => hv.2.2 a h1 (by omega)], rfl⟩
set_option maxRecDepth 100000 in
set_option maxHeartbeats 4000000 in
theorem turn_ok {H0 : AHeap} (w : List Bool) (vw : Value) (hw : Sl boolv H0 vw w) (hwl : w.length ≤ 1000000) (lo hi : Nat) (hh : hi ≤ w.length) (hlo : lo ≤ 1000000) : ACalls Try.prog 22 [vw, .int .i64 ((lo : Nat) : Int), .int .i64 ((hi : Nat) : Int)] H0 (Fresh boolv (turnV w lo hi) H0) := by
  have hF : Wd Fence.wide := .inl rfl
  have hM : Try.prog.follows .mixedOrders = true := by kernel_rfl
  have s0 := St.begin H0
  refine acalls_st Try.func22 rfl Try.ntmps22 rfl ?_
  refine awp_seq ?_
  refine awp_regs hF ?_
  refine dv (gyes_none rfl) (q_as (v := .slice none 0 0) rfl) rfl (by decide) (cok1 (cconst rfl)) ?_
  refine ⟨_, Wk.refl _ _, ?_⟩
  show awp _ _ _ _ _ _ _
  refine awp_seq ?_
  refine awp_regs hF ?_
  refine x_new (fun b => .slice (some ⟨b, 0, none⟩) 0 0) s0 (gyes_none rfl) (q_emptyLit Try.underlying40 Try.sizeOf4) rfl (by decide) (by simp [Op.operands, Call.operands]) (fun b1 H2 hb4 s3 => ?_)
  refine dv (gyes_none rfl) (q_mv (v := vw) rfl) rfl (by decide) (cok1 trivial) ?_
  refine x_new (fun b => .slice (some ⟨b, 0, none⟩) w.length w.length) s3 (gyes_none rfl) (q_append_nullS (l := w) (f := boolv) (m' := w.length) (by simp) Try.underlying40 Try.underlying40 Try.type4 rfl rfl (by decide) rfl rfl rfl (s3.getj (j := 0) rfl) (s3.sl hw) (fun x => lc_scalar rfl) (by show (2 * _ + 1000) * 1 ≤ _; first | omega | (simp only [List.length_append, List.length_cons, List.length_nil, List.length_take, List.length_drop]; omega))) rfl (by decide) (cok2 trivial trivial) (fun b5 H6 hb8 s7 => ?_)
  refine dv (gyes_none rfl) (q_as (v := .slice (some ⟨b5, 0, none⟩) w.length w.length) rfl) rfl (by decide) (cok1 trivial) ?_
  refine ⟨_, Wk.refl _ _, ?_⟩
  show awp _ _ _ _ _ _ _
  refine awp_seq ?_
  refine awp_seq ?_
  rw [← turnV_0 (w := w) (lo := lo)] at s7
  refine awp_regs hF ?_
  refine dv (gyes_none rfl) (q_mv (v := .int .i64 ((lo : Nat) : Int)) rfl) rfl (by decide) (cok1 trivial) ?_
  refine dv (gyes_none rfl) (q_as (v := .int .i64 ((lo : Nat) : Int)) rfl) rfl (by decide) (cok1 trivial) ?_
  refine ⟨_, Wk.refl _ _, ?_⟩
  show awp _ _ _ _ _ _ _
  refine awp_block ?_
  refine awp_wk (Wk.U [(0, vw), (1, .int .i64 ((lo : Nat) : Int)), (2, .int .i64 ((hi : Nat) : Int)), (6, .slice none 0 0), (7, .slice (some ⟨b5, 0, none⟩) w.length w.length), (8, .int .i64 ((lo : Nat) : Int))] ⟨rfl, rfl, rfl, rfl, rfl, rfl, trivial⟩) ?_
  refine awp_loop (fun (i : Nat) st => ∃ (H9 : AHeap) (bo : Nat), st = ⟨27, U [(0, vw), (1, .int .i64 ((lo : Nat) : Int)), (2, .int .i64 ((hi : Nat) : Int)), (6, .slice none 0 0), (7, .slice (some ⟨bo, 0, none⟩) w.length w.length), (8, .int .i64 ((i : Nat) : Int))], [], H9⟩ ∧ St H0 (none0) (Rd H0) H9 [(bo, .cells true ((turnV w lo i).map boolv) 1)] ∧ (lo ≤ i ∧ (i ≤ hi ∨ i = lo)) ∧ ((turnV w lo i).length = w.length)) (fun (i : Nat) => hi - i) (x0 := (lo)) ?h0 ?round
  case h0 =>
    exact ⟨_, _, rfl, (s7.sub (.cons_cons _ (.cons _ (.refl _)))), ⟨Nat.le_refl _, .inr rfl⟩, turnV_len⟩
  case round =>
    rintro i _ ⟨H9, bo, rfl, s10, hv, hl⟩
    refine awp_seq ?_
    refine awp_seq ?_
    refine awp_regs hF ?_
    refine dv (gyes_none rfl) (q_mv (v := .int .i64 ((i : Nat) : Int)) rfl) rfl (by decide) (cok1 trivial) ?_
    refine dv (gyes_none rfl) (q_mv (v := .int .i64 ((hi : Nat) : Int)) rfl) rfl (by decide) (cok1 trivial) ?_
    refine dvb (gyes_none rfl) (q_int rfl rfl rfl) rfl (by decide) (cok2 trivial trivial) (fun c1 => ?_) (fun c1 => ?_)
    ·
      replace c1 := of_decide_eq_true c1
      refine ⟨_, Wk.refl _ _, ?_⟩
      show awp _ _ _ _ _ _ _
      refine awp_cond_t rfl ?_
      refine awp_skip_wk ?_
      refine ⟨_, Wk.refl _ _, ?_⟩
      show awp _ _ _ _ _ _ _
      refine awp_seq ?_
      refine awp_block ?_
      refine awp_regs hF ?_
      refine dv (gyes_none rfl) (q_mv (v := .slice (some ⟨bo, 0, none⟩) w.length w.length) rfl) rfl (by decide) (cok1 trivial) ?_
      refine dv (gyes_none rfl) (q_mv (v := .int .i64 ((i : Nat) : Int)) rfl) rfl (by decide) (cok1 trivial) ?_
      refine dv (gyes_none rfl) (q_mv (v := .slice (some ⟨bo, 0, none⟩) w.length w.length) rfl) rfl (by decide) (cok1 trivial) ?_
      refine dv (gyes_none rfl) (q_mv (v := .int .i64 ((i : Nat) : Int)) rfl) rfl (by decide) (cok1 trivial) ?_
      refine dv (gyes_none rfl) (OpQ.cast (v' := .pointer (some ⟨bo, i, none⟩)) (q_index1 (i := i) Try.underlying40 Try.sizeOf4 rfl rfl (by omega) (s10.rd (j := 0) rfl)) (by rw [Nat.zero_add])) rfl (by decide) (cok2 trivial trivial) ?_
      refine dv (gyes_none rfl) (q_load (v := boolv (nth (turnV w lo i) i)) Try.isAgg4 rfl (s10.rd (j := 0) rfl) (get_nth (w := 0) (by omega))) rfl (by decide) (cok1 trivial) ?_
      refine dv (gyes_none rfl) (q_not (b := (nth (turnV w lo i) i)) rfl) rfl (by decide) (cok1 trivial) ?_
      refine dv (gyes_none rfl) (OpQ.cast (v' := .pointer (some ⟨bo, i, none⟩)) (q_index1 (i := i) Try.underlying40 Try.sizeOf4 rfl rfl (by omega) (s10.rd (j := 0) rfl)) (by rw [Nat.zero_add])) rfl (by decide) (cok2 trivial trivial) ?_
      refine x_store1 [] hF s10 (by kernel_rfl) (gyes_none rfl) (j := 0) (v := boolv (!nth (turnV w lo i) i)) rfl Try.sizeOf4 rfl rfl rfl (lc_scalar rfl) (by rw [List.length_map]; omega) trivial trivial rfl rfl (F' := [(bo, .cells true (((turnV w lo i).set i (!nth (turnV w lo i) i)).map boolv) 1)]) (by simp only [set_map1]; rfl) (fun H11 s12 => ⟨?_, ?_⟩)
      · exact trivial
      refine ⟨_, Wk.refl _ _, ?_⟩
      show awp _ _ _ _ _ _ _
      refine awp_regs hF ?_
      refine dv (gyes_none rfl) (q_mv (v := .int .i64 ((i : Nat) : Int)) rfl) rfl (by decide) (cok1 trivial) ?_
      refine dv (gyes_none rfl) (OpQ.cast (v' := .int .i64 ((i + 1 : Nat) : Int)) (q_int rfl rfl rfl) (congrArg _ ((i64_in (by omega)).trans (by first | rfl | omega | (push_cast; rfl))))) rfl (by decide) (cok2 trivial (cconst rfl)) ?_
      refine dv (gyes_none rfl) (q_as (v := .int .i64 ((i + 1 : Nat) : Int)) rfl) rfl (by decide) (cok1 trivial) ?_
      rw [turnV_s hv.1 (by omega)] at s12
      refine ⟨_, Wk.U [(0, vw), (1, .int .i64 ((lo : Nat) : Int)), (2, .int .i64 ((hi : Nat) : Int)), (6, .slice none 0 0), (7, .slice (some ⟨bo, 0, none⟩) w.length w.length), (8, .int .i64 (((i + 1) : Nat) : Int))] ⟨rfl, rfl, rfl, rfl, rfl, rfl, trivial⟩, (i + 1), ⟨_, _, rfl, s12, ⟨by omega, by omega⟩, turnV_len⟩, (by omega)⟩
    ·
      replace c1 := of_decide_eq_false c1
      refine ⟨_, Wk.refl _ _, ?_⟩
      show awp _ _ _ _ _ _ _
      refine awp_cond_f rfl ?_
      refine awp_exit_wk ?_
      refine ⟨_, Wk.refl _ _, ?_⟩
      show awp _ _ _ _ _ _ _
      refine awp_seq ?_
      refine awp_regs hF ?_
      refine dv (gyes_none rfl) (q_mv (v := .slice (some ⟨bo, 0, none⟩) w.length w.length) rfl) rfl (by decide) (cok1 trivial) ?_
      refine dv (gyes_none rfl) (q_as (v := .slice (some ⟨bo, 0, none⟩) w.length w.length) rfl) rfl (by decide) (cok1 trivial) ?_
      refine ⟨_, Wk.refl _ _, ?_⟩
      show awp _ _ _ _ _ _ _
      refine awp_ret_wk ?_
      refine ⟨_, Wk.refl _ _, ?_⟩
      repeat (with_reducible first | refine then_ret ?_ | refine blk_ret ?_ | refine then_exit ?_ | refine blk_exit ?_ | refine blk_exit' (by decide) ?_ | refine blk_normal ?_ | refine then_normal ?_ | refine retq_ret ?_ | refine retq_normal ?_ | refine ng_normal ?_ | refine ng_ret ?_ | refine ng_exit ?_)
      refine ret_is (v := .slice (some ⟨bo, 0, none⟩) w.length w.length) rfl (.tmp rfl .nil) rfl ?_
      have he : turnV w lo hi = turnV w lo i := (turnV_hi (by omega)).symm
      rw [he]
      exact fresh_of s10 (j := 0) rfl (by rw [hl])
set_option maxRecDepth 100000 in
set_option maxHeartbeats 4000000 in
theorem rfit_ok {H0 : AHeap} (w : List Bool) (vw : Value) (hw : Sl boolv H0 vw w) (hwl : w.length ≤ 1000000) (n al lo hi : Nat) (hh : hi ≤ w.length) (hlo : lo ≤ 1000000) (hn : n ≤ 1000000) (hal : al ≤ 1000000) : ACalls Try.prog 24 [vw, .int .i64 ((n : Nat) : Int), .int .i64 ((al : Nat) : Int), .int .i64 ((lo : Nat) : Int), .int .i64 ((hi : Nat) : Int)] H0 (Rets (.int .i64 (rfitV w n al lo hi)) H0) := by
  have hF : Wd Fence.wide := .inl rfl
  have hM : Try.prog.follows .mixedOrders = true := by kernel_rfl
  have s0 := St.begin H0
  refine acalls_st Try.func24 rfl Try.ntmps24 rfl ?_
  refine awp_seq ?_
  refine awp_regs hF ?_
  refine dv (gyes_none rfl) (q_as (v := .int .i64 0) rfl) rfl (by decide) (cok1 (cconst rfl)) ?_
  refine ⟨_, Wk.refl _ _, ?_⟩
  show awp _ _ _ _ _ _ _
  refine awp_seq ?_
  refine awp_seq ?_
  refine awp_regs hF ?_
  refine dv (gyes_none rfl) (q_mv (v := .int .i64 ((lo : Nat) : Int)) rfl) rfl (by decide) (cok1 trivial) ?_
  refine dv (gyes_none rfl) (q_as (v := .int .i64 ((lo : Nat) : Int)) rfl) rfl (by decide) (cok1 trivial) ?_
  refine ⟨_, Wk.refl _ _, ?_⟩
  show awp _ _ _ _ _ _ _
  refine awp_block ?_
  refine awp_wk (Wk.U [(0, vw), (1, .int .i64 ((n : Nat) : Int)), (2, .int .i64 ((al : Nat) : Int)), (3, .int .i64 ((lo : Nat) : Int)), (4, .int .i64 ((hi : Nat) : Int)), (11, .int .i64 ((lo : Nat) : Int))] ⟨rfl, rfl, rfl, rfl, rfl, rfl, trivial⟩) ?_
  refine awp_loop (fun (a : Nat) st => ∃ (H1 : AHeap), st = ⟨46, U [(0, vw), (1, .int .i64 ((n : Nat) : Int)), (2, .int .i64 ((al : Nat) : Int)), (3, .int .i64 ((lo : Nat) : Int)), (4, .int .i64 ((hi : Nat) : Int)), (11, .int .i64 ((a : Nat) : Int))], [], H1⟩ ∧ St H0 (none0) (Rd H0) H1 [] ∧ (lo ≤ a ∧ ∀ j, lo ≤ j → j < a → goodV w n al hi j = false)) (fun (a : Nat) => hi - a) (x0 := (lo)) ?h0 ?round
  case h0 =>
    exact ⟨_, rfl, s0, ⟨Nat.le_refl _, fun j h1 h2 => by omega⟩⟩
  case round =>
    rintro a _ ⟨H1, rfl, s2, hv⟩
    refine awp_seq ?_
    refine awp_seq ?_
    refine awp_regs hF ?_
    refine dv (gyes_none rfl) (q_mv (v := .int .i64 ((a : Nat) : Int)) rfl) rfl (by decide) (cok1 trivial) ?_
    refine dv (gyes_none rfl) (q_mv (v := .int .i64 ((hi : Nat) : Int)) rfl) rfl (by decide) (cok1 trivial) ?_
    refine dvb (gyes_none rfl) (q_int rfl rfl rfl) rfl (by decide) (cok2 trivial trivial) (fun c1 => ?_) (fun c1 => ?_)
    ·
      replace c1 := of_decide_eq_true c1
      refine dv (gyes_none rfl) (q_mv (v := .bool true) rfl) rfl (by decide) (cok1 trivial) ?_
      refine dv (gyes_some rfl rfl) (q_mv (v := .int .i64 ((n : Nat) : Int)) rfl) rfl (by decide) (cok1 trivial) ?_
      refine dvb (gyes_some rfl rfl) (q_int rfl rfl rfl) rfl (by decide) (cok2 trivial (cconst rfl)) (fun c2 => ?_) (fun c2 => ?_)
      ·
        replace c2 := of_decide_eq_true c2
        refine dv (gyes_none rfl) (q_pt (v := .bool true) rfl rfl) rfl (by decide) (call_ok rfl) ?_
        refine dv (gyes_none rfl) (q_mv (v := .bool true) rfl) rfl (by decide) (cok1 trivial) ?_
        refine dv (gyes_some rfl rfl) (q_mv (v := .int .i64 ((al : Nat) : Int)) rfl) rfl (by decide) (cok1 trivial) ?_
        refine dvb (gyes_some rfl rfl) (q_int rfl rfl rfl) rfl (by decide) (cok2 trivial (cconst rfl)) (fun c3 => ?_) (fun c3 => ?_)
        ·
          replace c3 := of_decide_eq_true c3
          refine dv (gyes_none rfl) (q_pt (v := .bool true) rfl rfl) rfl (by decide) (call_ok rfl) ?_
          refine ⟨_, Wk.refl _ _, ?_⟩
          show awp _ _ _ _ _ _ _
          refine awp_cond_t rfl ?_
          refine awp_skip_wk ?_
          refine ⟨_, Wk.refl _ _, ?_⟩
          show awp _ _ _ _ _ _ _
          refine awp_seq ?_
          refine awp_block ?_
          refine awp_seq ?_
          refine awp_regs hF ?_
          refine dv (gyes_none rfl) (q_mv (v := .int .i64 ((a : Nat) : Int)) rfl) rfl (by decide) (cok1 trivial) ?_
          refine dv (gyes_none rfl) (q_mv (v := .int .i64 ((al : Nat) : Int)) rfl) rfl (by decide) (cok1 trivial) ?_
          refine dv (gyes_none rfl) (q_remM (a := a) (b := al) rfl rfl (by first | decide | omega)) rfl (by decide) (cok2 trivial trivial) ?_
          refine dvb (gyes_none rfl) (q_int rfl rfl rfl) rfl (by decide) (cok2 trivial (cconst rfl)) (fun c4 => ?_) (fun c4 => ?_)
          ·
            replace c4 := eq_of_beq c4
            refine dv (gyes_none rfl) (q_mv (v := .bool true) rfl) rfl (by decide) (cok1 trivial) ?_
            refine dv (gyes_some rfl rfl) (q_mv (v := .int .i64 ((n : Nat) : Int)) rfl) rfl (by decide) (cok1 trivial) ?_
            refine dv (gyes_some rfl rfl) (q_mv (v := .int .i64 ((hi : Nat) : Int)) rfl) rfl (by decide) (cok1 trivial) ?_
            refine dv (gyes_some rfl rfl) (q_mv (v := .int .i64 ((a : Nat) : Int)) rfl) rfl (by decide) (cok1 trivial) ?_
            refine dv (gyes_some rfl rfl) (OpQ.cast (v' := .int .i64 ((hi - a : Nat) : Int)) (q_int rfl rfl rfl) (congrArg _ ((i64_in (by omega)).trans (by omega)))) rfl (by decide) (cok2 trivial trivial) ?_
            refine dvb (gyes_some rfl rfl) (q_int rfl rfl rfl) rfl (by decide) (cok2 trivial trivial) (fun c5 => ?_) (fun c5 => ?_)
            ·
              replace c5 := of_decide_eq_true c5
              refine dv (gyes_none rfl) (q_pt (v := .bool true) rfl rfl) rfl (by decide) (call_ok rfl) ?_
              refine dv (gyes_none rfl) (q_mv (v := .bool true) rfl) rfl (by decide) (cok1 trivial) ?_
              refine dv (gyes_some rfl rfl) (q_mv (v := vw) rfl) rfl (by decide) (cok1 trivial) ?_
              refine dv (gyes_some rfl rfl) (q_mv (v := .int .i64 ((a : Nat) : Int)) rfl) rfl (by decide) (cok1 trivial) ?_
              refine dv (gyes_some rfl rfl) (q_mv (v := .int .i64 ((a : Nat) : Int)) rfl) rfl (by decide) (cok1 trivial) ?_
              refine dv (gyes_some rfl rfl) (q_mv (v := .int .i64 ((n : Nat) : Int)) rfl) rfl (by decide) (cok1 trivial) ?_
              refine dv (gyes_some rfl rfl) (OpQ.cast (v' := .int .i64 ((a + n : Nat) : Int)) (q_int rfl rfl rfl) (congrArg _ ((i64_in (by omega)).trans (by first | rfl | omega | (push_cast; rfl))))) rfl (by decide) (cok2 trivial trivial) ?_
              refine dvb (gyes_some rfl rfl) (q_call0 Try.call19 rfl (is_ok w vw (s2.sl hw) hwl a (a + n) false (by omega) (by omega))) rfl (by decide) (call_ok rfl) (fun c6 => ?_) (fun c6 => ?_)
              ·
                refine dv (gyes_none rfl) (q_pt (v := .bool true) rfl rfl) rfl (by decide) (call_ok rfl) ?_
                refine ⟨_, Wk.refl _ _, ?_⟩
                show awp _ _ _ _ _ _ _
                refine awp_cond_t rfl ?_
                refine awp_seq ?_
                refine awp_regs hF ?_
                refine dv (gyes_none rfl) (q_mv (v := .int .i64 ((a : Nat) : Int)) rfl) rfl (by decide) (cok1 trivial) ?_
                refine dv (gyes_none rfl) (q_as (v := .int .i64 ((a : Nat) : Int)) rfl) rfl (by decide) (cok1 trivial) ?_
                refine ⟨_, Wk.refl _ _, ?_⟩
                show awp _ _ _ _ _ _ _
                refine awp_ret_wk ?_
                refine ⟨_, Wk.refl _ _, ?_⟩
                repeat (with_reducible first | refine then_ret ?_ | refine blk_ret ?_ | refine then_exit ?_ | refine blk_exit ?_ | refine blk_exit' (by decide) ?_ | refine blk_normal ?_ | refine then_normal ?_ | refine retq_ret ?_ | refine retq_normal ?_ | refine ng_normal ?_ | refine ng_ret ?_ | refine ng_exit ?_)
                exact ret_none (v := .int .i64 ((a : Nat) : Int)) rfl s2.kp (.tmp rfl .nil) rfl rfl ⟨by rw [rfit_yes hv.1 (by omega) (good_y (by omega) (by omega) (by omega) (by omega) (by assumption)) hv.2], rfl⟩
              ·
                refine dv (gyes_none rfl) (q_pt (v := .bool false) rfl rfl) rfl (by decide) (call_ok rfl) ?_
                refine ⟨_, Wk.refl _ _, ?_⟩
                show awp _ _ _ _ _ _ _
                refine awp_cond_f rfl ?_
                refine awp_skip_wk ?_
                refine ⟨_, Wk.refl _ _, ?_⟩
                show awp _ _ _ _ _ _ _
                refine awp_regs hF ?_
                refine dv (gyes_none rfl) (q_mv (v := .int .i64 ((a : Nat) : Int)) rfl) rfl (by decide) (cok1 trivial) ?_
                refine dv (gyes_none rfl) (OpQ.cast (v' := .int .i64 ((a + 1 : Nat) : Int)) (q_int rfl rfl rfl) (congrArg _ ((i64_in (by omega)).trans (by first | rfl | omega | (push_cast; rfl))))) rfl (by decide) (cok2 trivial (cconst rfl)) ?_
                refine dv (gyes_none rfl) (q_as (v := .int .i64 ((a + 1 : Nat) : Int)) rfl) rfl (by decide) (cok1 trivial) ?_
                refine ⟨_, Wk.U [(0, vw), (1, .int .i64 ((n : Nat) : Int)), (2, .int .i64 ((al : Nat) : Int)), (3, .int .i64 ((lo : Nat) : Int)), (4, .int .i64 ((hi : Nat) : Int)), (11, .int .i64 (((a + 1) : Nat) : Int))] ⟨rfl, rfl, rfl, rfl, rfl, rfl, trivial⟩, (a + 1), ⟨_, rfl, s2, ⟨by omega, fun j h1 h2 => by by_cases e : j = a; (subst e; first | exact good_m (by assumption) | exact good_n (by omega)); exact hv.2 j h1 (by omega)⟩⟩, (by omega)⟩
            ·
              replace c5 := of_decide_eq_false c5
              refine dv (gyes_none rfl) (q_pt (v := .bool false) rfl rfl) rfl (by decide) (call_ok rfl) ?_
              refine dv (gyes_none rfl) (q_mv (v := .bool false) rfl) rfl (by decide) (cok1 trivial) ?_
              refine dno rfl (.inl rfl) rfl (by decide) ?_
              refine dno rfl (.inl rfl) rfl (by decide) ?_
              refine dno rfl (.inl rfl) rfl (by decide) ?_
              refine dno rfl (.inl rfl) rfl (by decide) ?_
              refine dno rfl (.inl rfl) rfl (by decide) ?_
              refine dno rfl (.inl rfl) rfl (by decide) ?_
              refine dv (gyes_none rfl) (q_pf (v := .bool false) rfl rfl) rfl (by decide) (call_ok rfl) ?_
              refine ⟨_, Wk.refl _ _, ?_⟩
              show awp _ _ _ _ _ _ _
              refine awp_cond_f rfl ?_
              refine awp_skip_wk ?_
              refine ⟨_, Wk.refl _ _, ?_⟩
              show awp _ _ _ _ _ _ _
              refine awp_regs hF ?_
              refine dv (gyes_none rfl) (q_mv (v := .int .i64 ((a : Nat) : Int)) rfl) rfl (by decide) (cok1 trivial) ?_
              refine dv (gyes_none rfl) (OpQ.cast (v' := .int .i64 ((a + 1 : Nat) : Int)) (q_int rfl rfl rfl) (congrArg _ ((i64_in (by omega)).trans (by first | rfl | omega | (push_cast; rfl))))) rfl (by decide) (cok2 trivial (cconst rfl)) ?_
              refine dv (gyes_none rfl) (q_as (v := .int .i64 ((a + 1 : Nat) : Int)) rfl) rfl (by decide) (cok1 trivial) ?_
              refine ⟨_, Wk.U [(0, vw), (1, .int .i64 ((n : Nat) : Int)), (2, .int .i64 ((al : Nat) : Int)), (3, .int .i64 ((lo : Nat) : Int)), (4, .int .i64 ((hi : Nat) : Int)), (11, .int .i64 (((a + 1) : Nat) : Int))] ⟨rfl, rfl, rfl, rfl, rfl, rfl, trivial⟩, (a + 1), ⟨_, rfl, s2, ⟨by omega, fun j h1 h2 => by by_cases e : j = a; (subst e; first | exact good_m (by assumption) | exact good_n (by omega)); exact hv.2 j h1 (by omega)⟩⟩, (by omega)⟩
          ·
            replace c4 := ne_of_beq_false c4
            refine dv (gyes_none rfl) (q_mv (v := .bool false) rfl) rfl (by decide) (cok1 trivial) ?_
            refine dno rfl (.inl rfl) rfl (by decide) ?_
            refine dno rfl (.inl rfl) rfl (by decide) ?_
            refine dno rfl (.inl rfl) rfl (by decide) ?_
            refine dno rfl (.inl rfl) rfl (by decide) ?_
            refine dno rfl (.inl rfl) rfl (by decide) ?_
            refine dv (gyes_none rfl) (q_pf (v := .bool false) rfl rfl) rfl (by decide) (call_ok rfl) ?_
            refine dv (gyes_none rfl) (q_mv (v := .bool false) rfl) rfl (by decide) (cok1 trivial) ?_
            refine dno rfl (.inl rfl) rfl (by decide) ?_
            refine dno rfl (.inl rfl) rfl (by decide) ?_
            refine dno rfl (.inl rfl) rfl (by decide) ?_
            refine dno rfl (.inl rfl) rfl (by decide) ?_
            refine dno rfl (.inl rfl) rfl (by decide) ?_
            refine dno rfl (.inl rfl) rfl (by decide) ?_
            refine dv (gyes_none rfl) (q_pf (v := .bool false) rfl rfl) rfl (by decide) (call_ok rfl) ?_
            refine ⟨_, Wk.refl _ _, ?_⟩
            show awp _ _ _ _ _ _ _
            refine awp_cond_f rfl ?_
            refine awp_skip_wk ?_
            refine ⟨_, Wk.refl _ _, ?_⟩
            show awp _ _ _ _ _ _ _
            refine awp_regs hF ?_
            refine dv (gyes_none rfl) (q_mv (v := .int .i64 ((a : Nat) : Int)) rfl) rfl (by decide) (cok1 trivial) ?_
            refine dv (gyes_none rfl) (OpQ.cast (v' := .int .i64 ((a + 1 : Nat) : Int)) (q_int rfl rfl rfl) (congrArg _ ((i64_in (by omega)).trans (by first | rfl | omega | (push_cast; rfl))))) rfl (by decide) (cok2 trivial (cconst rfl)) ?_
            refine dv (gyes_none rfl) (q_as (v := .int .i64 ((a + 1 : Nat) : Int)) rfl) rfl (by decide) (cok1 trivial) ?_
            refine ⟨_, Wk.U [(0, vw), (1, .int .i64 ((n : Nat) : Int)), (2, .int .i64 ((al : Nat) : Int)), (3, .int .i64 ((lo : Nat) : Int)), (4, .int .i64 ((hi : Nat) : Int)), (11, .int .i64 (((a + 1) : Nat) : Int))] ⟨rfl, rfl, rfl, rfl, rfl, rfl, trivial⟩, (a + 1), ⟨_, rfl, s2, ⟨by omega, fun j h1 h2 => by by_cases e : j = a; (subst e; first | exact good_m (by assumption) | exact good_n (by omega)); exact hv.2 j h1 (by omega)⟩⟩, (by omega)⟩
        ·
          replace c3 := of_decide_eq_false c3
          refine dv (gyes_none rfl) (q_pt (v := .bool false) rfl rfl) rfl (by decide) (call_ok rfl) ?_
          refine ⟨_, Wk.refl _ _, ?_⟩
          show awp _ _ _ _ _ _ _
          refine awp_cond_f rfl ?_
          refine awp_exit_wk ?_
          refine ⟨_, Wk.refl _ _, ?_⟩
          show awp _ _ _ _ _ _ _
          refine awp_seq ?_
          refine awp_regs hF ?_
          refine dv (gyes_none rfl) (q_as (v := .int .i64 (-1)) rfl) rfl (by decide) (cok1 (cconst rfl)) ?_
          refine ⟨_, Wk.refl _ _, ?_⟩
          show awp _ _ _ _ _ _ _
          refine awp_ret_wk ?_
          refine ⟨_, Wk.refl _ _, ?_⟩
          repeat (with_reducible first | refine then_ret ?_ | refine blk_ret ?_ | refine then_exit ?_ | refine blk_exit ?_ | refine blk_exit' (by decide) ?_ | refine blk_normal ?_ | refine then_normal ?_ | refine retq_ret ?_ | refine retq_normal ?_ | refine ng_normal ?_ | refine ng_ret ?_ | refine ng_exit ?_)
          exact ret_none (v := .int .i64 (-1)) rfl s2.kp (.tmp rfl .nil) rfl rfl ⟨by rw [rfit_no fun j h1 h2 => by rcases Nat.lt_or_ge j a with q | q; exact hv.2 j h1 q; exact good_n (by omega)], rfl⟩
      ·
        replace c2 := of_decide_eq_false c2
        refine dv (gyes_none rfl) (q_pt (v := .bool false) rfl rfl) rfl (by decide) (call_ok rfl) ?_
        refine dv (gyes_none rfl) (q_mv (v := .bool false) rfl) rfl (by decide) (cok1 trivial) ?_
        refine dno rfl (.inl rfl) rfl (by decide) ?_
        refine dno rfl (.inl rfl) rfl (by decide) ?_
        refine dv (gyes_none rfl) (q_pf (v := .bool false) rfl rfl) rfl (by decide) (call_ok rfl) ?_
        refine ⟨_, Wk.refl _ _, ?_⟩
        show awp _ _ _ _ _ _ _
        refine awp_cond_f rfl ?_
        refine awp_exit_wk ?_
        refine ⟨_, Wk.refl _ _, ?_⟩
        show awp _ _ _ _ _ _ _
        refine awp_seq ?_
        refine awp_regs hF ?_
        refine dv (gyes_none rfl) (q_as (v := .int .i64 (-1)) rfl) rfl (by decide) (cok1 (cconst rfl)) ?_
        refine ⟨_, Wk.refl _ _, ?_⟩
        show awp _ _ _ _ _ _ _
        refine awp_ret_wk ?_
        refine ⟨_, Wk.refl _ _, ?_⟩
        repeat (with_reducible first | refine then_ret ?_ | refine blk_ret ?_ | refine then_exit ?_ | refine blk_exit ?_ | refine blk_exit' (by decide) ?_ | refine blk_normal ?_ | refine then_normal ?_ | refine retq_ret ?_ | refine retq_normal ?_ | refine ng_normal ?_ | refine ng_ret ?_ | refine ng_exit ?_)
        exact ret_none (v := .int .i64 (-1)) rfl s2.kp (.tmp rfl .nil) rfl rfl ⟨by rw [rfit_no fun j h1 h2 => by rcases Nat.lt_or_ge j a with q | q; exact hv.2 j h1 q; exact good_n (by omega)], rfl⟩
    ·
      replace c1 := of_decide_eq_false c1
      refine dv (gyes_none rfl) (q_mv (v := .bool false) rfl) rfl (by decide) (cok1 trivial) ?_
      refine dno rfl (.inl rfl) rfl (by decide) ?_
      refine dno rfl (.inl rfl) rfl (by decide) ?_
      refine dv (gyes_none rfl) (q_pf (v := .bool false) rfl rfl) rfl (by decide) (call_ok rfl) ?_
      refine dv (gyes_none rfl) (q_mv (v := .bool false) rfl) rfl (by decide) (cok1 trivial) ?_
      refine dno rfl (.inl rfl) rfl (by decide) ?_
      refine dno rfl (.inl rfl) rfl (by decide) ?_
      refine dv (gyes_none rfl) (q_pf (v := .bool false) rfl rfl) rfl (by decide) (call_ok rfl) ?_
      refine ⟨_, Wk.refl _ _, ?_⟩
      show awp _ _ _ _ _ _ _
      refine awp_cond_f rfl ?_
      refine awp_exit_wk ?_
      refine ⟨_, Wk.refl _ _, ?_⟩
      show awp _ _ _ _ _ _ _
      refine awp_seq ?_
      refine awp_regs hF ?_
      refine dv (gyes_none rfl) (q_as (v := .int .i64 (-1)) rfl) rfl (by decide) (cok1 (cconst rfl)) ?_
      refine ⟨_, Wk.refl _ _, ?_⟩
      show awp _ _ _ _ _ _ _
      refine awp_ret_wk ?_
      refine ⟨_, Wk.refl _ _, ?_⟩
      repeat (with_reducible first | refine then_ret ?_ | refine blk_ret ?_ | refine then_exit ?_ | refine blk_exit ?_ | refine blk_exit' (by decide) ?_ | refine blk_normal ?_ | refine then_normal ?_ | refine retq_ret ?_ | refine retq_normal ?_ | refine ng_normal ?_ | refine ng_ret ?_ | refine ng_exit ?_)
      exact ret_none (v := .int .i64 (-1)) rfl s2.kp (.tmp rfl .nil) rfl rfl ⟨by rw [rfit_no fun j h1 h2 => by rcases Nat.lt_or_ge j a with q | q; exact hv.2 j h1 q; exact good_n (by omega)], rfl⟩
set_option maxRecDepth 100000 in
set_option maxHeartbeats 4000000 in
theorem spans_ok {H0 : AHeap} (w : List Bool) (vw : Value) (hw : Sl boolv H0 vw w) (hwl : w.length ≤ 1000000) : ACalls Try.prog 32 [vw] H0 (FreshS spi 2 (spansV w) H0) := by
  have hF : Wd Fence.wide := .inl rfl
  have hM : Try.prog.follows .mixedOrders = true := by kernel_rfl
  have s0 := St.begin H0
  refine acalls_st Try.func32 rfl Try.ntmps32 rfl ?_
  refine awp_seq ?_
  refine awp_regs hF ?_
  refine dv (gyes_none rfl) (q_as (v := .slice none 0 0) rfl) rfl (by decide) (cok1 (cconst rfl)) ?_
  refine ⟨_, Wk.refl _ _, ?_⟩
  show awp _ _ _ _ _ _ _
  refine awp_seq ?_
  refine awp_regs hF ?_
  refine dv (gyes_none rfl) (q_as (v := .slice none 0 0) rfl) rfl (by decide) (cok1 (cconst rfl)) ?_
  refine ⟨_, Wk.refl _ _, ?_⟩
  show awp _ _ _ _ _ _ _
  refine awp_seq ?_
  refine awp_seq ?_
  refine awp_regs hF ?_
  refine dv (gyes_none rfl) (q_as (v := .int .i64 0) rfl) rfl (by decide) (cok1 (cconst rfl)) ?_
  refine ⟨_, Wk.refl _ _, ?_⟩
  show awp _ _ _ _ _ _ _
  refine awp_block ?_
  refine awp_nil s0 3 2 rfl (fun b1 H2 hb4 s3 => ?_)
  refine awp_wk (Wk.U [(0, vw), (2, .slice none 0 0), (3, .slice (some ⟨b1, 0, none⟩) 0 0), (4, .int .i64 0)] ⟨rfl, rfl, rfl, rfl, trivial⟩) ?_
  refine awp_loop (fun ((i, m, o) : Nat × Nat × (List Sp)) st => ∃ (H5 : AHeap) (bo : Nat), st = ⟨41, U [(0, vw), (2, .slice none 0 0), (3, .slice (some ⟨bo, 0, none⟩) m m), (4, .int .i64 ((i : Nat) : Int))], [], H5⟩ ∧ St H0 (none0) (Rd H0) H5 [(bo, .cells true (fl spi o) 2)] ∧ (o = spansK w i ∧ m = o.length ∧ m ≤ i ∧ i ≤ w.length)) (fun ((i, m, o) : Nat × Nat × (List Sp)) => w.length - i) (x0 := (0, 0, ([] : List Sp))) ?h0 ?round
  case h0 =>
    exact ⟨_, _, rfl, s3, ⟨rfl, rfl, Nat.le_refl _, Nat.zero_le _⟩⟩
  case round =>
    rintro ⟨i, m, o⟩ _ ⟨H5, bo, rfl, s6, ho⟩
    dsimp only at *
    refine awp_seq ?_
    refine awp_seq ?_
    refine awp_regs hF ?_
    refine dv (gyes_none rfl) (q_mv (v := .int .i64 ((i : Nat) : Int)) rfl) rfl (by decide) (cok1 trivial) ?_
    refine dv (gyes_none rfl) (q_mv (v := vw) rfl) rfl (by decide) (cok1 trivial) ?_
    refine dv (gyes_none rfl) (q_len_sl (l := w) Try.underlying40 (s6.sl hw) rfl) rfl (by decide) (cok1 trivial) ?_
    refine dvb (gyes_none rfl) (q_int rfl rfl rfl) rfl (by decide) (cok2 trivial trivial) (fun c1 => ?_) (fun c1 => ?_)
    ·
      replace c1 := of_decide_eq_true c1
      refine ⟨_, Wk.refl _ _, ?_⟩
      show awp _ _ _ _ _ _ _
      refine awp_cond_t rfl ?_
      refine awp_skip_wk ?_
      refine ⟨_, Wk.refl _ _, ?_⟩
      show awp _ _ _ _ _ _ _
      refine awp_seq ?_
      refine awp_block ?_
      refine awp_seq ?_
      refine awp_seq ?_
      refine awp_regs hF ?_
      refine dv (gyes_none rfl) (q_mv (v := vw) rfl) rfl (by decide) (cok1 trivial) ?_
      refine dv (gyes_none rfl) (q_mv (v := .int .i64 ((i : Nat) : Int)) rfl) rfl (by decide) (cok1 trivial) ?_
      refine dv (gyes_none rfl) (q_index_sl (l := w) (i := i) Try.underlying40 Try.sizeOf4 (s6.sl hw) rfl rfl (by omega)) rfl (by decide) (cok2 trivial trivial) ?_
      refine dvb (gyes_none rfl) (q_load_sl (l := w) (i := i) Try.isAgg4 (s6.sl hw) rfl (by omega)) rfl (by decide) (cok1 trivial) (fun c2 => ?_) (fun c2 => ?_)
      ·
        refine dv (gyes_none rfl) (q_not (b := true) rfl) rfl (by decide) (cok1 trivial) ?_
        refine ⟨_, Wk.refl _ _, ?_⟩
        show awp _ _ _ _ _ _ _
        refine awp_cond_f rfl ?_
        refine awp_skip_wk ?_
        refine ⟨_, Wk.refl _ _, ?_⟩
        show awp _ _ _ _ _ _ _
        refine awp_seq ?_
        refine awp_regs hF ?_
        refine dv (gyes_none rfl) (q_mv (v := .int .i64 ((i : Nat) : Int)) rfl) rfl (by decide) (cok1 trivial) ?_
        refine dvb (gyes_none rfl) (q_int rfl rfl rfl) rfl (by decide) (cok2 trivial (cconst rfl)) (fun c3 => ?_) (fun c3 => ?_)
        ·
          replace c3 := of_decide_eq_true c3
          refine dv (gyes_none rfl) (q_mv (v := .bool true) rfl) rfl (by decide) (cok1 trivial) ?_
          refine dv (gyes_some rfl rfl) (q_mv (v := vw) rfl) rfl (by decide) (cok1 trivial) ?_
          refine dv (gyes_some rfl rfl) (q_mv (v := .int .i64 ((i : Nat) : Int)) rfl) rfl (by decide) (cok1 trivial) ?_
          refine dv (gyes_some rfl rfl) (OpQ.cast (v' := .int .i64 ((i - 1 : Nat) : Int)) (q_int rfl rfl rfl) (congrArg _ ((i64_in (by omega)).trans (by omega)))) rfl (by decide) (cok2 trivial (cconst rfl)) ?_
          refine dv (gyes_some rfl rfl) (q_index_sl (l := w) (i := (i - 1)) Try.underlying40 Try.sizeOf4 (s6.sl hw) rfl rfl (by omega)) rfl (by decide) (cok2 trivial trivial) ?_
          refine dvb (gyes_some rfl rfl) (q_load_sl (l := w) (i := (i - 1)) Try.isAgg4 (s6.sl hw) rfl (by omega)) rfl (by decide) (cok1 trivial) (fun c4 => ?_) (fun c4 => ?_)
          ·
            refine dv (gyes_none rfl) (q_pt (v := .bool true) rfl rfl) rfl (by decide) (call_ok rfl) ?_
            refine ⟨_, Wk.refl _ _, ?_⟩
            show awp _ _ _ _ _ _ _
            refine awp_cond_t rfl ?_
            have hmp : 0 < m := by have q := spansK_pos (w := w) (k := i) (by omega) (by assumption); rw [← ho.1, ← ho.2.1] at q; exact q
            refine awp_regs hF ?_
            refine dv (gyes_none rfl) (q_mv (v := .slice (some ⟨bo, 0, none⟩) m m) rfl) rfl (by decide) (cok1 trivial) ?_
            refine dv (gyes_none rfl) (q_mv (v := .slice (some ⟨bo, 0, none⟩) m m) rfl) rfl (by decide) (cok1 trivial) ?_
            refine dv (gyes_none rfl) (q_len_slice Try.underlying56 rfl (s6.rd (j := 0) rfl)) rfl (by decide) (cok1 trivial) ?_
            refine dv (gyes_none rfl) (OpQ.cast (v' := .int .i64 ((m - 1 : Nat) : Int)) (q_int rfl rfl rfl) (congrArg _ ((i64_in (by omega)).trans (by omega)))) rfl (by decide) (cok2 trivial (cconst rfl)) ?_
            refine dv (gyes_none rfl) (q_mv (v := .int .i64 ((i : Nat) : Int)) rfl) rfl (by decide) (cok1 trivial) ?_
            refine dv (gyes_none rfl) (OpQ.cast (v' := .int .i64 ((i + 1 : Nat) : Int)) (q_int rfl rfl rfl) (congrArg _ ((i64_in (by omega)).trans (by first | rfl | omega | (push_cast; rfl))))) rfl (by decide) (cok2 trivial (cconst rfl)) ?_
            refine dv (gyes_none rfl) (OpQ.cast (v' := .pointer (some ⟨bo, (m - 1) * 2, none⟩)) (q_index (u := 0) (i := (m - 1)) Try.underlying56 Try.sizeOf58 rfl rfl (by omega) (s6.rd (j := 0) rfl)) (by rw [Nat.zero_add])) rfl (by decide) (cok2 trivial trivial) ?_
            refine dv (gyes_none rfl) (OpQ.cast (v' := .pointer (some ⟨bo, (m - 1) * 2 + 1, none⟩)) (q_indexArr (i := 1) Try.underlying58 Try.sizeOf3 rfl rfl (by decide) (s6.rd (j := 0) rfl)) rfl) rfl (by decide) (cok2 trivial (cconst rfl)) ?_
            refine x_store1 [] hF s6 (by kernel_rfl) (gyes_none rfl) (j := 0) (v := .int .i64 ((i + 1 : Nat) : Int)) rfl Try.sizeOf3 rfl rfl rfl (lc_scalar rfl) (fl_lt spi_w (by omega) (by decide)) trivial trivial rfl rfl (F' := [(bo, .cells true (fl spi (o.set (m - 1) ((nth o (m - 1)).1, i + 1))) 2)]) (by rw [fl_set1 spi_w (by omega) (y := ((nth o (m - 1)).1, i + 1)) (by decide) rfl]; rfl) (fun H7 s8 => ⟨?_, ?_⟩)
            · exact trivial
            refine ⟨_, Wk.refl _ _, ?_⟩
            show awp _ _ _ _ _ _ _
            refine awp_regs hF ?_
            refine dv (gyes_none rfl) (q_mv (v := .int .i64 ((i : Nat) : Int)) rfl) rfl (by decide) (cok1 trivial) ?_
            refine dv (gyes_none rfl) (OpQ.cast (v' := .int .i64 ((i + 1 : Nat) : Int)) (q_int rfl rfl rfl) (congrArg _ ((i64_in (by omega)).trans (by first | rfl | omega | (push_cast; rfl))))) rfl (by decide) (cok2 trivial (cconst rfl)) ?_
            refine dv (gyes_none rfl) (q_as (v := .int .i64 ((i + 1 : Nat) : Int)) rfl) rfl (by decide) (cok1 trivial) ?_
            refine ⟨_, Wk.U [(0, vw), (2, .slice none 0 0), (3, .slice (some ⟨bo, 0, none⟩) m m), (4, .int .i64 (((i + 1) : Nat) : Int))] ⟨rfl, rfl, rfl, rfl, trivial⟩, ((i + 1), m, (o.set (m - 1) ((nth o (m - 1)).1, i + 1))), ⟨_, _, rfl, s8, ⟨by rw [spansK_y (by assumption) (by omega) (by assumption), ← ho.1, ← ho.2.1], by dsimp only; rw [List.length_set]; exact ho.2.1, by dsimp only; omega, by dsimp only; omega⟩⟩, (by omega)⟩
          ·
            refine dv (gyes_none rfl) (q_pt (v := .bool false) rfl rfl) rfl (by decide) (call_ok rfl) ?_
            refine ⟨_, Wk.refl _ _, ?_⟩
            show awp _ _ _ _ _ _ _
            refine awp_cond_f rfl ?_
            refine awp_regs hF ?_
            refine dv (gyes_none rfl) (q_mv (v := .slice (some ⟨bo, 0, none⟩) m m) rfl) rfl (by decide) (cok1 trivial) ?_
            refine dv (gyes_none rfl) (q_mv (v := .int .i64 ((i : Nat) : Int)) rfl) rfl (by decide) (cok1 trivial) ?_
            refine dv (gyes_none rfl) (q_mv (v := .int .i64 ((i : Nat) : Int)) rfl) rfl (by decide) (cok1 trivial) ?_
            refine dv (gyes_none rfl) (OpQ.cast (v' := .int .i64 ((i + 1 : Nat) : Int)) (q_int rfl rfl rfl) (congrArg _ ((i64_in (by omega)).trans (by first | rfl | omega | (push_cast; rfl))))) rfl (by decide) (cok2 trivial (cconst rfl)) ?_
            refine dv (gyes_none rfl) (q_buildArrL (ds := [.int .i64 ((i : Nat) : Int), .int .i64 ((i + 1 : Nat) : Int)]) [.int .i64 ((i : Nat) : Int), .int .i64 ((i + 1 : Nat) : Int)] Try.underlying58 Try.sizeOf3 Try.zeroValue58 (by first | exact flat_agg rfl | exact flat_scalar rfl) ⟨rfl, rfl, trivial⟩ (lvsC (by exact trivial) (lvsC (by exact trivial) lvs0)) rfl) rfl (by decide) (cok2 trivial trivial) ?_
            refine x_new (fun b => .slice (some ⟨b, 0, none⟩) 1 1) s6 (gyes_none rfl) (q_buildSliceL (ds := [.int .i64 ((i : Nat) : Int), .int .i64 ((i + 1 : Nat) : Int)]) [.agg #[.int .i64 ((i : Nat) : Int), .int .i64 ((i + 1 : Nat) : Int)]] rfl Try.underlying56 Try.sizeOf58 Try.zeroValue58 rfl (by decide) (by decide) ⟨rfl, trivial⟩ (lvsC (by exact trivial) lvs0) rfl rfl) rfl (by decide) (cok1 trivial) (fun b9 H10 hb12 s11 => ?_)
            refine x_appendS (m := 2) (l := [(i, i + 1)]) (l0 := o) (l' := o ++ [(i, i + 1)]) (f := spi) [] hF s11 (by kernel_rfl) (j := 1) (m + 1) rfl (gyes_none rfl) Try.underlying56 Try.underlying56 Try.type58 rfl rfl (by decide) rfl spi_w rfl rfl rfl (s11.slsj (l := [(i, i + 1)]) spi_w (j := 0) rfl rfl (Nat.le_refl _)) (fun x _ u hu => lc_scalar (spi_sc x u hu)) ho.2.1 (by show (2 * (m + 1) + 1000) * 16 ≤ _; omega) trivial trivial (by decide) rfl rfl rfl (fun b13 H14 hb16 s15 => ⟨?_, ?_⟩)
            · exact trivial
            refine dv (gyes_none rfl) (q_as (v := .slice (some ⟨b13, 0, none⟩) (m + 1) (m + 1)) rfl) rfl (by decide) (cok1 trivial) ?_
            refine ⟨_, Wk.refl _ _, ?_⟩
            show awp _ _ _ _ _ _ _
            refine awp_regs hF ?_
            refine dv (gyes_none rfl) (q_mv (v := .int .i64 ((i : Nat) : Int)) rfl) rfl (by decide) (cok1 trivial) ?_
            refine dv (gyes_none rfl) (OpQ.cast (v' := .int .i64 ((i + 1 : Nat) : Int)) (q_int rfl rfl rfl) (congrArg _ ((i64_in (by omega)).trans (by first | rfl | omega | (push_cast; rfl))))) rfl (by decide) (cok2 trivial (cconst rfl)) ?_
            refine dv (gyes_none rfl) (q_as (v := .int .i64 ((i + 1 : Nat) : Int)) rfl) rfl (by decide) (cok1 trivial) ?_
            refine ⟨_, Wk.U [(0, vw), (2, .slice none 0 0), (3, .slice (some ⟨b13, 0, none⟩) (m + 1) (m + 1)), (4, .int .i64 (((i + 1) : Nat) : Int))] ⟨rfl, rfl, rfl, rfl, trivial⟩, ((i + 1), (m + 1), (o ++ [(i, i + 1)])), ⟨_, _, rfl, (s15.sub (.cons _ (.cons_cons _ (.refl _)))), ⟨by rw [spansK_p (by assumption) (by first | omega | exact fun q => absurd q.2 (by rw [‹nth w (i - 1) = false›]; exact fun h => nomatch h)), ho.1], by dsimp only; rw [List.length_append, ho.2.1]; rfl, by dsimp only; omega, by dsimp only; omega⟩⟩, (by omega)⟩
        ·
          replace c3 := of_decide_eq_false c3
          refine dv (gyes_none rfl) (q_mv (v := .bool false) rfl) rfl (by decide) (cok1 trivial) ?_
          refine dno rfl (.inl rfl) rfl (by decide) ?_
          refine dno rfl (.inl rfl) rfl (by decide) ?_
          refine dno rfl (.inl rfl) rfl (by decide) ?_
          refine dno rfl (.inl rfl) rfl (by decide) ?_
          refine dno rfl (.inl rfl) rfl (by decide) ?_
          refine dv (gyes_none rfl) (q_pf (v := .bool false) rfl rfl) rfl (by decide) (call_ok rfl) ?_
          refine ⟨_, Wk.refl _ _, ?_⟩
          show awp _ _ _ _ _ _ _
          refine awp_cond_f rfl ?_
          refine awp_regs hF ?_
          refine dv (gyes_none rfl) (q_mv (v := .slice (some ⟨bo, 0, none⟩) m m) rfl) rfl (by decide) (cok1 trivial) ?_
          refine dv (gyes_none rfl) (q_mv (v := .int .i64 ((i : Nat) : Int)) rfl) rfl (by decide) (cok1 trivial) ?_
          refine dv (gyes_none rfl) (q_mv (v := .int .i64 ((i : Nat) : Int)) rfl) rfl (by decide) (cok1 trivial) ?_
          refine dv (gyes_none rfl) (OpQ.cast (v' := .int .i64 ((i + 1 : Nat) : Int)) (q_int rfl rfl rfl) (congrArg _ ((i64_in (by omega)).trans (by first | rfl | omega | (push_cast; rfl))))) rfl (by decide) (cok2 trivial (cconst rfl)) ?_
          refine dv (gyes_none rfl) (q_buildArrL (ds := [.int .i64 ((i : Nat) : Int), .int .i64 ((i + 1 : Nat) : Int)]) [.int .i64 ((i : Nat) : Int), .int .i64 ((i + 1 : Nat) : Int)] Try.underlying58 Try.sizeOf3 Try.zeroValue58 (by first | exact flat_agg rfl | exact flat_scalar rfl) ⟨rfl, rfl, trivial⟩ (lvsC (by exact trivial) (lvsC (by exact trivial) lvs0)) rfl) rfl (by decide) (cok2 trivial trivial) ?_
          refine x_new (fun b => .slice (some ⟨b, 0, none⟩) 1 1) s6 (gyes_none rfl) (q_buildSliceL (ds := [.int .i64 ((i : Nat) : Int), .int .i64 ((i + 1 : Nat) : Int)]) [.agg #[.int .i64 ((i : Nat) : Int), .int .i64 ((i + 1 : Nat) : Int)]] rfl Try.underlying56 Try.sizeOf58 Try.zeroValue58 rfl (by decide) (by decide) ⟨rfl, trivial⟩ (lvsC (by exact trivial) lvs0) rfl rfl) rfl (by decide) (cok1 trivial) (fun b17 H18 hb20 s19 => ?_)
          refine x_appendS (m := 2) (l := [(i, i + 1)]) (l0 := o) (l' := o ++ [(i, i + 1)]) (f := spi) [] hF s19 (by kernel_rfl) (j := 1) (m + 1) rfl (gyes_none rfl) Try.underlying56 Try.underlying56 Try.type58 rfl rfl (by decide) rfl spi_w rfl rfl rfl (s19.slsj (l := [(i, i + 1)]) spi_w (j := 0) rfl rfl (Nat.le_refl _)) (fun x _ u hu => lc_scalar (spi_sc x u hu)) ho.2.1 (by show (2 * (m + 1) + 1000) * 16 ≤ _; omega) trivial trivial (by decide) rfl rfl rfl (fun b21 H22 hb24 s23 => ⟨?_, ?_⟩)
          · exact trivial
          refine dv (gyes_none rfl) (q_as (v := .slice (some ⟨b21, 0, none⟩) (m + 1) (m + 1)) rfl) rfl (by decide) (cok1 trivial) ?_
          refine ⟨_, Wk.refl _ _, ?_⟩
          show awp _ _ _ _ _ _ _
          refine awp_regs hF ?_
          refine dv (gyes_none rfl) (q_mv (v := .int .i64 ((i : Nat) : Int)) rfl) rfl (by decide) (cok1 trivial) ?_
          refine dv (gyes_none rfl) (OpQ.cast (v' := .int .i64 ((i + 1 : Nat) : Int)) (q_int rfl rfl rfl) (congrArg _ ((i64_in (by omega)).trans (by first | rfl | omega | (push_cast; rfl))))) rfl (by decide) (cok2 trivial (cconst rfl)) ?_
          refine dv (gyes_none rfl) (q_as (v := .int .i64 ((i + 1 : Nat) : Int)) rfl) rfl (by decide) (cok1 trivial) ?_
          refine ⟨_, Wk.U [(0, vw), (2, .slice none 0 0), (3, .slice (some ⟨b21, 0, none⟩) (m + 1) (m + 1)), (4, .int .i64 (((i + 1) : Nat) : Int))] ⟨rfl, rfl, rfl, rfl, trivial⟩, ((i + 1), (m + 1), (o ++ [(i, i + 1)])), ⟨_, _, rfl, (s23.sub (.cons _ (.cons_cons _ (.refl _)))), ⟨by rw [spansK_p (by assumption) (by first | omega | exact fun q => absurd q.2 (by rw [‹nth w (i - 1) = false›]; exact fun h => nomatch h)), ho.1], by dsimp only; rw [List.length_append, ho.2.1]; rfl, by dsimp only; omega, by dsimp only; omega⟩⟩, (by omega)⟩
      ·
        refine dv (gyes_none rfl) (q_not (b := false) rfl) rfl (by decide) (cok1 trivial) ?_
        refine ⟨_, Wk.refl _ _, ?_⟩
        show awp _ _ _ _ _ _ _
        refine awp_cond_t rfl ?_
        refine awp_exit_wk ?_
        refine ⟨_, Wk.refl _ _, ?_⟩
        show awp _ _ _ _ _ _ _
        refine awp_regs hF ?_
        refine dv (gyes_none rfl) (q_mv (v := .int .i64 ((i : Nat) : Int)) rfl) rfl (by decide) (cok1 trivial) ?_
        refine dv (gyes_none rfl) (OpQ.cast (v' := .int .i64 ((i + 1 : Nat) : Int)) (q_int rfl rfl rfl) (congrArg _ ((i64_in (by omega)).trans (by first | rfl | omega | (push_cast; rfl))))) rfl (by decide) (cok2 trivial (cconst rfl)) ?_
        refine dv (gyes_none rfl) (q_as (v := .int .i64 ((i + 1 : Nat) : Int)) rfl) rfl (by decide) (cok1 trivial) ?_
        refine ⟨_, Wk.U [(0, vw), (2, .slice none 0 0), (3, .slice (some ⟨bo, 0, none⟩) m m), (4, .int .i64 (((i + 1) : Nat) : Int))] ⟨rfl, rfl, rfl, rfl, trivial⟩, ((i + 1), m, o), ⟨_, _, rfl, s6, ⟨by rw [spansK_n (by assumption)]; exact ho.1, ho.2.1, by dsimp only; omega, by dsimp only; omega⟩⟩, (by omega)⟩
    ·
      replace c1 := of_decide_eq_false c1
      refine ⟨_, Wk.refl _ _, ?_⟩
      show awp _ _ _ _ _ _ _
      refine awp_cond_f rfl ?_
      refine awp_exit_wk ?_
      refine ⟨_, Wk.refl _ _, ?_⟩
      show awp _ _ _ _ _ _ _
      refine awp_seq ?_
      refine awp_regs hF ?_
      refine dv (gyes_none rfl) (q_mv (v := .slice (some ⟨bo, 0, none⟩) m m) rfl) rfl (by decide) (cok1 trivial) ?_
      refine dv (gyes_none rfl) (q_as (v := .slice (some ⟨bo, 0, none⟩) m m) rfl) rfl (by decide) (cok1 trivial) ?_
      refine ⟨_, Wk.refl _ _, ?_⟩
      show awp _ _ _ _ _ _ _
      refine awp_ret_wk ?_
      refine ⟨_, Wk.refl _ _, ?_⟩
      repeat (with_reducible first | refine then_ret ?_ | refine blk_ret ?_ | refine then_exit ?_ | refine blk_exit ?_ | refine blk_exit' (by decide) ?_ | refine blk_normal ?_ | refine then_normal ?_ | refine retq_ret ?_ | refine retq_normal ?_ | refine ng_normal ?_ | refine ng_ret ?_ | refine ng_exit ?_)
      refine ret_is (v := .slice (some ⟨bo, 0, none⟩) m m) rfl (.tmp rfl .nil) rfl ?_
      exact freshS_of (l := o) s6 (j := 0) rfl ho.2.1.symm (by rw [ho.1, show i = w.length by omega]; rfl)

end Go.Proofs.YtjgeheookgogaaaA


/-
  Walks of functions of the given program, and what they compute.
-/
namespace Go.Proofs.YtjgeheookgogaaaA
set_option linter.unusedVariables false
open Go Go.RowKit Go.Shelf Go.Proofs
set_option maxRecDepth 100000 in
set_option maxHeartbeats 4000000 in
theorem smclo_ok {H0 : AHeap} (x : Sp) (n : Nat) (vg : Value) (g : List Sp) (hgl : g.length ≤ 1000) (hn : n < g.length) (hx : nth g n = x) (hx1 : x.1 ≤ 1000000) (hx2 : x.2 ≤ 1000000) (br bn b5 : Nat) (hnd : [br, bn].Nodup) (hb5 : b5 ∉ [br, bn]) (h1 : H0[br]? = some (.cells true [.bool true] 1)) (h2 : H0[bn]? = some (.cells true [.int .i64 ((n : Nat) : Int)] 1)) (h5 : Rd H0 b5 [vg] 1) (hg : SlSZ spi 2 (Off H0 [br, bn]) vg g) : ACalls Try.prog 33 [.agg #[.int .u64 ((x.1 : Nat) : Int), .int .u64 ((x.2 : Nat) : Int)], .pointer (some ⟨br, 0, none⟩), .pointer (some ⟨bn, 0, none⟩), .pointer (some ⟨b5, 0, none⟩)] H0 (fun v H' => v = .bool true ∧ Kp (· ∈ [br, bn]) H0 H' ∧ H'[br]? = some (.cells true [.bool true] 1) ∧ H'[bn]? = some (.cells true [.int .i64 ((n + 1 : Nat) : Int)] 1)) := by
  have hF : Wd Fence.wide := .inl rfl
  have hM : Try.prog.follows .mixedOrders = true := by kernel_rfl
  have hq1 : (nth g n).1 ≤ 1000000 := by rw [hx]; exact hx1
  have hq2 : (nth g n).2 ≤ 1000000 := by rw [hx]; exact hx2
  have s0 : St H0 (· ∈ [br, bn]) (Off H0 [br, bn]) H0 [(br, .cells true [.bool true] 1), (bn, .cells true [.int .i64 ((n : Nat) : Int)] 1)] := St.beginL [(br, .cells true [.bool true] 1), (bn, .cells true [.int .i64 ((n : Nat) : Int)] 1)] hnd (allAt_mem ⟨h1, h2, trivial⟩)
  refine acalls_st Try.func33 rfl Try.ntmps33 rfl ?_
  refine awp_seq ?_
  refine awp_regs hF ?_
  refine x_new (fun b => .pointer (some ⟨b, 0, none⟩)) s0 (gyes_none rfl) (q_box (v := .agg #[.int .u64 ((x.1 : Nat) : Int), .int .u64 ((x.2 : Nat) : Int)]) (vs := [.int .u64 ((x.1 : Nat) : Int), .int .u64 ((x.2 : Nat) : Int)]) 2 rfl (by exact trivial) rfl) rfl (by decide) (cok1 trivial) (fun b1 H2 hb4 s3 => ?_)
  refine dv (gyes_none rfl) (q_as (v := .bool false) rfl) rfl (by decide) (cok1 (cconst rfl)) ?_
  refine ⟨_, Wk.refl _ _, ?_⟩
  show awp _ _ _ _ _ _ _
  refine awp_seq ?_
  refine awp_regt hF hM (by kernel_rfl) (by kernel_rfl) ?_
  refine dv (gyes_none rfl) (q_load (v := .bool true) Try.isAgg4 rfl (s3.rd (j := 1) rfl) rfl) rfl (by decide) (cok1 trivial) ?_
  refine dv (gyes_none rfl) (q_mv (v := .bool true) rfl) rfl (by decide) (cok1 trivial) ?_
  refine dv (gyes_some rfl rfl) (q_load (v := .int .i64 ((n : Nat) : Int)) Try.isAgg3 rfl (s3.rd (j := 2) rfl) rfl) rfl (by decide) (cok1 trivial) ?_
  refine dv (gyes_some rfl rfl) (q_load (v := vg) Try.isAgg56 rfl (s3.zrd ⟨h5, hb5⟩) rfl) rfl (by decide) (cok1 trivial) ?_
  refine dv (gyes_some rfl rfl) (q_len_sls (l := g) Try.underlying56 (s3.sls hg) rfl) rfl (by decide) (cok1 trivial) ?_
  refine dv (gyes_some rfl rfl) (OpQ.cast (v' := .bool true) (q_int rfl rfl rfl) (congrArg Value.bool (decide_eq_true (by omega)))) rfl (by decide) (cok2 trivial trivial) ?_
  refine dv (gyes_none rfl) (q_pt (v := .bool true) rfl rfl) rfl (by decide) (call_ok rfl) ?_
  refine dv (gyes_none rfl) (q_mv (v := .bool true) rfl) rfl (by decide) (cok1 trivial) ?_
  refine dv (gyes_some rfl rfl) (q_field Try.underlying30 rfl Try.sizeOf27 rfl (s3.rd (j := 0) rfl)) rfl (by decide) (cok1 trivial) ?_
  refine dv (gyes_some rfl rfl) (q_load (v := .int .u64 ((x.1 : Nat) : Int)) Try.isAgg27 rfl (s3.rd (j := 0) rfl) rfl) rfl (by decide) (cok1 trivial) ?_
  refine dv (gyes_some rfl rfl) (q_load (v := vg) Try.isAgg56 rfl (s3.zrd ⟨h5, hb5⟩) rfl) rfl (by decide) (cok1 trivial) ?_
  refine dv (gyes_some rfl rfl) (q_load (v := .int .i64 ((n : Nat) : Int)) Try.isAgg3 rfl (s3.rd (j := 2) rfl) rfl) rfl (by decide) (cok1 trivial) ?_
  refine dv (gyes_some rfl rfl) (q_index_sls (l := g) (i := n) Try.underlying56 Try.sizeOf58 (s3.sls hg) spi_w rfl rfl (by omega)) rfl (by decide) (cok2 trivial trivial) ?_
  refine dv (gyes_some rfl rfl) (OpQ.cast (v' := .pointer (some ⟨sb vg, so vg + n * 2, none⟩)) (q_indexArr_sls (l := g) (i := n) (j := 0) Try.underlying58 Try.sizeOf3 (s3.sls hg) spi_w rfl rfl (by decide) (by omega)) rfl) rfl (by decide) (cok2 trivial (cconst rfl)) ?_
  refine dv (gyes_some rfl rfl) (q_load_sls0 (l := g) (i := n) (u := .int .i64 (((nth g n).1 : Nat) : Int)) Try.isAgg3 (s3.sls hg) spi_w rfl (by omega) (by decide) rfl) rfl (by decide) (cok1 trivial) ?_
  refine dv (gyes_some rfl rfl) (q_convin (a := (((nth g n).1 : Nat) : Int)) Try.underlying3 Try.underlying27 rfl (u64_in (by omega))) rfl (by decide) (cok1 trivial) ?_
  refine dv (gyes_some rfl rfl) (OpQ.cast (v' := .bool true) (q_int rfl rfl rfl) (congrArg Value.bool (beq_iff_eq.2 (by rw [hx])))) rfl (by decide) (cok2 trivial trivial) ?_
  refine dv (gyes_none rfl) (q_pt (v := .bool true) rfl rfl) rfl (by decide) (call_ok rfl) ?_
  refine dv (gyes_none rfl) (q_mv (v := .bool true) rfl) rfl (by decide) (cok1 trivial) ?_
  refine dv (gyes_some rfl rfl) (q_field Try.underlying30 rfl Try.sizeOf27 rfl (s3.rd (j := 0) rfl)) rfl (by decide) (cok1 trivial) ?_
  refine dv (gyes_some rfl rfl) (q_load (v := .int .u64 ((x.2 : Nat) : Int)) Try.isAgg27 rfl (s3.rd (j := 0) rfl) rfl) rfl (by decide) (cok1 trivial) ?_
  refine dv (gyes_some rfl rfl) (q_load (v := vg) Try.isAgg56 rfl (s3.zrd ⟨h5, hb5⟩) rfl) rfl (by decide) (cok1 trivial) ?_
  refine dv (gyes_some rfl rfl) (q_load (v := .int .i64 ((n : Nat) : Int)) Try.isAgg3 rfl (s3.rd (j := 2) rfl) rfl) rfl (by decide) (cok1 trivial) ?_
  refine dv (gyes_some rfl rfl) (q_index_sls (l := g) (i := n) Try.underlying56 Try.sizeOf58 (s3.sls hg) spi_w rfl rfl (by omega)) rfl (by decide) (cok2 trivial trivial) ?_
  refine dv (gyes_some rfl rfl) (OpQ.cast (v' := .pointer (some ⟨sb vg, so vg + n * 2 + 1, none⟩)) (q_indexArr_sls (l := g) (i := n) (j := 1) Try.underlying58 Try.sizeOf3 (s3.sls hg) spi_w rfl rfl (by decide) (by omega)) rfl) rfl (by decide) (cok2 trivial (cconst rfl)) ?_
  refine dv (gyes_some rfl rfl) (q_load_sls (l := g) (i := n) (u := .int .i64 (((nth g n).2 : Nat) : Int)) Try.isAgg3 (s3.sls hg) spi_w rfl (by omega) (by decide) rfl) rfl (by decide) (cok1 trivial) ?_
  refine dv (gyes_some rfl rfl) (q_convin (a := (((nth g n).2 : Nat) : Int)) Try.underlying3 Try.underlying27 rfl (u64_in (by omega))) rfl (by decide) (cok1 trivial) ?_
  refine dv (gyes_some rfl rfl) (OpQ.cast (v' := .bool true) (q_int rfl rfl rfl) (congrArg Value.bool (beq_iff_eq.2 (by rw [hx])))) rfl (by decide) (cok2 trivial trivial) ?_
  refine dv (gyes_none rfl) (q_pt (v := .bool true) rfl rfl) rfl (by decide) (call_ok rfl) ?_
  refine x_store1 [] hF s3 (by kernel_rfl) (gyes_none rfl) (j := 1) (v := .bool true) rfl Try.sizeOf4 rfl rfl rfl (lc_scalar rfl) (Nat.le_of_ble_eq_true rfl) trivial trivial rfl rfl (F' := [(b1, .cells true [.int .u64 ((x.1 : Nat) : Int), .int .u64 ((x.2 : Nat) : Int)] 2), (br, .cells true [.bool true] 1), (bn, .cells true [.int .i64 ((n : Nat) : Int)] 1)]) rfl (fun H5 s6 => ⟨?_, ?_⟩)
  · exact trivial
  refine ⟨_, Wk.refl _ _, ?_⟩
  show awp _ _ _ _ _ _ _
  refine awp_seq ?_
  refine awp_regs hF ?_
  refine dv (gyes_none rfl) (q_load (v := .int .i64 ((n : Nat) : Int)) Try.isAgg3 rfl (s6.rd (j := 2) rfl) rfl) rfl (by decide) (cok1 trivial) ?_
  refine dv (gyes_none rfl) (OpQ.cast (v' := .int .i64 ((n + 1 : Nat) : Int)) (q_int rfl rfl rfl) (congrArg _ ((i64_in (by omega)).trans (by first | rfl | omega | (push_cast; rfl))))) rfl (by decide) (cok2 trivial (cconst rfl)) ?_
  refine x_store1 [] hF s6 (by kernel_rfl) (gyes_none rfl) (j := 2) (v := .int .i64 ((n + 1 : Nat) : Int)) rfl Try.sizeOf3 rfl rfl rfl (lc_scalar rfl) (Nat.le_of_ble_eq_true rfl) trivial trivial rfl rfl (F' := [(b1, .cells true [.int .u64 ((x.1 : Nat) : Int), .int .u64 ((x.2 : Nat) : Int)] 2), (br, .cells true [.bool true] 1), (bn, .cells true [.int .i64 ((n + 1 : Nat) : Int)] 1)]) rfl (fun H7 s8 => ⟨?_, ?_⟩)
  · exact trivial
  refine ⟨_, Wk.refl _ _, ?_⟩
  show awp _ _ _ _ _ _ _
  refine awp_seq ?_
  refine awp_regs hF ?_
  refine dv (gyes_none rfl) (q_as (v := .bool true) rfl) rfl (by decide) (cok1 (cconst rfl)) ?_
  refine ⟨_, Wk.refl _ _, ?_⟩
  show awp _ _ _ _ _ _ _
  refine awp_ret_wk ?_
  refine ⟨_, Wk.refl _ _, ?_⟩
  repeat (with_reducible first | refine then_ret ?_ | refine blk_ret ?_ | refine then_exit ?_ | refine blk_exit ?_ | refine blk_exit' (by decide) ?_ | refine blk_normal ?_ | refine then_normal ?_ | refine retq_ret ?_ | refine retq_normal ?_ | refine ng_normal ?_ | refine ng_ret ?_ | refine ng_exit ?_)
  refine ret_is (v := .bool true) rfl (.tmp rfl .nil) rfl ?_
  exact ⟨rfl, s8.kp, s8.getj (j := 1) rfl, s8.getj (j := 2) rfl⟩
theorem srun2_ok {H0 : AHeap} {F : List (Nat × AObj)} {Z : Rs} {H : AHeap} (hs : St H0 none0 Z H F) (vL vg : Value) (l : List Sp) (hl : l.length ≤ 1000) (hlb : ∀ x ∈ l, x.1 ≤ 1000000 ∧ x.2 ≤ 1000000) (br bn b5 bs bc jr jn : Nat) (hr : F[jr]? = some (br, .cells true [.bool true] 1)) (hn : F[jn]? = some (bn, .cells true [.int .i64 0] 1)) (hij : jr ≠ jn)
    (hbs : bs ∉ [br, bn]) (hbc : bc ∉ [br, bn]) (hb5 : b5 ∉ [br, bn]) (h5 : Rd H b5 [vg] 1) (hRs : Rd H bs [vL] 1) (hRc : Rd H bc [.pointer (some ⟨bs, 0, none⟩)] 1) (hL : SlSZ spc 2 (Off H [br, bn]) vL l) (hg : SlSZ spi 2 (Off H [br, bn]) vg l) :
    ACalls Try.prog 29 [.func (.func 33) #[] #[.pointer (some ⟨br, 0, none⟩), .pointer (some ⟨bn, 0, none⟩), .pointer (some ⟨b5, 0, none⟩)], .pointer (some ⟨bc, 0, none⟩)] H (fun v H' => v = .tuple #[] ∧ Kp (· ∈ [br, bn]) H H' ∧ H'[br]? = some (.cells true [.bool true] 1) ∧ H'[bn]? = some (.cells true [.int .i64 ((l.length : Nat) : Int)] 1)) := by
  have hne : br ≠ bn := hs.nej hr hn hij
  let Iv : Nat → AHeap → Prop := fun i H' => Kp (· ∈ [br, bn]) H H' ∧ i ≤ l.length ∧ H'[br]? = some (.cells true [.bool true] 1) ∧ H'[bn]? = some (.cells true [.int .i64 ((i : Nat) : Int)] 1)
  refine (alls1_ok (H0 := H) bc bs vL l (by omega) _ Iv (fun _ _ => False) ?h0 ?hm ?hb ?hy).mono ?_
  case h0 => exact ⟨.refl _ _, Nat.zero_le _, hs.getj hr, hs.getj hn⟩
  case hm =>
    rintro i H1 H2 ⟨q1, q2, q3, q4⟩ kk
    exact ⟨q1.trans (kk.mono fun _ h => h.elim), q2, (kk.get _ (lt_of_some q3) (fun h => h)).trans q3, (kk.get _ (lt_of_some q4) (fun h => h)).trans q4⟩
  case hb =>
    rintro i H1 ⟨q1, _⟩
    exact ⟨q1.rd hRc hbc, q1.rd hRs hbs, hL.mono fun b vs sz h => q1.rd h.1 h.2⟩
  case hy =>
    rintro i H1 ⟨q1, q2, q3, q4⟩ hi
    have hb := hlb _ (nthN_mem hi)
    refine ylds_func Try.call33 ((smclo_ok (H0 := H1) (nth l i) i vg l hl hi rfl hb.1 hb.2 br bn b5 (nod2 hne) hb5 q3 q4 (q1.rd h5 hb5) (hg.mono fun b vs sz h => ⟨q1.rd h.1 h.2, h.2⟩)).mono ?_)
    rintro v H2 ⟨rfl, r1, r2, r3⟩
    exact ⟨_, rfl, fun _ => ⟨q1.trans r1, by omega, r2, r3⟩, fun h => nomatch h⟩
  rintro v H' ⟨rfl, h | ⟨i, hi, h⟩⟩
  · exact ⟨rfl, h.1, h.2.2⟩
  · exact h.elim
set_option maxRecDepth 100000 in
set_option maxHeartbeats 4000000 in
theorem same_ok {H0 : AHeap} (bs : Nat) (vL : Value) (l : List Sp) (hs_ : Rd H0 bs [vL] 1) (hL : SlS spc 2 H0 vL l) (hl : l.length ≤ 1000) (hlb : ∀ x ∈ l, x.1 ≤ 1000000 ∧ x.2 ≤ 1000000) (w : List Bool) (vw : Value) (hw : Sl boolv H0 vw w) (hwl : w.length ≤ 1000000) (he : spansV w = l) : ACalls Try.prog 25 [.pointer (some ⟨bs, 0, none⟩), vw] H0 (Rets (.bool true) H0) := by
  have hF : Wd Fence.wide := .inl rfl
  have hM : Try.prog.follows .mixedOrders = true := by kernel_rfl
  have s0 := St.begin H0
  refine acalls_st Try.func25 rfl Try.ntmps25 rfl ?_
  refine awp_seq ?_
  refine awp_regs hF ?_
  refine dv (gyes_none rfl) (q_as (v := .bool false) rfl) rfl (by decide) (cok1 (cconst rfl)) ?_
  refine ⟨_, Wk.refl _ _, ?_⟩
  show awp _ _ _ _ _ _ _
  refine awp_seq ?_
  refine awp_regs hF ?_
  refine dv (gyes_none rfl) (q_mv (v := vw) rfl) rfl (by decide) (cok1 trivial) ?_
  refine x_call [] hF (by kernel_rfl) (gyes_none rfl) Try.call32 rfl (args := [vw]) rfl (spans_ok w vw (s0.sl hw) hwl) (show _ < _ by decide) (call_ok rfl) rfl rfl (fun _ _ _ _ hd => by cases hd) ?_
  rintro _ H2 ⟨hk3, b1, hv4, hb5, hg6⟩
  rw [he] at hv4
  replace hg6 : _ = some (AObj.cells true (fl spi (spansV w)) 2) := hg6
  rw [he] at hg6
  subst hv4
  have s7 := s0.callN hk3 hb5 hg6
  refine ⟨trivial, ?_⟩
  show dList _ _ _ _ _ _ _ _ _ _
  refine x_new (fun b => .pointer (some ⟨b, 0, none⟩)) s7 (gyes_none rfl) (q_alloc (vs := [.slice none 0 0]) 1 Try.zeroValue56 (by first | exact flat_scalar rfl | exact flat_agg rfl) rfl) rfl (by decide) (by simp [Op.operands, Call.operands]) (fun b8 H9 hb11 s10 => ?_)
  refine x_store1 [] hF s10 (by kernel_rfl) (gyes_none rfl) (j := 0) (v := .slice (some ⟨b1, 0, none⟩) l.length l.length) rfl Try.sizeOf56 rfl rfl rfl (lc_slice (s10.live (j := 1) rfl)) (Nat.le_of_ble_eq_true rfl) trivial trivial rfl rfl (F' := [(b8, .cells true [.slice (some ⟨b1, 0, none⟩) l.length l.length] 1), (b1, .cells true (fl spi l) 2)]) rfl (fun H12 s13 => ⟨?_, ?_⟩)
  · exact trivial
  refine ⟨_, Wk.refl _ _, ?_⟩
  show awp _ _ _ _ _ _ _
  refine awp_seq ?_
  refine awp_regs hF ?_
  refine x_new (fun b => .pointer (some ⟨b, 0, none⟩)) s13 (gyes_none rfl) (q_alloc (vs := [.int .i64 0]) 1 Try.zeroValue3 (by first | exact flat_scalar rfl | exact flat_agg rfl) rfl) rfl (by decide) (by simp [Op.operands, Call.operands]) (fun b14 H15 hb17 s16 => ?_)
  refine x_store1 [] hF s16 (by kernel_rfl) (gyes_none rfl) (j := 0) (v := .int .i64 0) rfl Try.sizeOf3 rfl rfl rfl (lc_scalar rfl) (Nat.le_of_ble_eq_true rfl) trivial (cconst rfl) rfl rfl (F' := [(b14, .cells true [.int .i64 0] 1), (b8, .cells true [.slice (some ⟨b1, 0, none⟩) l.length l.length] 1), (b1, .cells true (fl spi l) 2)]) rfl (fun H18 s19 => ⟨?_, ?_⟩)
  · exact trivial
  refine ⟨_, Wk.refl _ _, ?_⟩
  show awp _ _ _ _ _ _ _
  refine awp_seq ?_
  refine awp_regs hF ?_
  refine x_new (fun b => .pointer (some ⟨b, 0, none⟩)) s19 (gyes_none rfl) (q_alloc (vs := [.bool false]) 1 Try.zeroValue4 (by first | exact flat_scalar rfl | exact flat_agg rfl) rfl) rfl (by decide) (by simp [Op.operands, Call.operands]) (fun b20 H21 hb23 s22 => ?_)
  refine x_store1 [] hF s22 (by kernel_rfl) (gyes_none rfl) (j := 0) (v := .bool true) rfl Try.sizeOf4 rfl rfl rfl (lc_scalar rfl) (Nat.le_of_ble_eq_true rfl) trivial (cconst rfl) rfl rfl (F' := [(b20, .cells true [.bool true] 1), (b14, .cells true [.int .i64 0] 1), (b8, .cells true [.slice (some ⟨b1, 0, none⟩) l.length l.length] 1), (b1, .cells true (fl spi l) 2)]) rfl (fun H24 s25 => ⟨?_, ?_⟩)
  · exact trivial
  refine ⟨_, Wk.refl _ _, ?_⟩
  show awp _ _ _ _ _ _ _
  refine awp_seq ?_
  refine awp_regs hF ?_
  refine dv (gyes_none rfl) (q_mv (v := .pointer (some ⟨bs, 0, none⟩)) rfl) rfl (by decide) (cok1 trivial) ?_
  refine x_call [] hF (by kernel_rfl) (gyes_none rfl) Try.call11 rfl (args := [.pointer (some ⟨bs, 0, none⟩)]) rfl (all_ok bs _ (s25.zrd hs_)) (show _ < _ by decide) (call_ok rfl) rfl rfl (fun _ _ _ _ hd => by cases hd) ?_
  rintro _ H27 ⟨b26, rfl, hn28⟩
  have s29 := s25.callL hn28
  refine ⟨trivial, ?_⟩
  show dList _ _ _ _ _ _ _ _ _ _
  refine dv (gyes_none rfl) (q_makeFuncL [.pointer (some ⟨b20, 0, none⟩), .pointer (some ⟨b14, 0, none⟩), .pointer (some ⟨b8, 0, none⟩)] ⟨rfl, rfl, rfl, trivial⟩) rfl (by decide) (call_ok rfl) ?_
  refine x_call [] hF (by kernel_rfl) (gyes_none rfl) Try.call29 rfl (args := [.func (.func 33) #[] #[.pointer (some ⟨b20, 0, none⟩), .pointer (some ⟨b14, 0, none⟩), .pointer (some ⟨b8, 0, none⟩)], .pointer (some ⟨b26, 0, none⟩)]) rfl (srun2_ok s29 vL _ l (by omega) hlb b20 b14 b8 bs b26 1 2 rfl rfl (by decide) (nin2 (by have q1 := (hs_).lt; have q2 := s29.out (j := 1) rfl; omega) (by have q1 := (hs_).lt; have q2 := s29.out (j := 2) rfl; omega)) (nin2 (s29.nej (i := 0) (j := 1) rfl rfl (by decide)) (s29.nej (i := 0) (j := 2) rfl rfl (by decide))) (nin2 (s29.nej (i := 3) (j := 1) rfl rfl (by decide)) (s29.nej (i := 3) (j := 2) rfl rfl (by decide))) (s29.rd (j := 3) rfl) (s29.zrd hs_) (s29.rd (j := 0) rfl) (hL.mono fun b vs sz hz => ⟨s29.zrd hz, (nin2 (by have q1 := (hz).lt; have q2 := s29.out (j := 1) rfl; omega) (by have q1 := (hz).lt; have q2 := s29.out (j := 2) rfl; omega))⟩) (slsz_full spi_w ⟨(s29.rd (j := 4) rfl), (nin2 (s29.nej (i := 4) (j := 1) rfl rfl (by decide)) (s29.nej (i := 4) (j := 2) rfl rfl (by decide)))⟩ rfl (Nat.le_refl _))) (show _ < _ by decide) (call_ok rfl) rfl rfl (fun _ _ _ _ hd => by cases hd) ?_
  rintro _ H30 ⟨rfl, hk31, h32, h33⟩
  have s34 := (s29.turn2 (j9 := 1) (jl := 2) rfl rfl (by decide) hk31 (.inr (by simp)) (s29.nej (i := 2) (j := 1) rfl rfl (by decide)) h32 h33)
  refine ⟨trivial, ?_⟩
  show dList _ _ _ _ _ _ _ _ _ _
  refine ⟨_, Wk.refl _ _, ?_⟩
  show awp _ _ _ _ _ _ _
  refine awp_seq ?_
  refine awp_regs hF ?_
  refine dv (gyes_none rfl) (q_load (v := .bool true) Try.isAgg4 rfl (s34.rd (j := 1) rfl) rfl) rfl (by decide) (cok1 trivial) ?_
  refine dv (gyes_none rfl) (q_mv (v := .bool true) rfl) rfl (by decide) (cok1 trivial) ?_
  refine dv (gyes_some rfl rfl) (q_load (v := .int .i64 ((l.length : Nat) : Int)) Try.isAgg3 rfl (s34.rd (j := 2) rfl) rfl) rfl (by decide) (cok1 trivial) ?_
  refine dv (gyes_some rfl rfl) (q_load (v := .slice (some ⟨b1, 0, none⟩) l.length l.length) Try.isAgg56 rfl (s34.rd (j := 3) rfl) rfl) rfl (by decide) (cok1 trivial) ?_
  refine dv (gyes_some rfl rfl) (q_len_slice Try.underlying56 rfl (s34.rd (j := 4) rfl)) rfl (by decide) (cok1 trivial) ?_
  refine dv (gyes_some rfl rfl) (OpQ.cast (v' := .bool true) (q_int rfl rfl rfl) (congrArg Value.bool (beq_self_eq_true _))) rfl (by decide) (cok2 trivial trivial) ?_
  refine dv (gyes_none rfl) (q_pt (v := .bool true) rfl rfl) rfl (by decide) (call_ok rfl) ?_
  refine dv (gyes_none rfl) (q_as (v := .bool true) rfl) rfl (by decide) (cok1 trivial) ?_
  refine ⟨_, Wk.refl _ _, ?_⟩
  show awp _ _ _ _ _ _ _
  refine awp_ret_wk ?_
  refine ⟨_, Wk.refl _ _, ?_⟩
  repeat (with_reducible first | refine then_ret ?_ | refine blk_ret ?_ | refine then_exit ?_ | refine blk_exit ?_ | refine blk_exit' (by decide) ?_ | refine blk_normal ?_ | refine then_normal ?_ | refine retq_ret ?_ | refine retq_normal ?_ | refine ng_normal ?_ | refine ng_ret ?_ | refine ng_exit ?_)
  exact ret_none (v := .bool true) rfl s34.kp (.tmp rfl .nil) rfl rfl ⟨rfl, rfl⟩

end Go.Proofs.YtjgeheookgogaaaA


/-
  Walks of functions of the given program, and what they compute.
-/
namespace Go.Proofs.YtjgeheookgogaaaA
set_option linter.unusedVariables false
open Go Go.RowKit Go.Shelf Go.Proofs
abbrev Ac := Int × Int × Int × Int × Int
def acc (x : Ac) : List Value := [.int .i64 x.1, .int .i64 x.2.1, .int .i64 x.2.2.1, .int .i64 x.2.2.2.1, .int .i64 x.2.2.2.2]
theorem acc_w : Wm acc 5 := fun _ => rfl
theorem acc_sc : ∀ x, ∀ u ∈ acc x, Scalar u = true := fun x u hu => by simp [acc] at hu; rcases hu with rfl | rfl | rfl | rfl | rfl <;> rfl
def I64 (n : Int) : Prop := -9223372036854775808 ≤ n ∧ n ≤ 9223372036854775807
def AcW (x : Ac) : Prop := I64 x.1 ∧ I64 x.2.1 ∧ I64 x.2.2.1 ∧ I64 x.2.2.2.1 ∧ I64 x.2.2.2.2
theorem tmod4 (w : Int) : -4 < w.tmod 4 ∧ w.tmod 4 < 4 := ⟨by have := Int.lt_tmod_of_pos w (show (0:Int) < 4 by decide); omega, Int.tmod_lt_of_pos w (by decide)⟩
theorem elem_acc : ElemOk Try.prog 42 acc AcW := fun H enc w base fuel cs x h => by
  obtain ⟨n0, g0, b0⟩ := fld_i64 Try.underlying42 h (i := 0) rfl (by kernel_rfl) Try.underlying3
  obtain ⟨n1, g1, b1⟩ := fld_i64 Try.underlying42 h (i := 1) rfl (by kernel_rfl) Try.underlying3
  obtain ⟨n2, g2, b2⟩ := fld_i64 Try.underlying42 h (i := 2) rfl (by kernel_rfl) Try.underlying3
  obtain ⟨n3, g3, b3⟩ := fld_i64 Try.underlying42 h (i := 3) rfl (by kernel_rfl) Try.underlying3
  obtain ⟨n4, g4, b4⟩ := fld_i64 Try.underlying42 h (i := 4) rfl (by kernel_rfl) Try.underlying3
  have hl : cs.length = 5 := (trod_len Try.underlying42 h).trans (by kernel_rfl)
  match cs, hl with
  | [c0, c1, c2, c3, c4], _ =>
    obtain rfl : c0 = _ := Option.some.inj g0
    obtain rfl : c1 = _ := Option.some.inj g1
    obtain rfl : c2 = _ := Option.some.inj g2
    obtain rfl : c3 = _ := Option.some.inj g3
    obtain rfl : c4 = _ := Option.some.inj g4
    exact ⟨(n0, n1, n2, n3, n4), rfl, ⟨b0, b1, b2, b3, b4⟩⟩
set_option maxRecDepth 100000 in
set_option maxHeartbeats 4000000 in
theorem spanPlays_ok {H0 : AHeap} (va : Value) (z : List Ac) (hz : SlS acc 5 H0 va z) : ACalls Try.prog 5 [va] H0 (Rets (.bool true) H0) := by
  have hF : Wd Fence.wide := .inl rfl
  have hM : Try.prog.follows .mixedOrders = true := by kernel_rfl
  have s0 := St.begin H0
  refine acalls_st Try.func5 rfl Try.ntmps5 rfl ?_
  refine awp_seq ?_
  refine awp_regs hF ?_
  refine dv (gyes_none rfl) (q_as (v := .bool false) rfl) rfl (by decide) (cok1 (cconst rfl)) ?_
  refine ⟨_, Wk.refl _ _, ?_⟩
  show awp _ _ _ _ _ _ _
  refine awp_seq ?_
  refine awp_seq ?_
  refine awp_regs hF ?_
  refine dv (gyes_none rfl) (q_call0 Try.call8 rfl (speaks_ok)) rfl (by decide) (cok1 trivial) ?_
  refine dv (gyes_none rfl) (q_not (b := true) rfl) rfl (by decide) (cok1 trivial) ?_
  refine ⟨_, Wk.refl _ _, ?_⟩
  show awp _ _ _ _ _ _ _
  refine awp_cond_f rfl ?_
  refine awp_skip_wk ?_
  refine ⟨_, Wk.refl _ _, ?_⟩
  show awp _ _ _ _ _ _ _
  refine awp_seq ?_
  refine awp_regs hF ?_
  refine x_new (fun b => .pointer (some ⟨b, 0, none⟩)) s0 (gyes_none rfl) (q_alloc (vs := [.slice none 0 0]) 1 Try.zeroValue26 (by first | exact flat_scalar rfl | exact flat_agg rfl) rfl) rfl (by decide) (by simp [Op.operands, Call.operands]) (fun b1 H2 hb4 s3 => ?_)
  refine ⟨_, Wk.refl _ _, ?_⟩
  show awp _ _ _ _ _ _ _
  refine awp_seq ?_
  refine awp_nilc s3 (j := 0) (o := 0) (sz' := 2) rfl rfl (fun b5 H6 hb8 s7 => ?_)
  refine awp_regs hF ?_
  refine x_new (fun b => .slice (some ⟨b, 0, none⟩) 96 96) s7 (gyes_none rfl) (q_makeSlice1 (len := 96) (m := 96) rfl Try.underlying40 Try.typeInfo4 rfl Try.zeroValue4 rfl rfl rfl rfl (by omega) (by omega) (by show 1 * _ ≤ _; omega) (vs := (List.replicate 96 false).map boolv) (by simp [boolv])) rfl (by decide) (cok2 (cconst rfl) (cconst rfl)) (fun b9 H10 hb12 s11 => ?_)
  refine dv (gyes_none rfl) (q_as (v := .slice (some ⟨b9, 0, none⟩) 96 96) rfl) rfl (by decide) (cok1 trivial) ?_
  refine ⟨_, Wk.refl _ _, ?_⟩
  show awp _ _ _ _ _ _ _
  refine awp_seq ?_
  refine awp_seq ?_
  refine awp_regs hF ?_
  refine dv (gyes_none rfl) (q_as (v := .int .i64 0) rfl) rfl (by decide) (cok1 (cconst rfl)) ?_
  refine ⟨_, Wk.refl _ _, ?_⟩
  show awp _ _ _ _ _ _ _
  refine awp_block ?_
  refine awp_wk (Wk.U [(0, va), (2, .bool false), (3, .pointer (some ⟨b1, 0, none⟩)), (4, .slice (some ⟨b9, 0, none⟩) ((List.replicate 96 false).length) ((List.replicate 96 false).length)), (5, .int .i64 0)] ⟨rfl, rfl, rfl, rfl, rfl, trivial⟩) ?_
  refine awp_loop (fun ((i, w, L) : Nat × (List Bool) × (List Sp)) st => ∃ (H13 : AHeap) (b2 : Nat) (bw : Nat), st = ⟨156, U [(0, va), (2, .bool false), (3, .pointer (some ⟨b1, 0, none⟩)), (4, .slice (some ⟨bw, 0, none⟩) w.length w.length), (5, .int .i64 ((i : Nat) : Int))], [], H13⟩ ∧ St H0 (none0) (Rd H0) H13 [(bw, .cells true (w.map boolv) 1), (b2, .cells true (fl spc L) 2), (b1, .cells true [.slice (some ⟨b2, 0, none⟩) L.length L.length] 1)] ∧ (Canon L ∧ ∀ y ∈ L, SpW y) ∧ (Rep w L)) (fun ((i, w, L) : Nat × (List Bool) × (List Sp)) => z.length - i) (x0 := (0, (List.replicate 96 false), ([] : List Sp))) ?h0 ?round
  case h0 =>
    exact ⟨_, _, _, rfl, s11, ⟨canon_nil, (fun _ h => nomatch h)⟩, rep_nil⟩
  case round =>
    rintro ⟨i, w, L⟩ _ ⟨H13, b2, bw, rfl, s14, hc, hR⟩
    dsimp only at *
    refine awp_seq ?_
    refine awp_seq ?_
    refine awp_regs hF ?_
    refine dv (gyes_none rfl) (q_mv (v := .int .i64 ((i : Nat) : Int)) rfl) rfl (by decide) (cok1 trivial) ?_
    refine dv (gyes_none rfl) (q_mv (v := va) rfl) rfl (by decide) (cok1 trivial) ?_
    refine dv (gyes_none rfl) (q_len_sls (l := z) Try.underlying38 (s14.sls hz) rfl) rfl (by decide) (cok1 trivial) ?_
    refine dvb (gyes_none rfl) (q_int rfl rfl rfl) rfl (by decide) (cok2 trivial trivial) (fun c1 => ?_) (fun c1 => ?_)
    ·
      replace c1 := of_decide_eq_true c1
      refine dv (gyes_none rfl) (q_mv (v := .bool true) rfl) rfl (by decide) (cok1 trivial) ?_
      refine dv (gyes_some rfl rfl) (q_mv (v := .int .i64 ((i : Nat) : Int)) rfl) rfl (by decide) (cok1 trivial) ?_
      refine dvb (gyes_some rfl rfl) (q_int rfl rfl rfl) rfl (by decide) (cok2 trivial (cconst rfl)) (fun c2 => ?_) (fun c2 => ?_)
      ·
        replace c2 := of_decide_eq_true c2
        refine dv (gyes_none rfl) (q_pt (v := .bool true) rfl rfl) rfl (by decide) (call_ok rfl) ?_
        refine ⟨_, Wk.refl _ _, ?_⟩
        show awp _ _ _ _ _ _ _
        refine awp_cond_t rfl ?_
        refine awp_skip_wk ?_
        refine ⟨_, Wk.refl _ _, ?_⟩
        show awp _ _ _ _ _ _ _
        refine awp_seq ?_
        refine awp_block ?_
        refine awp_seq ?_
        have hwl := hR.len
        have hll := rep_len hR hc.1
        refine awp_regs hF ?_
        refine dv (gyes_none rfl) (q_mv (v := va) rfl) rfl (by decide) (cok1 trivial) ?_
        refine dv (gyes_none rfl) (q_mv (v := .int .i64 ((i : Nat) : Int)) rfl) rfl (by decide) (cok1 trivial) ?_
        refine dv (gyes_none rfl) (q_index_sls (l := z) (i := i) Try.underlying38 Try.sizeOf42 (s14.sls hz) acc_w rfl rfl (by omega)) rfl (by decide) (cok2 trivial trivial) ?_
        refine dv (gyes_none rfl) (q_loadA_sls (l := z) (i := i) Try.isAgg42 Try.sizeOf42 (s14.sls hz) acc_w rfl (by omega)) rfl (by decide) (cok1 trivial) ?_
        refine x_new (fun b => .pointer (some ⟨b, 0, none⟩)) s14 (gyes_none rfl) (q_alloc (vs := [.int .i64 0, .int .i64 0, .int .i64 0, .int .i64 0, .int .i64 0]) 5 Try.zeroValue42 (by first | exact flat_scalar rfl | exact flat_agg rfl) rfl) rfl (by decide) (by simp [Op.operands, Call.operands]) (fun b15 H16 hb18 s17 => ?_)
        refine x_store [] hF s17 (by kernel_rfl) (gyes_none rfl) (j := 0) (v := .agg #[.int .i64 ((nth z i).1), .int .i64 ((nth z i).2.1), .int .i64 ((nth z i).2.2.1), .int .i64 ((nth z i).2.2.2.1), .int .i64 ((nth z i).2.2.2.2)]) rfl Try.sizeOf42 rfl rfl rfl rfl rfl trivial (lcsA ⟨(lc_scalar rfl), (lc_scalar rfl), (lc_scalar rfl), (lc_scalar rfl), (lc_scalar rfl), trivial⟩) (Nat.le_of_ble_eq_true rfl) trivial trivial rfl rfl (F' := [(b15, .cells true [.int .i64 ((nth z i).1), .int .i64 ((nth z i).2.1), .int .i64 ((nth z i).2.2.1), .int .i64 ((nth z i).2.2.2.1), .int .i64 ((nth z i).2.2.2.2)] 5), (bw, .cells true (w.map boolv) 1), (b2, .cells true (fl spc L) 2), (b1, .cells true [.slice (some ⟨b2, 0, none⟩) L.length L.length] 1)]) rfl (fun H19 s20 => ⟨?_, ?_⟩)
        · exact trivial
        refine ⟨_, Wk.refl _ _, ?_⟩
        show awp _ _ _ _ _ _ _
        refine awp_seq ?_
        have m1 := imask_le (nth z i).2.1 63
        have m2 := imask_le (nth z i).2.2.1 63
        have m3 := imask_le (nth z i).2.2.2.1 31
        refine awp_regt hF hM (by kernel_rfl) (by kernel_rfl) ?_
        refine dv (gyes_none rfl) (q_field Try.underlying42 rfl Try.sizeOf3 rfl (s20.rd (j := 0) rfl)) rfl (by decide) (cok1 trivial) ?_
        refine dv (gyes_none rfl) (q_load (v := .int .i64 ((nth z i).2.1)) Try.isAgg3 rfl (s20.rd (j := 0) rfl) rfl) rfl (by decide) (cok1 trivial) ?_
        refine dv (gyes_none rfl) (q_imask (m := 63) rfl rfl (by first | decide | omega)) rfl (by decide) (cok2 trivial (cconst rfl)) ?_
        refine dv (gyes_none rfl) (q_field Try.underlying42 rfl Try.sizeOf3 rfl (s20.rd (j := 0) rfl)) rfl (by decide) (cok1 trivial) ?_
        refine dv (gyes_none rfl) (q_load (v := .int .i64 ((nth z i).2.2.1)) Try.isAgg3 rfl (s20.rd (j := 0) rfl) rfl) rfl (by decide) (cok1 trivial) ?_
        refine dv (gyes_none rfl) (q_imask (m := 63) rfl rfl (by first | decide | omega)) rfl (by decide) (cok2 trivial (cconst rfl)) ?_
        refine dv (gyes_none rfl) (q_field Try.underlying42 rfl Try.sizeOf3 rfl (s20.rd (j := 0) rfl)) rfl (by decide) (cok1 trivial) ?_
        refine dv (gyes_none rfl) (q_load (v := .int .i64 ((nth z i).2.2.2.1)) Try.isAgg3 rfl (s20.rd (j := 0) rfl) rfl) rfl (by decide) (cok1 trivial) ?_
        refine dv (gyes_none rfl) (q_imask (m := 31) rfl rfl (by first | decide | omega)) rfl (by decide) (cok2 trivial (cconst rfl)) ?_
        refine dv (gyes_none rfl) (OpQ.cast (v' := .int .i64 ((imask ((nth z i).2.2.1) 63 + (imask ((nth z i).2.2.2.1) 31) : Nat) : Int)) (q_int rfl rfl rfl) (congrArg _ ((i64_in (by omega)).trans (by first | rfl | omega | (push_cast; rfl))))) rfl (by decide) (cok2 trivial trivial) ?_
        refine dv (gyes_none rfl) (q_as (v := .int .i64 ((imask ((nth z i).2.1) 63 : Nat) : Int)) rfl) rfl (by decide) (cok1 trivial) ?_
        refine dv (gyes_none rfl) (q_as (v := .int .i64 ((imask ((nth z i).2.2.1) 63 + (imask ((nth z i).2.2.2.1) 31) : Nat) : Int)) rfl) rfl (by decide) (cok1 trivial) ?_
        refine ⟨_, Wk.refl _ _, ?_⟩
        show awp _ _ _ _ _ _ _
        refine awp_seq ?_
        have m4 : imask ((nth z i).2.2.1) 63 + (imask ((nth z i).2.2.2.1) 31) ≤ 94 := by omega
        generalize imask ((nth z i).2.2.1) 63 + (imask ((nth z i).2.2.2.1) 31) = hi at m4 ⊢
        generalize imask ((nth z i).2.1) 63 = lo at m1 ⊢
        have hx : SpW (lo, hi) := ⟨by dsimp only; omega, by dsimp only; omega⟩
        refine awp_regs hF ?_
        refine dv (gyes_none rfl) (q_mv (v := .int .i64 ((lo : Nat) : Int)) rfl) rfl (by decide) (cok1 trivial) ?_
        refine dv (gyes_none rfl) (q_convin (a := ((lo : Nat) : Int)) Try.underlying3 Try.underlying27 rfl (u64_in (by omega))) rfl (by decide) (cok1 trivial) ?_
        refine dv (gyes_none rfl) (q_mv (v := .int .i64 ((hi : Nat) : Int)) rfl) rfl (by decide) (cok1 trivial) ?_
        refine dv (gyes_none rfl) (q_convin (a := ((hi : Nat) : Int)) Try.underlying3 Try.underlying27 rfl (u64_in (by omega))) rfl (by decide) (cok1 trivial) ?_
        refine dv (gyes_none rfl) (q_buildL (ds := [.int .u64 ((lo : Nat) : Int), .int .u64 ((hi : Nat) : Int)]) [(0, 1), (1, 1)] [.int .u64 ((lo : Nat) : Int), .int .u64 ((hi : Nat) : Int)] Try.underlying30 Try.zeroValue30 (by first | exact flat_agg rfl | exact flat_scalar rfl) (by kernel_rfl) ⟨rfl, rfl, trivial⟩ (lvsC (by exact trivial) (lvsC (by exact trivial) lvs0)) rfl) rfl (by decide) (cok2 trivial trivial) ?_
        refine x_new (fun b => .pointer (some ⟨b, 0, none⟩)) s20 (gyes_none rfl) (q_alloc (vs := [.int .u64 0, .int .u64 0]) 2 Try.zeroValue30 (by first | exact flat_scalar rfl | exact flat_agg rfl) rfl) rfl (by decide) (by simp [Op.operands, Call.operands]) (fun b21 H22 hb24 s23 => ?_)
        refine x_store [] hF s23 (by kernel_rfl) (gyes_none rfl) (j := 0) (v := .agg #[.int .u64 ((lo : Nat) : Int), .int .u64 ((hi : Nat) : Int)]) rfl Try.sizeOf30 rfl rfl rfl rfl rfl trivial (lcsA ⟨(lc_scalar rfl), (lc_scalar rfl), trivial⟩) (Nat.le_of_ble_eq_true rfl) trivial trivial rfl rfl (F' := [(b21, .cells true [.int .u64 ((lo : Nat) : Int), .int .u64 ((hi : Nat) : Int)] 2), (b15, .cells true [.int .i64 ((nth z i).1), .int .i64 ((nth z i).2.1), .int .i64 ((nth z i).2.2.1), .int .i64 ((nth z i).2.2.2.1), .int .i64 ((nth z i).2.2.2.2)] 5), (bw, .cells true (w.map boolv) 1), (b2, .cells true (fl spc L) 2), (b1, .cells true [.slice (some ⟨b2, 0, none⟩) L.length L.length] 1)]) rfl (fun H25 s26 => ⟨?_, ?_⟩)
        · exact trivial
        refine ⟨_, Wk.refl _ _, ?_⟩
        show awp _ _ _ _ _ _ _
        refine awp_join (fun st => ∃ (H27 : AHeap) (q : Nat), st = ⟨156, U [(0, va), (2, .bool false), (3, .pointer (some ⟨b1, 0, none⟩)), (4, .slice (some ⟨bw, 0, none⟩) w.length w.length), (5, .int .i64 ((i : Nat) : Int)), (6, .pointer (some ⟨b15, 0, none⟩)), (7, .int .i64 ((lo : Nat) : Int)), (8, .int .i64 ((hi : Nat) : Int)), (9, .pointer (some ⟨b21, 0, none⟩))], [], H27⟩ ∧ St H0 (none0) (Rd H0) H27 [(b21, .cells true [.int .u64 ((lo : Nat) : Int), .int .u64 ((hi : Nat) : Int)] 2), (b15, .cells true [.int .i64 ((nth z i).1), .int .i64 ((nth z i).2.1), .int .i64 ((nth z i).2.2.1), .int .i64 ((nth z i).2.2.2.1), .int .i64 ((nth z i).2.2.2.2)] 5), (bw, .cells true (w.map boolv) 1), (b2, .cells true (fl spc L) 2), (b1, .cells true [.slice (some ⟨b2, 0, none⟩) L.length L.length] 1)]) ?j1 ?j2
        case j1 =>
          refine awp_seq ?_
          refine awp_regs hF ?_
          refine dv (gyes_none rfl) (q_loadAgg Try.isAgg30 Try.sizeOf30 rfl (s26.rd (j := 0) rfl) (Nat.le_of_ble_eq_true rfl) rfl) rfl (by decide) (cok1 trivial) ?_
          refine dv (gyes_none rfl) (q_call0 Try.call14 rfl (covers_ok b1 _ L (s26.rd (j := 4) rfl) (s26.slsj (l := L) spc_w (j := 3) rfl rfl (Nat.le_refl _)) (by first | decide | omega) (lo, hi))) rfl (by decide) (call_ok rfl) ?_
          refine dv (gyes_none rfl) (q_mv (v := .int .i64 ((hi : Nat) : Int)) rfl) rfl (by decide) (cok1 trivial) ?_
          refine dv (gyes_none rfl) (q_mv (v := .int .i64 ((lo : Nat) : Int)) rfl) rfl (by decide) (cok1 trivial) ?_
          refine dvb (gyes_none rfl) (q_int rfl rfl rfl) rfl (by decide) (cok2 trivial trivial) (fun c3 => ?_) (fun c3 => ?_)
          ·
            replace c3 := of_decide_eq_true c3
            refine dv (gyes_none rfl) (q_mv (v := .bool true) rfl) rfl (by decide) (cok1 trivial) ?_
            refine dno rfl (.inl rfl) rfl (by decide) ?_
            refine dno rfl (.inl rfl) rfl (by decide) ?_
            refine dno rfl (.inl rfl) rfl (by decide) ?_
            refine dno rfl (.inl rfl) rfl (by decide) ?_
            refine dv (gyes_none rfl) (q_pt (v := .bool true) rfl rfl) rfl (by decide) (call_ok rfl) ?_
            refine dv (gyes_none rfl) (OpQ.cast (v' := .bool false) (q_boolne Try.underlying4 rfl rfl) (congrArg Value.bool (by rw [decide_eq_true (by omega)]; rfl))) rfl (by decide) (cok2 trivial trivial) ?_
            refine dv (gyes_none rfl) (q_mv (v := .bool false) rfl) rfl (by decide) (cok1 trivial) ?_
            refine dv (gyes_some rfl rfl) (q_loadAgg Try.isAgg30 Try.sizeOf30 rfl (s26.rd (j := 0) rfl) (Nat.le_of_ble_eq_true rfl) rfl) rfl (by decide) (cok1 trivial) ?_
            refine dv (gyes_some rfl rfl) (q_call0 Try.call20 rfl (ACalls.castV (v' := .bool (!isV w lo hi false)) (meets_ok b1 _ L (s26.rd (j := 4) rfl) (s26.slsj (l := L) spc_w (j := 3) rfl rfl (Nat.le_refl _)) (by first | decide | omega) (lo, hi)) (congrArg Value.bool (rep_meets hR (by omega))))) rfl (by decide) (call_ok rfl) ?_
            refine dv (gyes_some rfl rfl) (q_mv (v := .int .i64 ((hi : Nat) : Int)) rfl) rfl (by decide) (cok1 trivial) ?_
            refine dv (gyes_some rfl rfl) (q_mv (v := .int .i64 ((lo : Nat) : Int)) rfl) rfl (by decide) (cok1 trivial) ?_
            refine dv (gyes_some rfl rfl) (OpQ.cast (v' := .bool false) (q_int rfl rfl rfl) (congrArg Value.bool (decide_eq_false (by omega)))) rfl (by decide) (cok2 trivial trivial) ?_
            refine dv (gyes_some rfl rfl) (q_mv (v := .bool false) rfl) rfl (by decide) (cok1 trivial) ?_
            refine dno rfl (.inl rfl) rfl (by decide) ?_
            refine dno rfl (.inl rfl) rfl (by decide) ?_
            refine dno rfl (.inl rfl) rfl (by decide) ?_
            refine dno rfl (.inl rfl) rfl (by decide) ?_
            refine dno rfl (.inl rfl) rfl (by decide) ?_
            refine dv (gyes_some rfl rfl) (q_pf (v := .bool false) rfl rfl) rfl (by decide) (call_ok rfl) ?_
            refine dv (gyes_some rfl rfl) (OpQ.cast (v' := .bool false) (q_boolne Try.underlying4 rfl rfl) (congrArg Value.bool (by rw [isV_emp (by omega)]; rfl))) rfl (by decide) (cok2 trivial trivial) ?_
            refine dv (gyes_none rfl) (q_pf (v := .bool false) rfl rfl) rfl (by decide) (call_ok rfl) ?_
            refine ⟨_, Wk.refl _ _, ?_⟩
            show awp _ _ _ _ _ _ _
            refine awp_cond_f rfl ?_
            refine awp_skip_wk ?_
            exact ⟨_, Wk.U [(0, va), (2, .bool false), (3, .pointer (some ⟨b1, 0, none⟩)), (4, .slice (some ⟨bw, 0, none⟩) w.length w.length), (5, .int .i64 ((i : Nat) : Int)), (6, .pointer (some ⟨b15, 0, none⟩)), (7, .int .i64 ((lo : Nat) : Int)), (8, .int .i64 ((hi : Nat) : Int)), (9, .pointer (some ⟨b21, 0, none⟩))] ⟨rfl, rfl, rfl, rfl, rfl, rfl, rfl, rfl, rfl, trivial⟩, ⟨_, 0, rfl, s26⟩⟩
          ·
            replace c3 := of_decide_eq_false c3
            refine dv (gyes_none rfl) (q_mv (v := .bool false) rfl) rfl (by decide) (cok1 trivial) ?_
            refine dv (gyes_some rfl rfl) (q_mv (v := .slice (some ⟨bw, 0, none⟩) w.length w.length) rfl) rfl (by decide) (cok1 trivial) ?_
            refine dv (gyes_some rfl rfl) (q_mv (v := .int .i64 ((lo : Nat) : Int)) rfl) rfl (by decide) (cok1 trivial) ?_
            refine dv (gyes_some rfl rfl) (q_mv (v := .int .i64 ((hi : Nat) : Int)) rfl) rfl (by decide) (cok1 trivial) ?_
            refine dv (gyes_some rfl rfl) (q_call0 Try.call19 rfl (is_ok w _ (s26.slj (j := 2) rfl (by first | rfl | (simp; done) | omega) (by first | exact Nat.le_refl _ | omega)) (by omega) lo hi true (by omega) (by omega))) rfl (by decide) (call_ok rfl) ?_
            refine dv (gyes_none rfl) (q_pf (v := .bool (isV w lo hi true)) rfl rfl) rfl (by decide) (call_ok rfl) ?_
            refine dv (gyes_none rfl) (OpQ.cast (v' := .bool false) (q_boolne Try.underlying4 rfl rfl) (congrArg Value.bool (by rw [decide_eq_false (by omega), Bool.false_or, rep_cov hR hc.1 (by omega) (by omega)]; exact bne_self_eq_false _))) rfl (by decide) (cok2 trivial trivial) ?_
            refine dv (gyes_none rfl) (q_mv (v := .bool false) rfl) rfl (by decide) (cok1 trivial) ?_
            refine dv (gyes_some rfl rfl) (q_loadAgg Try.isAgg30 Try.sizeOf30 rfl (s26.rd (j := 0) rfl) (Nat.le_of_ble_eq_true rfl) rfl) rfl (by decide) (cok1 trivial) ?_
            refine dv (gyes_some rfl rfl) (q_call0 Try.call20 rfl (ACalls.castV (v' := .bool (!isV w lo hi false)) (meets_ok b1 _ L (s26.rd (j := 4) rfl) (s26.slsj (l := L) spc_w (j := 3) rfl rfl (Nat.le_refl _)) (by first | decide | omega) (lo, hi)) (congrArg Value.bool (rep_meets hR (by omega))))) rfl (by decide) (call_ok rfl) ?_
            refine dv (gyes_some rfl rfl) (q_mv (v := .int .i64 ((hi : Nat) : Int)) rfl) rfl (by decide) (cok1 trivial) ?_
            refine dv (gyes_some rfl rfl) (q_mv (v := .int .i64 ((lo : Nat) : Int)) rfl) rfl (by decide) (cok1 trivial) ?_
            refine dv (gyes_some rfl rfl) (OpQ.cast (v' := .bool true) (q_int rfl rfl rfl) (congrArg Value.bool (decide_eq_true (by omega)))) rfl (by decide) (cok2 trivial trivial) ?_
            refine dv (gyes_some rfl rfl) (q_mv (v := .bool true) rfl) rfl (by decide) (cok1 trivial) ?_
            refine dv (gyes_some rfl rfl) (q_mv (v := .slice (some ⟨bw, 0, none⟩) w.length w.length) rfl) rfl (by decide) (cok1 trivial) ?_
            refine dv (gyes_some rfl rfl) (q_mv (v := .int .i64 ((lo : Nat) : Int)) rfl) rfl (by decide) (cok1 trivial) ?_
            refine dv (gyes_some rfl rfl) (q_mv (v := .int .i64 ((hi : Nat) : Int)) rfl) rfl (by decide) (cok1 trivial) ?_
            refine dv (gyes_some rfl rfl) (q_call0 Try.call19 rfl (is_ok w _ (s26.slj (j := 2) rfl (by first | rfl | (simp; done) | omega) (by first | exact Nat.le_refl _ | omega)) (by omega) lo hi false (by omega) (by omega))) rfl (by decide) (call_ok rfl) ?_
            refine dv (gyes_some rfl rfl) (q_not (b := (isV w lo hi false)) rfl) rfl (by decide) (cok1 trivial) ?_
            refine dv (gyes_some rfl rfl) (q_pt (v := .bool (!isV w lo hi false)) rfl rfl) rfl (by decide) (call_ok rfl) ?_
            refine dv (gyes_some rfl rfl) (OpQ.cast (v' := .bool false) (q_boolne Try.underlying4 rfl rfl) (congrArg Value.bool (bne_self_eq_false _))) rfl (by decide) (cok2 trivial trivial) ?_
            refine dv (gyes_none rfl) (q_pf (v := .bool false) rfl rfl) rfl (by decide) (call_ok rfl) ?_
            refine ⟨_, Wk.refl _ _, ?_⟩
            show awp _ _ _ _ _ _ _
            refine awp_cond_f rfl ?_
            refine awp_skip_wk ?_
            exact ⟨_, Wk.U [(0, va), (2, .bool false), (3, .pointer (some ⟨b1, 0, none⟩)), (4, .slice (some ⟨bw, 0, none⟩) w.length w.length), (5, .int .i64 ((i : Nat) : Int)), (6, .pointer (some ⟨b15, 0, none⟩)), (7, .int .i64 ((lo : Nat) : Int)), (8, .int .i64 ((hi : Nat) : Int)), (9, .pointer (some ⟨b21, 0, none⟩))] ⟨rfl, rfl, rfl, rfl, rfl, rfl, rfl, rfl, rfl, trivial⟩, ⟨_, 0, rfl, s26⟩⟩
        case j2 =>
          rintro _ ⟨H27, q, rfl, s28⟩
          refine awp_seq ?_
          refine awp_seq ?_
          have ht4 := tmod4 (nth z i).1
          refine awp_regs hF ?_
          refine dv (gyes_none rfl) (q_field Try.underlying42 rfl Try.sizeOf3 rfl (s28.rd (j := 1) rfl)) rfl (by decide) (cok1 trivial) ?_
          refine dv (gyes_none rfl) (q_load (v := .int .i64 ((nth z i).1)) Try.isAgg3 rfl (s28.rd (j := 1) rfl) rfl) rfl (by decide) (cok1 trivial) ?_
          refine dv (gyes_none rfl) (OpQ.cast (v' := .int .i64 (Int.tmod (nth z i).1 4)) (q_rem rfl rfl (by decide)) rfl) rfl (by decide) (cok2 trivial (cconst rfl)) ?_
          refine dv (gyes_none rfl) (OpQ.cast (v' := .int .i64 ((Int.tmod (nth z i).1 4) + 4)) (q_int rfl rfl rfl) (congrArg _ (i64_in (by omega)))) rfl (by decide) (cok2 trivial (cconst rfl)) ?_
          refine dv (gyes_none rfl) (OpQ.cast (v' := .int .i64 (Int.tmod (Int.tmod (nth z i).1 4 + 4) 4)) (q_rem rfl rfl (by decide)) rfl) rfl (by decide) (cok2 trivial (cconst rfl)) ?_
          refine ⟨_, Wk.refl _ _, ?_⟩
          show awp _ _ _ _ _ _ _
          refine awp_block ?_
          refine awp_seq ?_
          refine awp_regs hF ?_
          refine dvb (gyes_none rfl) (q_int rfl rfl rfl) rfl (by decide) (cok2 trivial (cconst rfl)) (fun c4 => ?_) (fun c4 => ?_)
          ·
            replace c4 := eq_of_beq c4
            refine dv (gyes_none rfl) (q_as (v := .bool true) rfl) rfl (by decide) (cok1 trivial) ?_
            refine ⟨_, Wk.refl _ _, ?_⟩
            show awp _ _ _ _ _ _ _
            refine awp_cond_t rfl ?_
            refine awp_seq ?_
            refine awp_regs hF ?_
            refine dv (gyes_none rfl) (q_mv (v := .int .i64 ((hi : Nat) : Int)) rfl) rfl (by decide) (cok1 trivial) ?_
            refine dv (gyes_none rfl) (q_mv (v := .int .i64 ((lo : Nat) : Int)) rfl) rfl (by decide) (cok1 trivial) ?_
            refine dvb (gyes_none rfl) (q_int rfl rfl rfl) rfl (by decide) (cok2 trivial trivial) (fun c5 => ?_) (fun c5 => ?_)
            ·
              replace c5 := of_decide_eq_true c5
              refine dv (gyes_none rfl) (q_mv (v := .bool true) rfl) rfl (by decide) (cok1 trivial) ?_
              refine dv (gyes_some rfl rfl) (q_mv (v := .slice (some ⟨bw, 0, none⟩) w.length w.length) rfl) rfl (by decide) (cok1 trivial) ?_
              refine dv (gyes_some rfl rfl) (q_mv (v := .int .i64 ((lo : Nat) : Int)) rfl) rfl (by decide) (cok1 trivial) ?_
              refine dv (gyes_some rfl rfl) (q_mv (v := .int .i64 ((hi : Nat) : Int)) rfl) rfl (by decide) (cok1 trivial) ?_
              refine dvb (gyes_some rfl rfl) (q_call0 Try.call19 rfl (is_ok w _ (s28.slj (j := 2) rfl (by first | rfl | (simp; done) | omega) (by first | exact Nat.le_refl _ | omega)) (by omega) lo hi true (by omega) (by omega))) rfl (by decide) (call_ok rfl) (fun c6 => ?_) (fun c6 => ?_)
              ·
                refine dv (gyes_none rfl) (q_pt (v := .bool true) rfl rfl) rfl (by decide) (call_ok rfl) ?_
                refine dv (gyes_none rfl) (q_as (v := .bool true) rfl) rfl (by decide) (cok1 trivial) ?_
                refine ⟨_, Wk.refl _ _, ?_⟩
                show awp _ _ _ _ _ _ _
                refine awp_seq ?_
                refine awp_seq ?_
                refine awp_regs hF ?_
                refine dv (gyes_none rfl) (q_loadAgg Try.isAgg30 Try.sizeOf30 rfl (s28.rd (j := 0) rfl) (Nat.le_of_ble_eq_true rfl) rfl) rfl (by decide) (cok1 trivial) ?_
                refine x_call [] hF (by kernel_rfl) (gyes_none rfl) Try.call21 rfl (args := [.pointer (some ⟨b1, 0, none⟩), .agg #[.int .u64 ((lo : Nat) : Int), .int .u64 ((hi : Nat) : Int)]]) rfl (remove_ok b1 b2 L (by first | decide | omega) (nod2 (s28.nej (i := 4) (j := 3) rfl rfl (by decide))) (s28.getj (j := 4) rfl) (s28.getj (j := 3) rfl) (lo, hi)) (show _ < _ by decide) (call_ok rfl) rfl rfl (fun _ _ _ _ hd => by cases hd) ?_
                rintro _ H29 ⟨ok38, L39, b30, rfl, hr31, hk32, ho33, hn34, h35, h36⟩
                have s37 := s28.turn2 (j9 := 4) (jl := 3) rfl rfl (by decide) hk32 ho33 hn34 h35 h36
                have hv := remR_v hr31 hc.1 hc.2 hx
                have hlen := hv.len
                obtain rfl : ok38 = true := hv.is.trans (by dsimp only; rw [decide_eq_false (by omega), rep_cov hR hc.1 (by omega) (by omega), ‹isV w lo hi true = true›]; rfl)
                have hR2 := rep_rem hR (by omega) hv ‹isV w lo hi true = true›
                refine ⟨trivial, ?_⟩
                show dList _ _ _ _ _ _ _ _ _ _
                refine dv (gyes_none rfl) (q_mv (v := .bool true) rfl) rfl (by decide) (cok1 trivial) ?_
                refine dv (gyes_none rfl) (OpQ.cast (v' := .bool false) (q_boolne Try.underlying4 rfl rfl) rfl) rfl (by decide) (cok2 trivial trivial) ?_
                refine ⟨_, Wk.refl _ _, ?_⟩
                show awp _ _ _ _ _ _ _
                refine awp_cond_f rfl ?_
                refine awp_skip_wk ?_
                refine ⟨_, Wk.refl _ _, ?_⟩
                show awp _ _ _ _ _ _ _
                refine awp_seq ?_
                refine awp_regs hF ?_
                refine dv (gyes_none rfl) (q_mv (v := .bool true) rfl) rfl (by decide) (cok1 trivial) ?_
                refine ⟨_, Wk.refl _ _, ?_⟩
                show awp _ _ _ _ _ _ _
                refine awp_cond_t rfl ?_
                refine awp_regs hF ?_
                refine dv (gyes_none rfl) (q_mv (v := .slice (some ⟨bw, 0, none⟩) w.length w.length) rfl) rfl (by decide) (cok1 trivial) ?_
                refine dv (gyes_none rfl) (q_mv (v := .int .i64 ((lo : Nat) : Int)) rfl) rfl (by decide) (cok1 trivial) ?_
                refine dv (gyes_none rfl) (q_mv (v := .int .i64 ((hi : Nat) : Int)) rfl) rfl (by decide) (cok1 trivial) ?_
                refine x_new (fun b => .slice (some ⟨b, 0, none⟩) (turnV w lo hi).length (turnV w lo hi).length) s37 (gyes_none rfl) (q_call (Δ := [.cells true ((turnV w lo hi).map boolv) 1]) Try.call22 rfl (by simp [AObj.wr]) (acalls_fresh boolv_sc (turn_ok w _ (s37.slj (j := 2) rfl (by first | rfl | (simp; done) | omega) (by first | exact Nat.le_refl _ | omega)) (by omega) lo hi (by omega) (by omega)))) rfl (by decide) (call_ok rfl) (fun b40 H41 hb43 s42 => ?_)
                refine dv (gyes_none rfl) (q_as (v := .slice (some ⟨b40, 0, none⟩) ((turnV w lo hi).length) ((turnV w lo hi).length)) rfl) rfl (by decide) (cok1 trivial) ?_
                refine ⟨_, Wk.refl _ _, ?_⟩
                show awp _ _ _ _ _ _ _
                refine awp_seq ?_
                have hRe : Rep (turnV w lo hi) L39 := by first | exact hR2 | exact hR
                have hce : Canon L39 := by first | exact hv.canon | exact hc.1
                have hse : ∀ y ∈ L39, SpW y := by first | exact hv.spw | exact hc.2
                have hle := rep_len hRe hce
                have hwe := hRe.len
                refine awp_regs hF ?_
                refine dv (gyes_none rfl) (q_mv (v := .slice (some ⟨b40, 0, none⟩) ((turnV w lo hi).length) ((turnV w lo hi).length)) rfl) rfl (by decide) (cok1 trivial) ?_
                refine dv (gyes_none rfl) (q_call0 Try.call25 rfl (same_ok _ _ L39 (s42.rd (j := 5) rfl) (s42.slsj (l := L39) spc_w (j := 4) rfl rfl (Nat.le_refl _)) (by omega) (fun x hx => by have q1 := hRe.hi x hx; have q2 := hce.1 x hx; omega) (turnV w lo hi) _ (s42.slj (j := 0) rfl (by first | rfl | (simp; done) | omega) (by first | exact Nat.le_refl _ | omega)) (by omega) (rep_spans hRe hce))) rfl (by decide) (call_ok rfl) ?_
                refine dv (gyes_none rfl) (q_not (b := true) rfl) rfl (by decide) (cok1 trivial) ?_
                refine ⟨_, Wk.refl _ _, ?_⟩
                show awp _ _ _ _ _ _ _
                refine awp_cond_f rfl ?_
                refine awp_skip_wk ?_
                refine ⟨_, Wk.refl _ _, ?_⟩
                show awp _ _ _ _ _ _ _
                refine awp_regs hF ?_
                refine dv (gyes_none rfl) (q_mv (v := .int .i64 ((i : Nat) : Int)) rfl) rfl (by decide) (cok1 trivial) ?_
                refine dv (gyes_none rfl) (OpQ.cast (v' := .int .i64 ((i + 1 : Nat) : Int)) (q_int rfl rfl rfl) (congrArg _ ((i64_in (by omega)).trans (by first | rfl | omega | (push_cast; rfl))))) rfl (by decide) (cok2 trivial (cconst rfl)) ?_
                refine dv (gyes_none rfl) (q_as (v := .int .i64 ((i + 1 : Nat) : Int)) rfl) rfl (by decide) (cok1 trivial) ?_
                refine ⟨_, Wk.U [(0, va), (2, .bool false), (3, .pointer (some ⟨b1, 0, none⟩)), (4, .slice (some ⟨b40, 0, none⟩) ((turnV w lo hi).length) ((turnV w lo hi).length)), (5, .int .i64 (((i + 1) : Nat) : Int))] ⟨rfl, rfl, rfl, rfl, rfl, trivial⟩, ((i + 1), (turnV w lo hi), L39), ⟨_, _, _, rfl, (s42.sub (.cons_cons _ (.cons _ (.cons _ (.cons _ (.cons_cons _ (.cons_cons _ (.refl _)))))))), ⟨hce, hse⟩, hRe⟩, (by omega)⟩
              ·
                refine dv (gyes_none rfl) (q_pt (v := .bool false) rfl rfl) rfl (by decide) (call_ok rfl) ?_
                refine dv (gyes_none rfl) (q_as (v := .bool false) rfl) rfl (by decide) (cok1 trivial) ?_
                refine ⟨_, Wk.refl _ _, ?_⟩
                show awp _ _ _ _ _ _ _
                refine awp_seq ?_
                refine awp_seq ?_
                refine awp_regs hF ?_
                refine dv (gyes_none rfl) (q_loadAgg Try.isAgg30 Try.sizeOf30 rfl (s28.rd (j := 0) rfl) (Nat.le_of_ble_eq_true rfl) rfl) rfl (by decide) (cok1 trivial) ?_
                refine x_call [] hF (by kernel_rfl) (gyes_none rfl) Try.call21 rfl (args := [.pointer (some ⟨b1, 0, none⟩), .agg #[.int .u64 ((lo : Nat) : Int), .int .u64 ((hi : Nat) : Int)]]) rfl (remove_ok b1 b2 L (by first | decide | omega) (nod2 (s28.nej (i := 4) (j := 3) rfl rfl (by decide))) (s28.getj (j := 4) rfl) (s28.getj (j := 3) rfl) (lo, hi)) (show _ < _ by decide) (call_ok rfl) rfl rfl (fun _ _ _ _ hd => by cases hd) ?_
                rintro _ H44 ⟨ok53, L54, b45, rfl, hr46, hk47, ho48, hn49, h50, h51⟩
                have s52 := s28.turn2 (j9 := 4) (jl := 3) rfl rfl (by decide) hk47 ho48 hn49 h50 h51
                have hv := remR_v hr46 hc.1 hc.2 hx
                have hlen := hv.len
                obtain rfl : ok53 = false := hv.is.trans (by dsimp only; first | (rw [decide_eq_true (by omega)]; rfl) | (rw [decide_eq_false (by omega), rep_cov hR hc.1 (by omega) (by omega), ‹isV w lo hi true = false›]; rfl))
                have hR2 := rep_sameR hR hv
                refine ⟨trivial, ?_⟩
                show dList _ _ _ _ _ _ _ _ _ _
                refine dv (gyes_none rfl) (q_mv (v := .bool false) rfl) rfl (by decide) (cok1 trivial) ?_
                refine dv (gyes_none rfl) (OpQ.cast (v' := .bool false) (q_boolne Try.underlying4 rfl rfl) rfl) rfl (by decide) (cok2 trivial trivial) ?_
                refine ⟨_, Wk.refl _ _, ?_⟩
                show awp _ _ _ _ _ _ _
                refine awp_cond_f rfl ?_
                refine awp_skip_wk ?_
                refine ⟨_, Wk.refl _ _, ?_⟩
                show awp _ _ _ _ _ _ _
                refine awp_seq ?_
                refine awp_regs hF ?_
                refine dv (gyes_none rfl) (q_mv (v := .bool false) rfl) rfl (by decide) (cok1 trivial) ?_
                refine ⟨_, Wk.refl _ _, ?_⟩
                show awp _ _ _ _ _ _ _
                refine awp_cond_f rfl ?_
                refine awp_skip_wk ?_
                refine ⟨_, Wk.refl _ _, ?_⟩
                show awp _ _ _ _ _ _ _
                refine awp_seq ?_
                have hRe : Rep w L54 := by first | exact hR2 | exact hR
                have hce : Canon L54 := by first | exact hv.canon | exact hc.1
                have hse : ∀ y ∈ L54, SpW y := by first | exact hv.spw | exact hc.2
                have hle := rep_len hRe hce
                have hwe := hRe.len
                refine awp_regs hF ?_
                refine dv (gyes_none rfl) (q_mv (v := .slice (some ⟨bw, 0, none⟩) w.length w.length) rfl) rfl (by decide) (cok1 trivial) ?_
                refine dv (gyes_none rfl) (q_call0 Try.call25 rfl (same_ok _ _ L54 (s52.rd (j := 4) rfl) (s52.slsj (l := L54) spc_w (j := 3) rfl rfl (Nat.le_refl _)) (by omega) (fun x hx => by have q1 := hRe.hi x hx; have q2 := hce.1 x hx; omega) w _ (s52.slj (j := 2) rfl (by first | rfl | (simp; done) | omega) (by first | exact Nat.le_refl _ | omega)) (by omega) (rep_spans hRe hce))) rfl (by decide) (call_ok rfl) ?_
                refine dv (gyes_none rfl) (q_not (b := true) rfl) rfl (by decide) (cok1 trivial) ?_
                refine ⟨_, Wk.refl _ _, ?_⟩
                show awp _ _ _ _ _ _ _
                refine awp_cond_f rfl ?_
                refine awp_skip_wk ?_
                refine ⟨_, Wk.refl _ _, ?_⟩
                show awp _ _ _ _ _ _ _
                refine awp_regs hF ?_
                refine dv (gyes_none rfl) (q_mv (v := .int .i64 ((i : Nat) : Int)) rfl) rfl (by decide) (cok1 trivial) ?_
                refine dv (gyes_none rfl) (OpQ.cast (v' := .int .i64 ((i + 1 : Nat) : Int)) (q_int rfl rfl rfl) (congrArg _ ((i64_in (by omega)).trans (by first | rfl | omega | (push_cast; rfl))))) rfl (by decide) (cok2 trivial (cconst rfl)) ?_
                refine dv (gyes_none rfl) (q_as (v := .int .i64 ((i + 1 : Nat) : Int)) rfl) rfl (by decide) (cok1 trivial) ?_
                refine ⟨_, Wk.U [(0, va), (2, .bool false), (3, .pointer (some ⟨b1, 0, none⟩)), (4, .slice (some ⟨bw, 0, none⟩) w.length w.length), (5, .int .i64 (((i + 1) : Nat) : Int))] ⟨rfl, rfl, rfl, rfl, rfl, trivial⟩, ((i + 1), w, L54), ⟨_, _, _, rfl, (s52.sub (.cons _ (.cons _ (.cons_cons _ (.cons_cons _ (.cons_cons _ (.refl _))))))), ⟨hce, hse⟩, hRe⟩, (by omega)⟩
            ·
              replace c5 := of_decide_eq_false c5
              refine dv (gyes_none rfl) (q_mv (v := .bool false) rfl) rfl (by decide) (cok1 trivial) ?_
              refine dno rfl (.inl rfl) rfl (by decide) ?_
              refine dno rfl (.inl rfl) rfl (by decide) ?_
              refine dno rfl (.inl rfl) rfl (by decide) ?_
              refine dno rfl (.inl rfl) rfl (by decide) ?_
              refine dv (gyes_none rfl) (q_pf (v := .bool false) rfl rfl) rfl (by decide) (call_ok rfl) ?_
              refine dv (gyes_none rfl) (q_as (v := .bool false) rfl) rfl (by decide) (cok1 trivial) ?_
              refine ⟨_, Wk.refl _ _, ?_⟩
              show awp _ _ _ _ _ _ _
              refine awp_seq ?_
              refine awp_seq ?_
              refine awp_regs hF ?_
              refine dv (gyes_none rfl) (q_loadAgg Try.isAgg30 Try.sizeOf30 rfl (s28.rd (j := 0) rfl) (Nat.le_of_ble_eq_true rfl) rfl) rfl (by decide) (cok1 trivial) ?_
              refine x_call [] hF (by kernel_rfl) (gyes_none rfl) Try.call21 rfl (args := [.pointer (some ⟨b1, 0, none⟩), .agg #[.int .u64 ((lo : Nat) : Int), .int .u64 ((hi : Nat) : Int)]]) rfl (remove_ok b1 b2 L (by first | decide | omega) (nod2 (s28.nej (i := 4) (j := 3) rfl rfl (by decide))) (s28.getj (j := 4) rfl) (s28.getj (j := 3) rfl) (lo, hi)) (show _ < _ by decide) (call_ok rfl) rfl rfl (fun _ _ _ _ hd => by cases hd) ?_
              rintro _ H55 ⟨ok64, L65, b56, rfl, hr57, hk58, ho59, hn60, h61, h62⟩
              have s63 := s28.turn2 (j9 := 4) (jl := 3) rfl rfl (by decide) hk58 ho59 hn60 h61 h62
              have hv := remR_v hr57 hc.1 hc.2 hx
              have hlen := hv.len
              obtain rfl : ok64 = false := hv.is.trans (by dsimp only; first | (rw [decide_eq_true (by omega)]; rfl) | (rw [decide_eq_false (by omega), rep_cov hR hc.1 (by omega) (by omega), ‹isV w lo hi true = false›]; rfl))
              have hR2 := rep_sameR hR hv
              refine ⟨trivial, ?_⟩
              show dList _ _ _ _ _ _ _ _ _ _
              refine dv (gyes_none rfl) (q_mv (v := .bool false) rfl) rfl (by decide) (cok1 trivial) ?_
              refine dv (gyes_none rfl) (OpQ.cast (v' := .bool false) (q_boolne Try.underlying4 rfl rfl) rfl) rfl (by decide) (cok2 trivial trivial) ?_
              refine ⟨_, Wk.refl _ _, ?_⟩
              show awp _ _ _ _ _ _ _
              refine awp_cond_f rfl ?_
              refine awp_skip_wk ?_
              refine ⟨_, Wk.refl _ _, ?_⟩
              show awp _ _ _ _ _ _ _
              refine awp_seq ?_
              refine awp_regs hF ?_
              refine dv (gyes_none rfl) (q_mv (v := .bool false) rfl) rfl (by decide) (cok1 trivial) ?_
              refine ⟨_, Wk.refl _ _, ?_⟩
              show awp _ _ _ _ _ _ _
              refine awp_cond_f rfl ?_
              refine awp_skip_wk ?_
              refine ⟨_, Wk.refl _ _, ?_⟩
              show awp _ _ _ _ _ _ _
              refine awp_seq ?_
              have hRe : Rep w L65 := by first | exact hR2 | exact hR
              have hce : Canon L65 := by first | exact hv.canon | exact hc.1
              have hse : ∀ y ∈ L65, SpW y := by first | exact hv.spw | exact hc.2
              have hle := rep_len hRe hce
              have hwe := hRe.len
              refine awp_regs hF ?_
              refine dv (gyes_none rfl) (q_mv (v := .slice (some ⟨bw, 0, none⟩) w.length w.length) rfl) rfl (by decide) (cok1 trivial) ?_
              refine dv (gyes_none rfl) (q_call0 Try.call25 rfl (same_ok _ _ L65 (s63.rd (j := 4) rfl) (s63.slsj (l := L65) spc_w (j := 3) rfl rfl (Nat.le_refl _)) (by omega) (fun x hx => by have q1 := hRe.hi x hx; have q2 := hce.1 x hx; omega) w _ (s63.slj (j := 2) rfl (by first | rfl | (simp; done) | omega) (by first | exact Nat.le_refl _ | omega)) (by omega) (rep_spans hRe hce))) rfl (by decide) (call_ok rfl) ?_
              refine dv (gyes_none rfl) (q_not (b := true) rfl) rfl (by decide) (cok1 trivial) ?_
              refine ⟨_, Wk.refl _ _, ?_⟩
              show awp _ _ _ _ _ _ _
              refine awp_cond_f rfl ?_
              refine awp_skip_wk ?_
              refine ⟨_, Wk.refl _ _, ?_⟩
              show awp _ _ _ _ _ _ _
              refine awp_regs hF ?_
              refine dv (gyes_none rfl) (q_mv (v := .int .i64 ((i : Nat) : Int)) rfl) rfl (by decide) (cok1 trivial) ?_
              refine dv (gyes_none rfl) (OpQ.cast (v' := .int .i64 ((i + 1 : Nat) : Int)) (q_int rfl rfl rfl) (congrArg _ ((i64_in (by omega)).trans (by first | rfl | omega | (push_cast; rfl))))) rfl (by decide) (cok2 trivial (cconst rfl)) ?_
              refine dv (gyes_none rfl) (q_as (v := .int .i64 ((i + 1 : Nat) : Int)) rfl) rfl (by decide) (cok1 trivial) ?_
              refine ⟨_, Wk.U [(0, va), (2, .bool false), (3, .pointer (some ⟨b1, 0, none⟩)), (4, .slice (some ⟨bw, 0, none⟩) w.length w.length), (5, .int .i64 (((i + 1) : Nat) : Int))] ⟨rfl, rfl, rfl, rfl, rfl, trivial⟩, ((i + 1), w, L65), ⟨_, _, _, rfl, (s63.sub (.cons _ (.cons _ (.cons_cons _ (.cons_cons _ (.cons_cons _ (.refl _))))))), ⟨hce, hse⟩, hRe⟩, (by omega)⟩
          ·
            replace c4 := ne_of_beq_false c4
            refine dv (gyes_none rfl) (q_as (v := .bool false) rfl) rfl (by decide) (cok1 trivial) ?_
            refine ⟨_, Wk.refl _ _, ?_⟩
            show awp _ _ _ _ _ _ _
            refine awp_cond_f rfl ?_
            refine awp_seq ?_
            refine awp_regs hF ?_
            refine dvb (gyes_none rfl) (q_int rfl rfl rfl) rfl (by decide) (cok2 trivial (cconst rfl)) (fun c7 => ?_) (fun c7 => ?_)
            ·
              replace c7 := eq_of_beq c7
              refine dv (gyes_none rfl) (q_as (v := .bool true) rfl) rfl (by decide) (cok1 trivial) ?_
              refine ⟨_, Wk.refl _ _, ?_⟩
              show awp _ _ _ _ _ _ _
              refine awp_cond_t rfl ?_
              refine awp_seq ?_
              have m5 := imask_le (nth z i).2.2.2.1 15
              have m6 := imask_le (nth z i).2.2.2.2 7
              refine awp_regt hF hM (by kernel_rfl) (by kernel_rfl) ?_
              refine dv (gyes_none rfl) (q_field Try.underlying42 rfl Try.sizeOf3 rfl (s28.rd (j := 1) rfl)) rfl (by decide) (cok1 trivial) ?_
              refine dv (gyes_none rfl) (q_load (v := .int .i64 ((nth z i).2.2.2.1)) Try.isAgg3 rfl (s28.rd (j := 1) rfl) rfl) rfl (by decide) (cok1 trivial) ?_
              refine dv (gyes_none rfl) (q_imask (m := 15) rfl rfl (by first | decide | omega)) rfl (by decide) (cok2 trivial (cconst rfl)) ?_
              refine dv (gyes_none rfl) (q_field Try.underlying42 rfl Try.sizeOf3 rfl (s28.rd (j := 1) rfl)) rfl (by decide) (cok1 trivial) ?_
              refine dv (gyes_none rfl) (q_load (v := .int .i64 ((nth z i).2.2.2.2)) Try.isAgg3 rfl (s28.rd (j := 1) rfl) rfl) rfl (by decide) (cok1 trivial) ?_
              refine dv (gyes_none rfl) (q_imask (m := 7) rfl rfl (by first | decide | omega)) rfl (by decide) (cok2 trivial (cconst rfl)) ?_
              refine dv (gyes_none rfl) (q_as (v := .int .i64 ((imask ((nth z i).2.2.2.1) 15 : Nat) : Int)) rfl) rfl (by decide) (cok1 trivial) ?_
              refine dv (gyes_none rfl) (q_as (v := .int .i64 ((imask ((nth z i).2.2.2.2) 7 : Nat) : Int)) rfl) rfl (by decide) (cok1 trivial) ?_
              refine ⟨_, Wk.refl _ _, ?_⟩
              show awp _ _ _ _ _ _ _
              refine awp_seq ?_
              refine awp_regs hF ?_
              refine dv (gyes_none rfl) (q_mv (v := .int .i64 ((imask ((nth z i).2.2.2.1) 15 : Nat) : Int)) rfl) rfl (by decide) (cok1 trivial) ?_
              refine dv (gyes_none rfl) (q_convin (a := ((imask ((nth z i).2.2.2.1) 15 : Nat) : Int)) Try.underlying3 Try.underlying27 rfl (u64_in (by omega))) rfl (by decide) (cok1 trivial) ?_
              refine dv (gyes_none rfl) (q_mv (v := .int .i64 ((imask ((nth z i).2.2.2.2) 7 : Nat) : Int)) rfl) rfl (by decide) (cok1 trivial) ?_
              refine dv (gyes_none rfl) (q_convin (a := ((imask ((nth z i).2.2.2.2) 7 : Nat) : Int)) Try.underlying3 Try.underlying27 rfl (u64_in (by omega))) rfl (by decide) (cok1 trivial) ?_
              refine dv (gyes_none rfl) (q_loadAgg Try.isAgg30 Try.sizeOf30 rfl (s28.rd (j := 0) rfl) (Nat.le_of_ble_eq_true rfl) rfl) rfl (by decide) (cok1 trivial) ?_
              refine dv (gyes_none rfl) (q_call0 Try.call23 rfl (fit_ok b1 _ L (s28.rd (j := 4) rfl) (s28.slsj (l := L) spc_w (j := 3) rfl rfl (Nat.le_refl _)) (by first | decide | omega) hc.2 (imask (nth z i).2.2.2.1 15) (imask (nth z i).2.2.2.2 7) (lo, hi) (by omega) (by omega) hx)) rfl (by decide) (call_ok rfl) ?_
              refine dv (gyes_none rfl) (q_mv (v := .tuple #[.int .u64 (((fitV (imask (nth z i).2.2.2.1 15) (imask (nth z i).2.2.2.2 7) (lo, hi) L).1 : Nat) : Int), .bool ((fitV (imask (nth z i).2.2.2.1 15) (imask (nth z i).2.2.2.2 7) (lo, hi) L).2)]) rfl) rfl (by decide) (cok1 trivial) ?_
              refine dv (gyes_none rfl) (q_extract (v := .int .u64 (((fitV (imask (nth z i).2.2.2.1 15) (imask (nth z i).2.2.2.2 7) (lo, hi) L).1 : Nat) : Int)) rfl rfl) rfl (by decide) (cok1 trivial) ?_
              refine dv (gyes_none rfl) (q_extract (v := .bool ((fitV (imask (nth z i).2.2.2.1 15) (imask (nth z i).2.2.2.2 7) (lo, hi) L).2)) rfl rfl) rfl (by decide) (cok1 trivial) ?_
              refine dv (gyes_none rfl) (q_as (v := .int .u64 (((fitV (imask (nth z i).2.2.2.1 15) (imask (nth z i).2.2.2.2 7) (lo, hi) L).1 : Nat) : Int)) rfl) rfl (by decide) (cok1 trivial) ?_
              refine dv (gyes_none rfl) (q_as (v := .bool ((fitV (imask (nth z i).2.2.2.1 15) (imask (nth z i).2.2.2.2 7) (lo, hi) L).2)) rfl) rfl (by decide) (cok1 trivial) ?_
              refine ⟨_, Wk.refl _ _, ?_⟩
              show awp _ _ _ _ _ _ _
              refine awp_seq ?_
              refine awp_regs hF ?_
              refine dv (gyes_none rfl) (q_mv (v := .slice (some ⟨bw, 0, none⟩) w.length w.length) rfl) rfl (by decide) (cok1 trivial) ?_
              refine dv (gyes_none rfl) (q_mv (v := .int .i64 ((imask ((nth z i).2.2.2.1) 15 : Nat) : Int)) rfl) rfl (by decide) (cok1 trivial) ?_
              refine dv (gyes_none rfl) (q_mv (v := .int .i64 ((imask ((nth z i).2.2.2.2) 7 : Nat) : Int)) rfl) rfl (by decide) (cok1 trivial) ?_
              refine dv (gyes_none rfl) (q_mv (v := .int .i64 ((lo : Nat) : Int)) rfl) rfl (by decide) (cok1 trivial) ?_
              refine dv (gyes_none rfl) (q_mv (v := .int .i64 ((hi : Nat) : Int)) rfl) rfl (by decide) (cok1 trivial) ?_
              refine dv (gyes_none rfl) (q_call0 Try.call24 rfl (rfit_ok w _ (s28.slj (j := 2) rfl (by first | rfl | (simp; done) | omega) (by first | exact Nat.le_refl _ | omega)) (by omega) (imask (nth z i).2.2.2.1 15) (imask (nth z i).2.2.2.2 7) lo hi (by omega) (by omega) (by omega) (by omega))) rfl (by decide) (call_ok rfl) ?_
              refine dv (gyes_none rfl) (q_as (v := .int .i64 (rfitV w (imask (nth z i).2.2.2.1 15) (imask (nth z i).2.2.2.2 7) lo hi)) rfl) rfl (by decide) (cok1 trivial) ?_
              refine ⟨_, Wk.refl _ _, ?_⟩
              show awp _ _ _ _ _ _ _
              refine awp_seq ?_
              obtain ⟨hf1, hf2, hf3⟩ := rep_fit hR hc.1 hc.2 (n := imask (nth z i).2.2.2.1 15) (al := imask (nth z i).2.2.2.2 7) (lo := lo) (hi := hi) (by omega) (by omega) (by omega)
              refine awp_regs hF ?_
              refine dv (gyes_none rfl) (q_mv (v := .bool ((fitV (imask (nth z i).2.2.2.1 15) (imask (nth z i).2.2.2.2 7) (lo, hi) L).2)) rfl) rfl (by decide) (cok1 trivial) ?_
              refine dv (gyes_none rfl) (q_mv (v := .int .i64 (rfitV w (imask (nth z i).2.2.2.1 15) (imask (nth z i).2.2.2.2 7) lo hi)) rfl) rfl (by decide) (cok1 trivial) ?_
              refine dv (gyes_none rfl) (q_int rfl rfl rfl) rfl (by decide) (cok2 trivial (cconst rfl)) ?_
              refine dv (gyes_none rfl) (OpQ.cast (v' := .bool false) (q_boolne Try.underlying4 rfl rfl) (congrArg Value.bool (bne_eq_false_iff_eq.2 hf1))) rfl (by decide) (cok2 trivial trivial) ?_
              refine dv (gyes_none rfl) (q_mv (v := .bool false) rfl) rfl (by decide) (cok1 trivial) ?_
              refine dv (gyes_some rfl rfl) (q_mv (v := .int .u64 (((fitV (imask (nth z i).2.2.2.1 15) (imask (nth z i).2.2.2.2 7) (lo, hi) L).1 : Nat) : Int)) rfl) rfl (by decide) (cok1 trivial) ?_
              refine dv (gyes_some rfl rfl) (q_mv (v := .int .i64 (rfitV w (imask (nth z i).2.2.2.1 15) (imask (nth z i).2.2.2.2 7) lo hi)) rfl) rfl (by decide) (cok1 trivial) ?_
              refine dv (gyes_some rfl rfl) (OpQ.cast (v' := .int .i64 (((fitV (imask (nth z i).2.2.2.1 15) (imask (nth z i).2.2.2.2 7) (lo, hi) L).1 : Nat) : Int)) (q_max rfl rfl) (congrArg (Value.int .i64) hf2)) rfl (by decide) (cok2 trivial (cconst rfl)) ?_
              refine dv (gyes_some rfl rfl) (q_convin (a := (((fitV (imask (nth z i).2.2.2.1 15) (imask (nth z i).2.2.2.2 7) (lo, hi) L).1 : Nat) : Int)) Try.underlying3 Try.underlying27 rfl (u64_in (by omega))) rfl (by decide) (cok1 trivial) ?_
              refine dv (gyes_some rfl rfl) (OpQ.cast (v' := .bool false) (q_int rfl rfl rfl) (congrArg Value.bool (bne_self_eq_false _))) rfl (by decide) (cok2 trivial trivial) ?_
              refine dv (gyes_none rfl) (q_pf (v := .bool false) rfl rfl) rfl (by decide) (call_ok rfl) ?_
              refine ⟨_, Wk.refl _ _, ?_⟩
              show awp _ _ _ _ _ _ _
              refine awp_cond_f rfl ?_
              refine awp_skip_wk ?_
              refine ⟨_, Wk.refl _ _, ?_⟩
              show awp _ _ _ _ _ _ _
              refine awp_seq ?_
              have hRe : Rep w L := by first | exact hR2 | exact hR
              have hce : Canon L := by first | exact hv.canon | exact hc.1
              have hse : ∀ y ∈ L, SpW y := by first | exact hv.spw | exact hc.2
              have hle := rep_len hRe hce
              have hwe := hRe.len
              refine awp_regs hF ?_
              refine dv (gyes_none rfl) (q_mv (v := .slice (some ⟨bw, 0, none⟩) w.length w.length) rfl) rfl (by decide) (cok1 trivial) ?_
              refine dv (gyes_none rfl) (q_call0 Try.call25 rfl (same_ok _ _ L (s28.rd (j := 4) rfl) (s28.slsj (l := L) spc_w (j := 3) rfl rfl (Nat.le_refl _)) (by omega) (fun x hx => by have q1 := hRe.hi x hx; have q2 := hce.1 x hx; omega) w _ (s28.slj (j := 2) rfl (by first | rfl | (simp; done) | omega) (by first | exact Nat.le_refl _ | omega)) (by omega) (rep_spans hRe hce))) rfl (by decide) (call_ok rfl) ?_
              refine dv (gyes_none rfl) (q_not (b := true) rfl) rfl (by decide) (cok1 trivial) ?_
              refine ⟨_, Wk.refl _ _, ?_⟩
              show awp _ _ _ _ _ _ _
              refine awp_cond_f rfl ?_
              refine awp_skip_wk ?_
              refine ⟨_, Wk.refl _ _, ?_⟩
              show awp _ _ _ _ _ _ _
              refine awp_regs hF ?_
              refine dv (gyes_none rfl) (q_mv (v := .int .i64 ((i : Nat) : Int)) rfl) rfl (by decide) (cok1 trivial) ?_
              refine dv (gyes_none rfl) (OpQ.cast (v' := .int .i64 ((i + 1 : Nat) : Int)) (q_int rfl rfl rfl) (congrArg _ ((i64_in (by omega)).trans (by first | rfl | omega | (push_cast; rfl))))) rfl (by decide) (cok2 trivial (cconst rfl)) ?_
              refine dv (gyes_none rfl) (q_as (v := .int .i64 ((i + 1 : Nat) : Int)) rfl) rfl (by decide) (cok1 trivial) ?_
              refine ⟨_, Wk.U [(0, va), (2, .bool false), (3, .pointer (some ⟨b1, 0, none⟩)), (4, .slice (some ⟨bw, 0, none⟩) w.length w.length), (5, .int .i64 (((i + 1) : Nat) : Int))] ⟨rfl, rfl, rfl, rfl, rfl, trivial⟩, ((i + 1), w, L), ⟨_, _, _, rfl, (s28.sub (.cons _ (.cons _ (.cons_cons _ (.cons_cons _ (.cons_cons _ (.refl _))))))), ⟨hce, hse⟩, hRe⟩, (by omega)⟩
            ·
              replace c7 := ne_of_beq_false c7
              refine dv (gyes_none rfl) (q_as (v := .bool false) rfl) rfl (by decide) (cok1 trivial) ?_
              refine ⟨_, Wk.refl _ _, ?_⟩
              show awp _ _ _ _ _ _ _
              refine awp_cond_f rfl ?_
              refine awp_seq ?_
              refine awp_regs hF ?_
              refine dv (gyes_none rfl) (q_mv (v := .int .i64 ((hi : Nat) : Int)) rfl) rfl (by decide) (cok1 trivial) ?_
              refine dv (gyes_none rfl) (q_mv (v := .int .i64 ((lo : Nat) : Int)) rfl) rfl (by decide) (cok1 trivial) ?_
              refine dvb (gyes_none rfl) (q_int rfl rfl rfl) rfl (by decide) (cok2 trivial trivial) (fun c8 => ?_) (fun c8 => ?_)
              ·
                replace c8 := of_decide_eq_true c8
                refine dv (gyes_none rfl) (q_mv (v := .bool true) rfl) rfl (by decide) (cok1 trivial) ?_
                refine dv (gyes_some rfl rfl) (q_mv (v := .slice (some ⟨bw, 0, none⟩) w.length w.length) rfl) rfl (by decide) (cok1 trivial) ?_
                refine dv (gyes_some rfl rfl) (q_mv (v := .int .i64 ((lo : Nat) : Int)) rfl) rfl (by decide) (cok1 trivial) ?_
                refine dv (gyes_some rfl rfl) (q_mv (v := .int .i64 ((hi : Nat) : Int)) rfl) rfl (by decide) (cok1 trivial) ?_
                refine dvb (gyes_some rfl rfl) (q_call0 Try.call19 rfl (is_ok w _ (s28.slj (j := 2) rfl (by first | rfl | (simp; done) | omega) (by first | exact Nat.le_refl _ | omega)) (by omega) lo hi false (by omega) (by omega))) rfl (by decide) (call_ok rfl) (fun c9 => ?_) (fun c9 => ?_)
                ·
                  refine dv (gyes_none rfl) (q_pt (v := .bool true) rfl rfl) rfl (by decide) (call_ok rfl) ?_
                  refine dv (gyes_none rfl) (q_as (v := .bool true) rfl) rfl (by decide) (cok1 trivial) ?_
                  refine ⟨_, Wk.refl _ _, ?_⟩
                  show awp _ _ _ _ _ _ _
                  refine awp_seq ?_
                  refine awp_seq ?_
                  refine awp_regs hF ?_
                  refine dv (gyes_none rfl) (q_loadAgg Try.isAgg30 Try.sizeOf30 rfl (s28.rd (j := 0) rfl) (Nat.le_of_ble_eq_true rfl) rfl) rfl (by decide) (cok1 trivial) ?_
                  refine x_call [] hF (by kernel_rfl) (gyes_none rfl) Try.call9 rfl (args := [.pointer (some ⟨b1, 0, none⟩), .agg #[.int .u64 ((lo : Nat) : Int), .int .u64 ((hi : Nat) : Int)]]) rfl (add_ok b1 b2 L (by first | decide | omega) (nod2 (s28.nej (i := 4) (j := 3) rfl rfl (by decide))) (s28.getj (j := 4) rfl) (s28.getj (j := 3) rfl) (lo, hi)) (show _ < _ by decide) (call_ok rfl) rfl rfl (fun _ _ _ _ hd => by cases hd) ?_
                  rintro _ H66 ⟨ok75, L76, b67, rfl, hr68, hk69, ho70, hn71, h72, h73⟩
                  have s74 := s28.turn2 (j9 := 4) (jl := 3) rfl rfl (by decide) hk69 ho70 hn71 h72 h73
                  have hv := addR_v hr68 hc.1 hc.2 hx
                  have hlen := hv.len
                  obtain rfl : ok75 = true := hv.is.trans (by dsimp only; rw [decide_eq_false (by omega), rep_meets hR (by omega), ‹isV w lo hi false = true›]; rfl)
                  have hR2 := rep_add hR (by omega) hv ‹isV w lo hi false = true›
                  refine ⟨trivial, ?_⟩
                  show dList _ _ _ _ _ _ _ _ _ _
                  refine dv (gyes_none rfl) (q_mv (v := .bool true) rfl) rfl (by decide) (cok1 trivial) ?_
                  refine dv (gyes_none rfl) (OpQ.cast (v' := .bool false) (q_boolne Try.underlying4 rfl rfl) rfl) rfl (by decide) (cok2 trivial trivial) ?_
                  refine ⟨_, Wk.refl _ _, ?_⟩
                  show awp _ _ _ _ _ _ _
                  refine awp_cond_f rfl ?_
                  refine awp_skip_wk ?_
                  refine ⟨_, Wk.refl _ _, ?_⟩
                  show awp _ _ _ _ _ _ _
                  refine awp_seq ?_
                  refine awp_regs hF ?_
                  refine dv (gyes_none rfl) (q_mv (v := .bool true) rfl) rfl (by decide) (cok1 trivial) ?_
                  refine ⟨_, Wk.refl _ _, ?_⟩
                  show awp _ _ _ _ _ _ _
                  refine awp_cond_t rfl ?_
                  refine awp_regs hF ?_
                  refine dv (gyes_none rfl) (q_mv (v := .slice (some ⟨bw, 0, none⟩) w.length w.length) rfl) rfl (by decide) (cok1 trivial) ?_
                  refine dv (gyes_none rfl) (q_mv (v := .int .i64 ((lo : Nat) : Int)) rfl) rfl (by decide) (cok1 trivial) ?_
                  refine dv (gyes_none rfl) (q_mv (v := .int .i64 ((hi : Nat) : Int)) rfl) rfl (by decide) (cok1 trivial) ?_
                  refine x_new (fun b => .slice (some ⟨b, 0, none⟩) (turnV w lo hi).length (turnV w lo hi).length) s74 (gyes_none rfl) (q_call (Δ := [.cells true ((turnV w lo hi).map boolv) 1]) Try.call22 rfl (by simp [AObj.wr]) (acalls_fresh boolv_sc (turn_ok w _ (s74.slj (j := 2) rfl (by first | rfl | (simp; done) | omega) (by first | exact Nat.le_refl _ | omega)) (by omega) lo hi (by omega) (by omega)))) rfl (by decide) (call_ok rfl) (fun b77 H78 hb80 s79 => ?_)
                  refine dv (gyes_none rfl) (q_as (v := .slice (some ⟨b77, 0, none⟩) ((turnV w lo hi).length) ((turnV w lo hi).length)) rfl) rfl (by decide) (cok1 trivial) ?_
                  refine ⟨_, Wk.refl _ _, ?_⟩
                  show awp _ _ _ _ _ _ _
                  refine awp_seq ?_
                  have hRe : Rep (turnV w lo hi) L76 := by first | exact hR2 | exact hR
                  have hce : Canon L76 := by first | exact hv.canon | exact hc.1
                  have hse : ∀ y ∈ L76, SpW y := by first | exact hv.spw | exact hc.2
                  have hle := rep_len hRe hce
                  have hwe := hRe.len
                  refine awp_regs hF ?_
                  refine dv (gyes_none rfl) (q_mv (v := .slice (some ⟨b77, 0, none⟩) ((turnV w lo hi).length) ((turnV w lo hi).length)) rfl) rfl (by decide) (cok1 trivial) ?_
                  refine dv (gyes_none rfl) (q_call0 Try.call25 rfl (same_ok _ _ L76 (s79.rd (j := 5) rfl) (s79.slsj (l := L76) spc_w (j := 4) rfl rfl (Nat.le_refl _)) (by omega) (fun x hx => by have q1 := hRe.hi x hx; have q2 := hce.1 x hx; omega) (turnV w lo hi) _ (s79.slj (j := 0) rfl (by first | rfl | (simp; done) | omega) (by first | exact Nat.le_refl _ | omega)) (by omega) (rep_spans hRe hce))) rfl (by decide) (call_ok rfl) ?_
                  refine dv (gyes_none rfl) (q_not (b := true) rfl) rfl (by decide) (cok1 trivial) ?_
                  refine ⟨_, Wk.refl _ _, ?_⟩
                  show awp _ _ _ _ _ _ _
                  refine awp_cond_f rfl ?_
                  refine awp_skip_wk ?_
                  refine ⟨_, Wk.refl _ _, ?_⟩
                  show awp _ _ _ _ _ _ _
                  refine awp_regs hF ?_
                  refine dv (gyes_none rfl) (q_mv (v := .int .i64 ((i : Nat) : Int)) rfl) rfl (by decide) (cok1 trivial) ?_
                  refine dv (gyes_none rfl) (OpQ.cast (v' := .int .i64 ((i + 1 : Nat) : Int)) (q_int rfl rfl rfl) (congrArg _ ((i64_in (by omega)).trans (by first | rfl | omega | (push_cast; rfl))))) rfl (by decide) (cok2 trivial (cconst rfl)) ?_
                  refine dv (gyes_none rfl) (q_as (v := .int .i64 ((i + 1 : Nat) : Int)) rfl) rfl (by decide) (cok1 trivial) ?_
                  refine ⟨_, Wk.U [(0, va), (2, .bool false), (3, .pointer (some ⟨b1, 0, none⟩)), (4, .slice (some ⟨b77, 0, none⟩) ((turnV w lo hi).length) ((turnV w lo hi).length)), (5, .int .i64 (((i + 1) : Nat) : Int))] ⟨rfl, rfl, rfl, rfl, rfl, trivial⟩, ((i + 1), (turnV w lo hi), L76), ⟨_, _, _, rfl, (s79.sub (.cons_cons _ (.cons _ (.cons _ (.cons _ (.cons_cons _ (.cons_cons _ (.refl _)))))))), ⟨hce, hse⟩, hRe⟩, (by omega)⟩
                ·
                  refine dv (gyes_none rfl) (q_pt (v := .bool false) rfl rfl) rfl (by decide) (call_ok rfl) ?_
                  refine dv (gyes_none rfl) (q_as (v := .bool false) rfl) rfl (by decide) (cok1 trivial) ?_
                  refine ⟨_, Wk.refl _ _, ?_⟩
                  show awp _ _ _ _ _ _ _
                  refine awp_seq ?_
                  refine awp_seq ?_
                  refine awp_regs hF ?_
                  refine dv (gyes_none rfl) (q_loadAgg Try.isAgg30 Try.sizeOf30 rfl (s28.rd (j := 0) rfl) (Nat.le_of_ble_eq_true rfl) rfl) rfl (by decide) (cok1 trivial) ?_
                  refine x_call [] hF (by kernel_rfl) (gyes_none rfl) Try.call9 rfl (args := [.pointer (some ⟨b1, 0, none⟩), .agg #[.int .u64 ((lo : Nat) : Int), .int .u64 ((hi : Nat) : Int)]]) rfl (add_ok b1 b2 L (by first | decide | omega) (nod2 (s28.nej (i := 4) (j := 3) rfl rfl (by decide))) (s28.getj (j := 4) rfl) (s28.getj (j := 3) rfl) (lo, hi)) (show _ < _ by decide) (call_ok rfl) rfl rfl (fun _ _ _ _ hd => by cases hd) ?_
                  rintro _ H81 ⟨ok90, L91, b82, rfl, hr83, hk84, ho85, hn86, h87, h88⟩
                  have s89 := s28.turn2 (j9 := 4) (jl := 3) rfl rfl (by decide) hk84 ho85 hn86 h87 h88
                  have hv := addR_v hr83 hc.1 hc.2 hx
                  have hlen := hv.len
                  obtain rfl : ok90 = false := hv.is.trans (by dsimp only; first | (rw [decide_eq_true (by omega)]; rfl) | (rw [decide_eq_false (by omega), rep_meets hR (by omega), ‹isV w lo hi false = false›]; rfl))
                  have hR2 := rep_same hR hv
                  refine ⟨trivial, ?_⟩
                  show dList _ _ _ _ _ _ _ _ _ _
                  refine dv (gyes_none rfl) (q_mv (v := .bool false) rfl) rfl (by decide) (cok1 trivial) ?_
                  refine dv (gyes_none rfl) (OpQ.cast (v' := .bool false) (q_boolne Try.underlying4 rfl rfl) rfl) rfl (by decide) (cok2 trivial trivial) ?_
                  refine ⟨_, Wk.refl _ _, ?_⟩
                  show awp _ _ _ _ _ _ _
                  refine awp_cond_f rfl ?_
                  refine awp_skip_wk ?_
                  refine ⟨_, Wk.refl _ _, ?_⟩
                  show awp _ _ _ _ _ _ _
                  refine awp_seq ?_
                  refine awp_regs hF ?_
                  refine dv (gyes_none rfl) (q_mv (v := .bool false) rfl) rfl (by decide) (cok1 trivial) ?_
                  refine ⟨_, Wk.refl _ _, ?_⟩
                  show awp _ _ _ _ _ _ _
                  refine awp_cond_f rfl ?_
                  refine awp_skip_wk ?_
                  refine ⟨_, Wk.refl _ _, ?_⟩
                  show awp _ _ _ _ _ _ _
                  refine awp_seq ?_
                  have hRe : Rep w L91 := by first | exact hR2 | exact hR
                  have hce : Canon L91 := by first | exact hv.canon | exact hc.1
                  have hse : ∀ y ∈ L91, SpW y := by first | exact hv.spw | exact hc.2
                  have hle := rep_len hRe hce
                  have hwe := hRe.len
                  refine awp_regs hF ?_
                  refine dv (gyes_none rfl) (q_mv (v := .slice (some ⟨bw, 0, none⟩) w.length w.length) rfl) rfl (by decide) (cok1 trivial) ?_
                  refine dv (gyes_none rfl) (q_call0 Try.call25 rfl (same_ok _ _ L91 (s89.rd (j := 4) rfl) (s89.slsj (l := L91) spc_w (j := 3) rfl rfl (Nat.le_refl _)) (by omega) (fun x hx => by have q1 := hRe.hi x hx; have q2 := hce.1 x hx; omega) w _ (s89.slj (j := 2) rfl (by first | rfl | (simp; done) | omega) (by first | exact Nat.le_refl _ | omega)) (by omega) (rep_spans hRe hce))) rfl (by decide) (call_ok rfl) ?_
                  refine dv (gyes_none rfl) (q_not (b := true) rfl) rfl (by decide) (cok1 trivial) ?_
                  refine ⟨_, Wk.refl _ _, ?_⟩
                  show awp _ _ _ _ _ _ _
                  refine awp_cond_f rfl ?_
                  refine awp_skip_wk ?_
                  refine ⟨_, Wk.refl _ _, ?_⟩
                  show awp _ _ _ _ _ _ _
                  refine awp_regs hF ?_
                  refine dv (gyes_none rfl) (q_mv (v := .int .i64 ((i : Nat) : Int)) rfl) rfl (by decide) (cok1 trivial) ?_
                  refine dv (gyes_none rfl) (OpQ.cast (v' := .int .i64 ((i + 1 : Nat) : Int)) (q_int rfl rfl rfl) (congrArg _ ((i64_in (by omega)).trans (by first | rfl | omega | (push_cast; rfl))))) rfl (by decide) (cok2 trivial (cconst rfl)) ?_
                  refine dv (gyes_none rfl) (q_as (v := .int .i64 ((i + 1 : Nat) : Int)) rfl) rfl (by decide) (cok1 trivial) ?_
                  refine ⟨_, Wk.U [(0, va), (2, .bool false), (3, .pointer (some ⟨b1, 0, none⟩)), (4, .slice (some ⟨bw, 0, none⟩) w.length w.length), (5, .int .i64 (((i + 1) : Nat) : Int))] ⟨rfl, rfl, rfl, rfl, rfl, trivial⟩, ((i + 1), w, L91), ⟨_, _, _, rfl, (s89.sub (.cons _ (.cons _ (.cons_cons _ (.cons_cons _ (.cons_cons _ (.refl _))))))), ⟨hce, hse⟩, hRe⟩, (by omega)⟩
              ·
                replace c8 := of_decide_eq_false c8
                refine dv (gyes_none rfl) (q_mv (v := .bool false) rfl) rfl (by decide) (cok1 trivial) ?_
                refine dno rfl (.inl rfl) rfl (by decide) ?_
                refine dno rfl (.inl rfl) rfl (by decide) ?_
                refine dno rfl (.inl rfl) rfl (by decide) ?_
                refine dno rfl (.inl rfl) rfl (by decide) ?_
                refine dv (gyes_none rfl) (q_pf (v := .bool false) rfl rfl) rfl (by decide) (call_ok rfl) ?_
                refine dv (gyes_none rfl) (q_as (v := .bool false) rfl) rfl (by decide) (cok1 trivial) ?_
                refine ⟨_, Wk.refl _ _, ?_⟩
                show awp _ _ _ _ _ _ _
                refine awp_seq ?_
                refine awp_seq ?_
                refine awp_regs hF ?_
                refine dv (gyes_none rfl) (q_loadAgg Try.isAgg30 Try.sizeOf30 rfl (s28.rd (j := 0) rfl) (Nat.le_of_ble_eq_true rfl) rfl) rfl (by decide) (cok1 trivial) ?_
                refine x_call [] hF (by kernel_rfl) (gyes_none rfl) Try.call9 rfl (args := [.pointer (some ⟨b1, 0, none⟩), .agg #[.int .u64 ((lo : Nat) : Int), .int .u64 ((hi : Nat) : Int)]]) rfl (add_ok b1 b2 L (by first | decide | omega) (nod2 (s28.nej (i := 4) (j := 3) rfl rfl (by decide))) (s28.getj (j := 4) rfl) (s28.getj (j := 3) rfl) (lo, hi)) (show _ < _ by decide) (call_ok rfl) rfl rfl (fun _ _ _ _ hd => by cases hd) ?_
                rintro _ H92 ⟨ok101, L102, b93, rfl, hr94, hk95, ho96, hn97, h98, h99⟩
                have s100 := s28.turn2 (j9 := 4) (jl := 3) rfl rfl (by decide) hk95 ho96 hn97 h98 h99
                have hv := addR_v hr94 hc.1 hc.2 hx
                have hlen := hv.len
                obtain rfl : ok101 = false := hv.is.trans (by dsimp only; first | (rw [decide_eq_true (by omega)]; rfl) | (rw [decide_eq_false (by omega), rep_meets hR (by omega), ‹isV w lo hi false = false›]; rfl))
                have hR2 := rep_same hR hv
                refine ⟨trivial, ?_⟩
                show dList _ _ _ _ _ _ _ _ _ _
                refine dv (gyes_none rfl) (q_mv (v := .bool false) rfl) rfl (by decide) (cok1 trivial) ?_
                refine dv (gyes_none rfl) (OpQ.cast (v' := .bool false) (q_boolne Try.underlying4 rfl rfl) rfl) rfl (by decide) (cok2 trivial trivial) ?_
                refine ⟨_, Wk.refl _ _, ?_⟩
                show awp _ _ _ _ _ _ _
                refine awp_cond_f rfl ?_
                refine awp_skip_wk ?_
                refine ⟨_, Wk.refl _ _, ?_⟩
                show awp _ _ _ _ _ _ _
                refine awp_seq ?_
                refine awp_regs hF ?_
                refine dv (gyes_none rfl) (q_mv (v := .bool false) rfl) rfl (by decide) (cok1 trivial) ?_
                refine ⟨_, Wk.refl _ _, ?_⟩
                show awp _ _ _ _ _ _ _
                refine awp_cond_f rfl ?_
                refine awp_skip_wk ?_
                refine ⟨_, Wk.refl _ _, ?_⟩
                show awp _ _ _ _ _ _ _
                refine awp_seq ?_
                have hRe : Rep w L102 := by first | exact hR2 | exact hR
                have hce : Canon L102 := by first | exact hv.canon | exact hc.1
                have hse : ∀ y ∈ L102, SpW y := by first | exact hv.spw | exact hc.2
                have hle := rep_len hRe hce
                have hwe := hRe.len
                refine awp_regs hF ?_
                refine dv (gyes_none rfl) (q_mv (v := .slice (some ⟨bw, 0, none⟩) w.length w.length) rfl) rfl (by decide) (cok1 trivial) ?_
                refine dv (gyes_none rfl) (q_call0 Try.call25 rfl (same_ok _ _ L102 (s100.rd (j := 4) rfl) (s100.slsj (l := L102) spc_w (j := 3) rfl rfl (Nat.le_refl _)) (by omega) (fun x hx => by have q1 := hRe.hi x hx; have q2 := hce.1 x hx; omega) w _ (s100.slj (j := 2) rfl (by first | rfl | (simp; done) | omega) (by first | exact Nat.le_refl _ | omega)) (by omega) (rep_spans hRe hce))) rfl (by decide) (call_ok rfl) ?_
                refine dv (gyes_none rfl) (q_not (b := true) rfl) rfl (by decide) (cok1 trivial) ?_
                refine ⟨_, Wk.refl _ _, ?_⟩
                show awp _ _ _ _ _ _ _
                refine awp_cond_f rfl ?_
                refine awp_skip_wk ?_
                refine ⟨_, Wk.refl _ _, ?_⟩
                show awp _ _ _ _ _ _ _
                refine awp_regs hF ?_
                refine dv (gyes_none rfl) (q_mv (v := .int .i64 ((i : Nat) : Int)) rfl) rfl (by decide) (cok1 trivial) ?_
                refine dv (gyes_none rfl) (OpQ.cast (v' := .int .i64 ((i + 1 : Nat) : Int)) (q_int rfl rfl rfl) (congrArg _ ((i64_in (by omega)).trans (by first | rfl | omega | (push_cast; rfl))))) rfl (by decide) (cok2 trivial (cconst rfl)) ?_
                refine dv (gyes_none rfl) (q_as (v := .int .i64 ((i + 1 : Nat) : Int)) rfl) rfl (by decide) (cok1 trivial) ?_
                refine ⟨_, Wk.U [(0, va), (2, .bool false), (3, .pointer (some ⟨b1, 0, none⟩)), (4, .slice (some ⟨bw, 0, none⟩) w.length w.length), (5, .int .i64 (((i + 1) : Nat) : Int))] ⟨rfl, rfl, rfl, rfl, rfl, trivial⟩, ((i + 1), w, L102), ⟨_, _, _, rfl, (s100.sub (.cons _ (.cons _ (.cons_cons _ (.cons_cons _ (.cons_cons _ (.refl _))))))), ⟨hce, hse⟩, hRe⟩, (by omega)⟩
      ·
        replace c2 := of_decide_eq_false c2
        refine dv (gyes_none rfl) (q_pt (v := .bool false) rfl rfl) rfl (by decide) (call_ok rfl) ?_
        refine ⟨_, Wk.refl _ _, ?_⟩
        show awp _ _ _ _ _ _ _
        refine awp_cond_f rfl ?_
        refine awp_exit_wk ?_
        refine ⟨_, Wk.refl _ _, ?_⟩
        show awp _ _ _ _ _ _ _
        refine awp_seq ?_
        refine awp_regs hF ?_
        refine dv (gyes_none rfl) (q_as (v := .bool true) rfl) rfl (by decide) (cok1 (cconst rfl)) ?_
        refine ⟨_, Wk.refl _ _, ?_⟩
        show awp _ _ _ _ _ _ _
        refine awp_ret_wk ?_
        refine ⟨_, Wk.refl _ _, ?_⟩
        repeat (with_reducible first | refine then_ret ?_ | refine blk_ret ?_ | refine then_exit ?_ | refine blk_exit ?_ | refine blk_exit' (by decide) ?_ | refine blk_normal ?_ | refine then_normal ?_ | refine retq_ret ?_ | refine retq_normal ?_ | refine ng_normal ?_ | refine ng_ret ?_ | refine ng_exit ?_)
        exact ret_none (v := .bool true) rfl s14.kp (.tmp rfl .nil) rfl rfl ⟨rfl, rfl⟩
    ·
      replace c1 := of_decide_eq_false c1
      refine dv (gyes_none rfl) (q_mv (v := .bool false) rfl) rfl (by decide) (cok1 trivial) ?_
      refine dno rfl (.inl rfl) rfl (by decide) ?_
      refine dno rfl (.inl rfl) rfl (by decide) ?_
      refine dv (gyes_none rfl) (q_pf (v := .bool false) rfl rfl) rfl (by decide) (call_ok rfl) ?_
      refine ⟨_, Wk.refl _ _, ?_⟩
      show awp _ _ _ _ _ _ _
      refine awp_cond_f rfl ?_
      refine awp_exit_wk ?_
      refine ⟨_, Wk.refl _ _, ?_⟩
      show awp _ _ _ _ _ _ _
      refine awp_seq ?_
      refine awp_regs hF ?_
      refine dv (gyes_none rfl) (q_as (v := .bool true) rfl) rfl (by decide) (cok1 (cconst rfl)) ?_
      refine ⟨_, Wk.refl _ _, ?_⟩
      show awp _ _ _ _ _ _ _
      refine awp_ret_wk ?_
      refine ⟨_, Wk.refl _ _, ?_⟩
      repeat (with_reducible first | refine then_ret ?_ | refine blk_ret ?_ | refine then_exit ?_ | refine blk_exit ?_ | refine blk_exit' (by decide) ?_ | refine blk_normal ?_ | refine then_normal ?_ | refine retq_ret ?_ | refine retq_normal ?_ | refine ng_normal ?_ | refine ng_ret ?_ | refine ng_exit ?_)
      exact ret_none (v := .bool true) rfl s14.kp (.tmp rfl .nil) rfl rfl ⟨rfl, rfl⟩

end Go.Proofs.YtjgeheookgogaaaA

