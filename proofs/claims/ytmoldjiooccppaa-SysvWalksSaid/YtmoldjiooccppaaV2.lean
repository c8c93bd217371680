/-
  Walks of functions of the given program, and what they compute.
-/
import Derived.Test.YtmoldjiooccppaaB5
import Derived.Test.YtmoldjiooccppaaV1
import Derived.Test.YtmoldjiooccppaaProg
import Derived.KernelRfl
namespace Go.Proofs.YtmoldjiooccppaaA
set_option linter.unusedVariables false
open Go Go.RowKit Go.Shelf Go.Proofs
def chkO (B C : List Nat) (names : List ByteArray) : Option Nat := (List.range (min C.length names.length)).find? fun i => decide (1 ≤ i ∧ i ∉ walkL B C (nth names i))
def chkV : Option Nat → Value
  | none => .tuple #[.int .i64 0, .bool true]
  | some i => .tuple #[.int .i64 ((i : Nat) : Int), .bool false]
theorem find_range {p : Nat → Bool} : ∀ {n : Nat}, (List.range n).find? p = none ↔ ∀ i, i < n → p i = false := fun {n} => by
  rw [List.find?_eq_none]
  constructor
  · intro h i hi; simpa using h i (List.mem_range.2 hi)
  · intro h i hi; simpa using h i (List.mem_range.1 hi)
theorem find_range_some {p : Nat → Bool} {n i : Nat} (hi : i < n) (hp : p i = true) (h : ∀ j, j < i → p j = false) : (List.range n).find? p = some i := by
  rw [List.find?_eq_some_iff_getElem]
  refine ⟨hp, i, by simpa using hi, by simp, fun j hj => ?_⟩
  simp [h j hj]
theorem chk_none {B C : List Nat} {names : List ByteArray} {n : Nat} (hn : ¬ n < min C.length names.length) (h : ∀ j, 1 ≤ j → j < n → j ∈ walkL B C (nth names j)) : chkO B C names = none :=
  find_range.2 fun i hi => by
    rw [decide_eq_false_iff_not]
    rintro ⟨h1, h2⟩
    exact h2 (h i h1 (by omega))
theorem chk_some {B C : List Nat} {names : List ByteArray} {n : Nat} (hn : n < min C.length names.length) (h1 : 1 ≤ n) (hno : n ∉ walkL B C (nth names n)) (h : ∀ j, 1 ≤ j → j < n → j ∈ walkL B C (nth names j)) : chkO B C names = some n :=
  find_range_some hn (decide_eq_true ⟨h1, hno⟩) fun j hj => by
    rw [decide_eq_false_iff_not]
    rintro ⟨h2, h3⟩
    exact h3 (h j h2 hj)
theorem walkB_ok {H0 : AHeap} (s : ByteArray) (vB vC : Value) : ACalls Try.prog 9 [.agg #[vB, vC], .string s] H0 (fun v H' => ∃ b0 b1, v = .func (.func 21) #[] #[.pointer (some ⟨b0, 0, none⟩), .pointer (some ⟨b1, 0, none⟩)] ∧ NewL H0 H' [(b0, .cells true [vB, vC] 1), (b1, .cells true [.string s] 1)]) :=
  (walk_ok rfl s vB vC rfl rfl).mono fun v H' h => by
    obtain ⟨rfl, rfl⟩ := h
    exact ⟨_, _, rfl, newL_append⟩
theorem mem_at {l : List Nat} {k x n : Nat} (hx : l[k]? = some x) (e : x = n) : n ∈ l := by subst e; exact List.mem_of_getElem? hx
theorem notin_take {l : List Nat} {k x i : Nat} (hx : l[k]? = some x) (h : i ∉ l.take k) (hn : ¬ x = i) : i ∉ l.take (k + 1) := by
  rw [List.take_add_one, hx]
  intro hm
  rcases List.mem_append.1 hm with h1 | h1
  · exact h h1
  · simp at h1; exact hn h1.symm
set_option maxRecDepth 100000 in
set_option maxHeartbeats 4000000 in
theorem check_ok {H0 : AHeap} (B C : List Nat) (names : List ByteArray) (vB vC vN : Value) (hB : Sl u32v H0 vB B) (hC : Sl u32v H0 vC C) (hN : Sl strv H0 vN names) (hNs : ∀ s ∈ names, s.size ≤ 140737488355328) (hB1 : B.length < 4294967296) (hBv : ∀ x ∈ B, x < 4294967296) (hCv : ∀ x ∈ C, x < 4294967296) (hC2 : C.length ≤ 4294967296) (hNl : names.length ≤ 1000000) : ACalls Try.prog 14 [.agg #[vB, vC], vN] H0 (Rets (chkV (chkO B C names)) H0) := by
  have hF : Wd Fence.wide := .inl rfl
  have hM : Try.prog.follows .mixedOrders = true := by kernel_rfl
  have s0 := St.begin H0
  refine acalls_st Try.func14 rfl Try.ntmps14 rfl ?_
  refine awp_seq ?_
  refine awp_regs hF ?_
  refine x_new (fun b => .pointer (some ⟨b, 0, none⟩)) s0 (gyes_none rfl) (q_box (v := .agg #[vB, vC]) (vs := [vB, vC]) 2 rfl (by exact trivial) rfl) rfl (by decide) (cok1 trivial) (fun b1 H2 hb4 s3 => ?_)
  refine dv (gyes_none rfl) (q_as (v := .int .i64 0) rfl) rfl (by decide) (cok1 (cconst rfl)) ?_
  refine dv (gyes_none rfl) (q_as (v := .bool false) rfl) rfl (by decide) (cok1 (cconst rfl)) ?_
  refine ⟨_, Wk.refl _ _, ?_⟩
  show awp _ _ _ _ _ _ _
  refine awp_scope ?_
  refine awp_seq ?_
  refine awp_label_wk ?_
  refine ⟨_, Wk.refl _ _, ?_⟩
  show awp _ _ _ _ _ _ _
  refine awp_seq ?_
  refine awp_seq ?_
  refine awp_regs hF ?_
  refine x_new (fun b => .pointer (some ⟨b, 0, none⟩)) s3 (gyes_none rfl) (q_alloc (vs := [.int .i64 0]) 1 Try.zeroValue3 (by first | exact flat_scalar rfl | exact flat_agg rfl) rfl) rfl (by decide) (by simp [Op.operands, Call.operands]) (fun b5 H6 hb8 s7 => ?_)
  refine x_store1 [] hF s7 (by kernel_rfl) (gyes_none rfl) (j := 0) (v := .int .i64 1) rfl Try.sizeOf3 rfl rfl rfl (lc_scalar rfl) (Nat.le_of_ble_eq_true rfl) trivial (cconst rfl) rfl rfl (F' := [(b5, .cells true [.int .i64 1] 1), (b1, .cells true [vB, vC] 2)]) rfl (fun H9 s10 => ⟨?_, ?_⟩)
  · exact trivial
  refine ⟨_, Wk.refl _ _, ?_⟩
  show awp _ _ _ _ _ _ _
  refine awp_block ?_
  refine awp_wk (Wk.U [(1, vN), (2, .pointer (some ⟨b1, 0, none⟩)), (4, .int .i64 0), (5, .bool false), (6, .pointer (some ⟨b5, 0, none⟩))] ⟨rfl, rfl, rfl, rfl, rfl, trivial⟩) ?_
  refine awp_loop (fun (n : Nat) st => ∃ (H11 : AHeap) (bi : Nat) (b : Nat) (D : List Nat), st = ⟨30, U [(1, vN), (2, .pointer (some ⟨b, 0, none⟩)), (4, .int .i64 0), (5, .bool false), (6, .pointer (some ⟨bi, 0, none⟩))], D, H11⟩ ∧ St H0 (none0) (Rd H0) H11 ([(bi, .cells true [.int .i64 ((n : Nat) : Int)] 1), (b, .cells true [vB, vC] 2)] ++ (marks D)) ∧ (1 ≤ n ∧ ∀ j, 1 ≤ j → j < n → j ∈ walkL B C (nth names j))) (fun (n : Nat) => min C.length names.length - n) (x0 := (1)) ?h0 ?round
  case h0 =>
    exact ⟨_, _, _, _, rfl, (s10.marks0), ⟨Nat.le_refl _, fun j h1 h2 => by omega⟩⟩
  case round =>
    rintro n _ ⟨H11, bi, b, D, rfl, s12, hn⟩
    refine awp_seq ?_
    refine awp_seq ?_
    refine awp_regs hF ?_
    refine dv (gyes_none rfl) (q_load (v := .int .i64 ((n : Nat) : Int)) Try.isAgg3 rfl (s12.rd (j := 0) rfl) rfl) rfl (by decide) (cok1 trivial) ?_
    refine dv (gyes_none rfl) (q_field Try.underlying26 rfl Try.sizeOf24 rfl (s12.rd (j := 1) rfl)) rfl (by decide) (cok1 trivial) ?_
    refine dv (gyes_none rfl) (q_load (v := vC) Try.isAgg24 rfl (s12.rd (j := 1) rfl) rfl) rfl (by decide) (cok1 trivial) ?_
    refine dv (gyes_none rfl) (q_len_sl (l := C) Try.underlying24 (s12.sl hC) rfl) rfl (by decide) (cok1 trivial) ?_
    refine dv (gyes_none rfl) (q_mv (v := vN) rfl) rfl (by decide) (cok1 trivial) ?_
    refine dv (gyes_none rfl) (q_len_sl (l := names) Try.underlying22 (s12.sl hN) rfl) rfl (by decide) (cok1 trivial) ?_
    refine dv (gyes_none rfl) (OpQ.cast (v' := .int .i64 ((min C.length names.length : Nat) : Int)) (q_min rfl rfl) (by congr 1; split <;> omega)) rfl (by decide) (cok2 trivial trivial) ?_
    refine dvb (gyes_none rfl) (q_int rfl rfl rfl) rfl (by decide) (cok2 trivial trivial) (fun c1 => ?_) (fun c1 => ?_)
    ·
      replace c1 := of_decide_eq_true c1
      have hnl : n < names.length := by omega
      have hnn : nth names n ∈ names := by rw [nth_eq hnl]; exact List.getElem_mem hnl
      refine ⟨_, Wk.refl _ _, ?_⟩
      show awp _ _ _ _ _ _ _
      refine awp_cond_t rfl ?_
      refine awp_skip_wk ?_
      refine ⟨_, Wk.refl _ _, ?_⟩
      show awp _ _ _ _ _ _ _
      refine awp_seq ?_
      refine awp_block ?_
      refine awp_seq ?_
      refine awp_seq ?_
      refine awp_regt hF hM (by kernel_rfl) (by kernel_rfl) ?_
      refine dv (gyes_none rfl) (q_loadAgg Try.isAgg26 Try.sizeOf26 rfl (s12.rd (j := 1) rfl) (Nat.le_of_ble_eq_true rfl) rfl) rfl (by decide) (cok1 trivial) ?_
      refine dv (gyes_none rfl) (q_mv (v := vN) rfl) rfl (by decide) (cok1 trivial) ?_
      refine dv (gyes_none rfl) (q_load (v := .int .i64 ((n : Nat) : Int)) Try.isAgg3 rfl (s12.rd (j := 0) rfl) rfl) rfl (by decide) (cok1 trivial) ?_
      refine dv (gyes_none rfl) (q_index_sl (l := names) (i := n) Try.underlying22 Try.sizeOf9 (s12.sl hN) rfl rfl (by omega)) rfl (by decide) (cok2 trivial trivial) ?_
      refine dv (gyes_none rfl) (q_load_sl (l := names) (i := n) Try.isAgg9 (s12.sl hN) rfl (by omega)) rfl (by decide) (cok1 trivial) ?_
      refine x_call [] hF (by kernel_rfl) (gyes_none rfl) Try.call9 rfl (args := [.agg #[vB, vC], .string (nth names n)]) rfl (walkB_ok _ _ _) (show _ < _ by decide) (call_ok rfl) rfl rfl (by
          rintro _ _ ⟨_, _, rfl, hn⟩ d hd
          rw [(hn.1).get d (lt_of_some (s12.marks_at d hd)) (fun h => h)]; exact s12.marks_at d hd) ?_
      rintro _ H15 ⟨b13, b14, rfl, hn16⟩
      have s17 := s12.callL hn16
      refine ⟨trivial, ?_⟩
      show dList _ _ _ _ _ _ _ _ _ _
      refine ⟨_, Wk.refl _ _, ?_⟩
      show awp _ _ _ _ _ _ _
      refine awp_block ?_
      refine range_st s17 rfl Try.call21 (fun fn18 lp19 d20 l21 H22 hlp23 hd24 s25 => ?_)
      refine (walk1_ok (H0 := H22) rfl (nth names n) (hNs _ hnn) B C vB vC hB1 hBv hCv hC2 _ _ _ (fun (k : Nat) (H26 : AHeap) => St H0 (none0) (Rd H0) H26 ([(l21, lp19 .ready none), (d20, .mark), (b13, .cells true [vB, vC] 1), (b14, .cells true [.string (nth names n)] 1), (bi, .cells true [.int .i64 ((n : Nat) : Int)] 1), (b, .cells true [vB, vC] 2)] ++ (marks D)) ∧ (n ∉ (walkL B C (nth names n)).take k)) (fun (k' : Nat) (H26 : AHeap) => St H0 (none0) (Rd H0) H26 ([(l21, lp19 (.done) (some (.exit 1))), (d20, .mark), (b13, .cells true [vB, vC] 1), (b14, .cells true [.string (nth names n)] 1), (bi, .cells true [.int .i64 ((n : Nat) : Int)] 1), (b, .cells true [vB, vC] 2)] ++ (marks D)) ∧ (n ∈ walkL B C (nth names n))) ?h00 ?hb ?round).mono ?after
      case h00 => exact ⟨s25, by simp⟩
      case hb =>
        rintro k H26 ⟨s27, hno⟩
        exact ⟨s27.getj (j := 2) rfl, s27.getj (j := 3) rfl, s27.sl hB, s27.sl hC⟩
      case round =>
        rintro k H26 x ⟨s27, hno⟩ hx
        refine ylds_roundB hlp23 (s27.getj (j := 0) rfl) rfl rfl (fun l28 hF => ?_)
        refine awp_regs hF ?_
        refine dv (gyes_none rfl) (q_as (v := .int .i64 ((x : Nat) : Int)) rfl) rfl (by decide) (cok1 trivial) ?_
        refine ⟨_, Wk.refl _ _, ?_⟩
        refine then_normal ?_
        refine ⟨_, _, rfl, s27.getj (j := 0) rfl, ?body⟩
        case body =>
          have s29 := s27.setAt (j := 0) rfl (lp19 .busy none)
          show awp _ _ _ _ _ _ _
          refine awp_block ?_
          refine awp_seq ?_
          refine awp_regs hF ?_
          refine dv (gyes_none rfl) (q_mv (v := .int .i64 ((x : Nat) : Int)) rfl) rfl (by decide) (cok1 trivial) ?_
          refine dv (gyes_none rfl) (q_load (v := .int .i64 ((n : Nat) : Int)) Try.isAgg3 rfl (s29.rd (j := 4) rfl) rfl) rfl (by decide) (cok1 trivial) ?_
          refine dvb (gyes_none rfl) (q_int rfl rfl rfl) rfl (by decide) (cok2 trivial trivial) (fun c2 => ?_) (fun c2 => ?_)
          ·
            replace c2 := eq_of_beq c2
            refine ⟨_, Wk.refl _ _, ?_⟩
            show awp _ _ _ _ _ _ _
            refine awp_cond_t rfl ?_
            refine awp_exit_wk ?_
            refine ⟨_, Wk.refl _ _, ?_⟩
            repeat (with_reducible first | refine then_ret ?_ | refine blk_ret ?_ | refine then_exit ?_ | refine blk_exit ?_ | refine blk_exit' (by decide) ?_ | refine blk_normal ?_ | refine then_normal ?_ | refine retq_ret ?_ | refine retq_normal ?_ | refine ng_normal ?_ | refine ng_ret ?_ | refine ng_exit ?_)
            exact ⟨s29.getj (j := 0) rfl, (fun h => nomatch h), (fun _ => ⟨(s29.setAt (j := 0) rfl (lp19 .done (some (.exit 1)))), mem_at hx (by omega)⟩)⟩
          ·
            replace c2 := ne_of_beq_false c2
            refine ⟨_, Wk.refl _ _, ?_⟩
            show awp _ _ _ _ _ _ _
            refine awp_cond_f rfl ?_
            refine awp_skip_wk ?_
            refine ⟨_, Wk.refl _ _, ?_⟩
            repeat (with_reducible first | refine then_ret ?_ | refine blk_ret ?_ | refine then_exit ?_ | refine blk_exit ?_ | refine blk_exit' (by decide) ?_ | refine blk_normal ?_ | refine then_normal ?_ | refine retq_ret ?_ | refine retq_normal ?_ | refine ng_normal ?_ | refine ng_ret ?_ | refine ng_exit ?_)
            exact ⟨s29.getj (j := 0) rfl, (fun _ => ⟨(s29.setAt (j := 0) rfl (lp19 .ready none)), notin_take hx hno (by omega)⟩), (fun h => nomatch h)⟩
      case after =>
        rintro v H' ⟨rfl, ⟨s30, hno⟩ | ⟨_, _, ⟨s31, hin⟩⟩⟩
        ·
          rw [List.take_length] at hno
          refine ⟨(by
              intro e he
              rcases List.mem_cons.1 he with rfl | he
              · exact s30.getj (j := 1) rfl
              · exact ((s30.forget 0).mark1).marks_at e (List.mem_cons_of_mem _ he)), .inl ⟨s30.getj (j := 0) rfl, ?_⟩⟩
          have s32 := (s30.setAt (j := 0) rfl .none).forget 0
          have s32 := s32.mark1
          refine ⟨_, Wk.refl _ _, ?_⟩
          show awp _ _ _ _ _ _ _
          refine awp_seq ?_
          refine awp_regs hF ?_
          refine dv (gyes_none rfl) (q_load (v := .int .i64 ((n : Nat) : Int)) Try.isAgg3 rfl (s32.rd (j := 2) rfl) rfl) rfl (by decide) (cok1 trivial) ?_
          refine dv (gyes_none rfl) (q_as (v := .int .i64 ((n : Nat) : Int)) rfl) rfl (by decide) (cok1 trivial) ?_
          refine dv (gyes_none rfl) (q_as (v := .bool false) rfl) rfl (by decide) (cok1 (cconst rfl)) ?_
          refine ⟨_, Wk.refl _ _, ?_⟩
          show awp _ _ _ _ _ _ _
          refine awp_ret_wk ?_
          refine ⟨_, Wk.refl _ _, ?_⟩
          repeat (with_reducible first | refine then_ret ?_ | refine blk_ret ?_ | refine then_exit ?_ | refine blk_exit ?_ | refine blk_exit' (by decide) ?_ | refine blk_normal ?_ | refine then_normal ?_ | refine retq_ret ?_ | refine retq_normal ?_ | refine ng_normal ?_ | refine ng_ret ?_ | refine ng_exit ?_)
          exact ret_noneDs rfl s32 (.tmp rfl (.tmp rfl .nil)) rfl rfl ⟨by rw [chk_some (by omega) hn.1 hno hn.2]; rfl, rfl⟩
        ·
          refine ⟨(by
              intro e he
              rcases List.mem_cons.1 he with rfl | he
              · exact s31.getj (j := 1) rfl
              · exact ((s31.forget 0).mark1).marks_at e (List.mem_cons_of_mem _ he)), .inr ⟨_, s31.getj (j := 0) rfl, ?_⟩⟩
          have s33 := (s31.setAt (j := 0) rfl .none).forget 0
          have s33 := s33.mark1
          refine awp_exit_wk ?_
          refine ⟨_, Wk.refl _ _, ?_⟩
          show awp _ _ _ _ _ _ _
          refine awp_seq ?_
          refine awp_seq ?_
          refine awp_regs hF ?_
          refine dv (gyes_none rfl) (q_load (v := .int .i64 ((n : Nat) : Int)) Try.isAgg3 rfl (s33.rd (j := 2) rfl) rfl) rfl (by decide) (cok1 trivial) ?_
          refine ⟨_, Wk.refl _ _, ?_⟩
          show awp _ _ _ _ _ _ _
          refine awp_regs hF ?_
          refine x_new (fun b => .pointer (some ⟨b, 0, none⟩)) s33 (gyes_none rfl) (q_alloc (vs := [.int .i64 0]) 1 Try.zeroValue3 (by first | exact flat_scalar rfl | exact flat_agg rfl) rfl) rfl (by decide) (by simp [Op.operands, Call.operands]) (fun b34 H35 hb37 s36 => ?_)
          refine x_store1 [] hF s36 (by kernel_rfl) (gyes_none rfl) (j := 0) (v := .int .i64 ((n : Nat) : Int)) rfl Try.sizeOf3 rfl rfl rfl (lc_scalar rfl) (Nat.le_of_ble_eq_true rfl) trivial trivial rfl rfl (F' := ([(b34, .cells true [.int .i64 ((n : Nat) : Int)] 1), (b13, .cells true [vB, vC] 1), (b14, .cells true [.string (nth names n)] 1), (bi, .cells true [.int .i64 ((n : Nat) : Int)] 1), (b, .cells true [vB, vC] 2)] ++ marks (d20 :: D))) rfl (fun H38 s39 => ⟨?_, ?_⟩)
          · exact trivial
          refine ⟨_, Wk.refl _ _, ?_⟩
          show awp _ _ _ _ _ _ _
          refine awp_regs hF ?_
          refine dv (gyes_none rfl) (q_load (v := .int .i64 ((n : Nat) : Int)) Try.isAgg3 rfl (s39.rd (j := 0) rfl) rfl) rfl (by decide) (cok1 trivial) ?_
          refine dv (gyes_none rfl) (OpQ.cast (v' := .int .i64 ((n + 1 : Nat) : Int)) (q_int rfl rfl rfl) (congrArg _ ((i64_in (by omega)).trans (by first | rfl | omega | (push_cast; rfl))))) rfl (by decide) (cok2 trivial (cconst rfl)) ?_
          refine x_store1 [] hF s39 (by kernel_rfl) (gyes_none rfl) (j := 0) (v := .int .i64 ((n + 1 : Nat) : Int)) rfl Try.sizeOf3 rfl rfl rfl (lc_scalar rfl) (Nat.le_of_ble_eq_true rfl) trivial trivial rfl rfl (F' := ([(b34, .cells true [.int .i64 ((n + 1 : Nat) : Int)] 1), (b13, .cells true [vB, vC] 1), (b14, .cells true [.string (nth names n)] 1), (bi, .cells true [.int .i64 ((n : Nat) : Int)] 1), (b, .cells true [vB, vC] 2)] ++ marks (d20 :: D))) rfl (fun H40 s41 => ⟨?_, ?_⟩)
          · exact trivial
          refine ⟨_, Wk.U [(1, vN), (2, .pointer (some ⟨b, 0, none⟩)), (4, .int .i64 0), (5, .bool false), (6, .pointer (some ⟨b34, 0, none⟩))] ⟨rfl, rfl, rfl, rfl, rfl, trivial⟩, (n + 1), ⟨_, _, _, _, rfl, (s41.sub (.cons_cons _ (.cons _ (.cons _ (.cons _ (.cons_cons _ (.refl _))))))), ⟨by omega, fun j h1 h2 => by
              by_cases e : j = n
              · subst e; exact hin
              · exact hn.2 j h1 (by omega)⟩⟩, (by omega)⟩
    ·
      replace c1 := of_decide_eq_false c1
      refine ⟨_, Wk.refl _ _, ?_⟩
      show awp _ _ _ _ _ _ _
      refine awp_cond_f rfl ?_
      refine awp_exit_wk ?_
      refine ⟨_, Wk.refl _ _, ?_⟩
      show awp _ _ _ _ _ _ _
      refine awp_seq ?_
      refine awp_regs hF ?_
      refine dv (gyes_none rfl) (q_as (v := .int .i64 0) rfl) rfl (by decide) (cok1 (cconst rfl)) ?_
      refine dv (gyes_none rfl) (q_as (v := .bool true) rfl) rfl (by decide) (cok1 (cconst rfl)) ?_
      refine ⟨_, Wk.refl _ _, ?_⟩
      show awp _ _ _ _ _ _ _
      refine awp_ret_wk ?_
      refine ⟨_, Wk.refl _ _, ?_⟩
      repeat (with_reducible first | refine then_ret ?_ | refine blk_ret ?_ | refine then_exit ?_ | refine blk_exit ?_ | refine blk_exit' (by decide) ?_ | refine blk_normal ?_ | refine then_normal ?_ | refine retq_ret ?_ | refine retq_normal ?_ | refine ng_normal ?_ | refine ng_ret ?_ | refine ng_exit ?_)
      exact ret_noneDs rfl s12 (.tmp rfl (.tmp rfl .nil)) rfl rfl ⟨by rw [chk_none (by omega) hn.2]; rfl, rfl⟩

end Go.Proofs.YtmoldjiooccppaaA
