/-
  Walks of functions of the given program, and what they compute.
-/
import Derived.Test.YtmoldjiooccppaaA20
import Derived.Test.YtmoldjiooccppaaS2
import Derived.Test.YtmoldjiooccppaaA19
import Derived.Test.YtmoldjiooccppaaProg
import Derived.KernelRfl
namespace Go.Proofs.YtmoldjiooccppaaA
set_option linter.unusedVariables false
open Go Go.RowKit Go.Shelf Go.Proofs
/-- The first of some that has the name. -/
def hasName (names : List ByteArray) (s : ByteArray) (x : Nat) : Prop := names[x]? = some s
instance (names : List ByteArray) (s : ByteArray) (x : Nat) : Decidable (hasName names s x) := inferInstanceAs (Decidable (names[x]? = some s))
def findL (l : List Nat) (names : List ByteArray) (s : ByteArray) : Option Nat := l.find? fun x => decide (hasName names s x)
def findV : Option Nat → Value
  | some x => .tuple #[.int .i64 (x : Nat), .bool true]
  | none => .tuple #[.int .i64 0, .bool false]
theorem take_all {l : List Nat} {k x : Nat} {p : Nat → Prop} (hx : l[k]? = some x) (h : ∀ y ∈ l.take k, ¬ p y) (hn : ¬ p x) : ∀ y ∈ l.take (k + 1), ¬ p y := by
  intro y hy
  rw [List.take_add_one, hx] at hy
  rcases List.mem_append.1 hy with h1 | h1
  · exact h y h1
  · simp at h1; subst h1; exact hn
theorem find_yes {l : List Nat} {k x : Nat} {p : Nat → Prop} [DecidablePred p] (hx : l[k]? = some x) (h : ∀ y ∈ l.take k, ¬ p y) (hp : p x) : l.find? (fun x => decide (p x)) = some x := by
  obtain ⟨hk, rfl⟩ := List.getElem?_eq_some_iff.1 hx
  rw [List.find?_eq_some_iff_append]
  refine ⟨by simpa using hp, l.take k, l.drop (k + 1), by simp, fun y hy => by simpa using h y hy⟩
theorem find_no {l : List Nat} {p : Nat → Prop} [DecidablePred p] (h : ∀ y ∈ l.take l.length, ¬ p y) : l.find? (fun x => decide (p x)) = none := by
  rw [List.find?_eq_none]
  intro y hy
  rw [List.take_length] at h
  simpa using h y hy
theorem has_yes {names : List ByteArray} {s : ByteArray} {x : Nat} (hx : x < names.length) (h : names[x] = s) : hasName names s x := by
  unfold hasName; rw [List.getElem?_eq_getElem hx, h]
theorem has_no {names : List ByteArray} {s : ByteArray} {x : Nat} (hx : x < names.length) (h : ¬ names[x] = s) : ¬ hasName names s x := by
  unfold hasName; rw [List.getElem?_eq_getElem hx]; simpa using h
theorem has_out {names : List ByteArray} {s : ByteArray} {x : Nat} (hx : ¬ x < names.length) : ¬ hasName names s x := by
  unfold hasName; rw [List.getElem?_eq_none (by omega)]; simp
set_option maxRecDepth 100000 in
set_option maxHeartbeats 2000000 in
theorem find_ok {H0 : AHeap} {n0 : Nat} (h0 : H0.length = n0) (s : ByteArray) (hs : s.size ≤ 140737488355328) (B C : List Nat) (names : List ByteArray) (vB vC vN : Value) (hSB : Sl u32v H0 vB B) (hSC : Sl u32v H0 vC C) (hN : Sl strv H0 vN names) (hB1 : B.length < 4294967296) (hBv : ∀ x ∈ B, x < 4294967296) (hCv : ∀ x ∈ C, x < 4294967296) (hC1 : C.length ≤ 4294967296) : ACalls Try.prog 13 [.agg #[vB, vC], .string s, vN] H0 (Rets (findV (findL (walkL B C s) names s)) H0) := by
  have hF : Wd Fence.wide := .inl rfl
  have hM : Try.prog.follows .mixedOrders = true := by kernel_rfl
  refine acalls_begin Try.func13 rfl Try.ntmps13 rfl ?_
  refine awp_seq ?_
  refine awp_reg hF ?_
  refine sn hF (gyes_none rfl) (q_boxN 1 (loc_len h0 rfl) (by conv => lhs; whnf) (by first | exact trivial | exact (Sl.lc (Sl.app (by assumption) _)).1) rfl) rfl (by decide) (cok1 trivial) (List.append_assoc _ _ _) ?_
  refine sn hF (gyes_none rfl) (q_boxN 1 (loc_len h0 rfl) (by conv => lhs; whnf) (by first | exact trivial | exact (Sl.lc (Sl.app (by assumption) _)).1) rfl) rfl (by decide) (cok1 trivial) (List.append_assoc _ _ _) ?_
  refine sn hF (gyes_none rfl) (q_boxN 1 (loc_len h0 rfl) (by conv => lhs; whnf) (by first | exact trivial | exact (Sl.lc (Sl.app (by assumption) _)).1) hN.cells) rfl (by decide) (cok1 trivial) (List.append_assoc _ _ _) ?_
  refine sn hF (gyes_none rfl) (q_allocN 1 (loc_len h0 rfl) Try.zeroValue3 (by first | exact flat_scalar rfl | exact flat_agg rfl) rfl) rfl (by decide) (by simp [Op.operands, Call.operands]) (List.append_assoc _ _ _) ?_
  refine sn hF (gyes_none rfl) (q_allocN 1 (loc_len h0 rfl) Try.zeroValue4 (by first | exact flat_scalar rfl | exact flat_agg rfl) rfl) rfl (by decide) (by simp [Op.operands, Call.operands]) (List.append_assoc _ _ _) ?_
  refine ⟨_, Wk.refl _ _, ?_⟩
  show awp _ _ _ _ _ _ _
  refine awp_seq ?_
  refine awp_seq ?_
  refine awp_reg hF ?_
  refine sv hF (gyes_none rfl) (q_loadAgg Try.isAgg26 Try.sizeOf26 rfl (by first | exact loc_rd h0 rfl | exact frm_rd (by assumption) | exact frm_rd' (by assumption) | assumption) (by first | (simp; done) | exact Nat.le_of_ble_eq_true rfl) rfl) rfl (by decide) (cok1 trivial) ?_
  refine sv hF (gyes_none rfl) (q_load Try.isAgg9 rfl (by first | exact loc_rd h0 rfl | exact frm_rd (by assumption) | exact frm_rd' (by assumption) | assumption) rfl) rfl (by decide) (cok1 trivial) ?_
  refine sn hF (gyes_none rfl) (q_call Try.call9 rfl (by simp [AObj.wr]) (walk_ok (b0 := n0 + 5) (b1 := n0 + 6) (loc_len h0 rfl) s vB vC rfl rfl)) rfl (by decide) (call_ok rfl) (List.append_assoc _ _ _) ?_
  refine ⟨_, Wk.refl _ _, ?_⟩
  show awp _ _ _ _ _ _ _
  refine awp_block ?_
  refine range_begin h0 (m := 7) rfl rfl Try.call21 (fun fn lp hlp => ?_)
  refine (walk1_ok (H0 := H0 ++ [.cells true [vB, vC] 1, .cells true [.string s] 1, .cells true [vN] 1, .cells true [.int .i64 0] 1, .cells true [.bool false] 1, .cells true [vB, vC] 1, .cells true [.string s] 1, .mark, lp .ready none]) rfl s hs B C vB vC hB1 hBv hCv hC1 _ (n0 + 5) (n0 + 6) (fun k H => H = H0 ++ [.cells true [vB, vC] 1, .cells true [.string s] 1, .cells true [vN] 1, .cells true [.int .i64 0] 1, .cells true [.bool false] 1, .cells true [vB, vC] 1, .cells true [.string s] 1, .mark, lp .ready none] ∧ ∀ y ∈ (walkL B C s).take k, ¬ hasName names s y)
    (fun k' H => ∃ k x, k' = k + 1 ∧ (walkL B C s)[k]? = some x ∧ hasName names s x ∧ (∀ y ∈ (walkL B C s).take k, ¬ hasName names s y) ∧ H = H0 ++ [.cells true [vB, vC] 1, .cells true [.string s] 1, .cells true [vN] 1, .cells true [.int .i64 ((x : Nat) : Int)] 1, .cells true [.bool true] 1, .cells true [vB, vC] 1, .cells true [.string s] 1, .mark, lp .done (some .ret)]) ?h00 ?hb ?round).mono ?after
  case h00 => exact ⟨rfl, fun y hy => by simp at hy⟩
  case hb =>
    rintro k H ⟨rfl, _⟩
    exact ⟨loc_get h0 rfl, loc_get h0 rfl, hSB.app _, hSC.app _⟩
  case round =>
    rintro k H x ⟨rfl, hk⟩ hx
    refine ylds_roundL hlp h0 rfl rfl rfl (fun l' hF => ?_)
    refine awp_reg hF ?_
    refine sv hF (gyes_none rfl) (q_as (by conv => lhs; whnf)) rfl (by decide) (cok1 trivial) ?_
    refine ⟨_, Wk.refl _ _, ?_⟩
    refine then_normal ?_
    refine ⟨_, _, rfl, rfl, ?body⟩
    case body =>
      show awp _ _ _ _ _ _ _
      refine awp_block ?_
      refine awp_seq ?_
      refine awp_regt hF hM (by kernel_rfl) (by kernel_rfl) ?_
      refine dv (gyes_none rfl) (q_mv (by conv => lhs; whnf)) rfl (by decide) (cok1 trivial) ?_
      refine dv (gyes_none rfl) (q_load Try.isAgg22 rfl (by first | exact loc_rd h0 rfl | exact frm_rd (by assumption) | exact frm_rd' (by assumption) | assumption) rfl) rfl (by decide) (cok1 trivial) ?_
      refine dv (gyes_none rfl) (q_len_sl Try.underlying22 (hN.app _) rfl) rfl (by decide) (call_ok rfl) ?_
      refine dvb (gyes_none rfl) (q_int rfl rfl rfl) rfl (by decide) (cok2 trivial trivial) (fun c1 => ?_) (fun c1 => ?_)
      ·
        try simp only [decide_eq_true_eq, decide_eq_false_iff_not, beq_iff_eq, beq_eq_false_iff_ne, Bool.not_eq_true', Bool.not_eq_false', ne_eq] at c1
        have hxl : x < names.length := by omega
        obtain ⟨bN, oN, cN, vsN, rfl, hRN, hlN, hcN, hgN⟩ := hN.get hxl
        refine dv (gyes_none rfl) (q_mv (by conv => lhs; whnf)) rfl (by decide) (cok1 trivial) ?_
        refine dv (gyes_some rfl rfl) (q_load Try.isAgg22 rfl (by first | exact loc_rd h0 rfl | exact frm_rd (by assumption) | exact frm_rd' (by assumption) | assumption) rfl) rfl (by decide) (cok1 trivial) ?_
        refine dv (gyes_some rfl rfl) (q_mv (by conv => lhs; whnf)) rfl (by decide) (cok1 trivial) ?_
        refine dv (gyes_some rfl rfl) (q_index1 Try.underlying22 Try.sizeOf9 rfl rfl hxl (frm_rd' hRN)) rfl (by decide) (call_ok rfl) ?_
        refine dv (gyes_some rfl rfl) (q_load Try.isAgg9 rfl (frm_rd' hRN) (hgN _ hxl)) rfl (by decide) (call_ok rfl) ?_
        refine dv (gyes_some rfl rfl) (q_load Try.isAgg9 rfl (by first | exact loc_rd h0 rfl | exact frm_rd (by assumption) | exact frm_rd' (by assumption) | assumption) rfl) rfl (by decide) (cok1 trivial) ?_
        refine dvb (gyes_some rfl rfl) (q_streq rfl rfl) rfl (by decide) (cok2 trivial trivial) (fun c2 => ?_) (fun c2 => ?_)
        ·
          try simp only [decide_eq_true_eq, decide_eq_false_iff_not, beq_iff_eq, beq_eq_false_iff_ne, Bool.not_eq_true', Bool.not_eq_false', ne_eq] at c2
          refine dv (gyes_none rfl) (q_pt rfl (by conv => lhs; whnf)) rfl (by decide) (call_ok rfl) ?_
          refine ⟨_, Wk.refl _ _, ?_⟩
          show awp _ _ _ _ _ _ _
          refine awp_cond_t rfl ?_
          refine awp_seq ?_
          refine awp_reg hF ?_
          refine sv hF (gyes_none rfl) (q_mv (by conv => lhs; whnf)) rfl (by decide) (cok1 trivial) ?_
          refine se_store1 hF (gyes_none rfl) rfl Try.sizeOf3 rfl (by conv => lhs; whnf) (by first | exact loc_get h0 rfl | exact frm_get (by assumption)) (by first | exact lc_scalar rfl | exact lc_slice (Rd.live (by first | exact loc_rd h0 rfl | exact frm_rd (by assumption) | exact frm_rd' (by assumption) | assumption)) | exact lc_ptr (Rd.live (by first | exact loc_rd h0 rfl | exact frm_rd (by assumption) | exact frm_rd' (by assumption) | assumption))) (by first | (simp; done) | exact Nat.le_of_ble_eq_true rfl) trivial trivial (by first | exact loc_set h0 _ | exact frm_set _ (by assumption) _) ?_
          refine se_store1 hF (gyes_none rfl) rfl Try.sizeOf4 rfl (by conv => lhs; whnf) (by first | exact loc_get h0 rfl | exact frm_get (by assumption)) (by first | exact lc_scalar rfl | exact lc_slice (Rd.live (by first | exact loc_rd h0 rfl | exact frm_rd (by assumption) | exact frm_rd' (by assumption) | assumption)) | exact lc_ptr (Rd.live (by first | exact loc_rd h0 rfl | exact frm_rd (by assumption) | exact frm_rd' (by assumption) | assumption))) (by first | (simp; done) | exact Nat.le_of_ble_eq_true rfl) trivial (cconst rfl) (by first | exact loc_set h0 _ | exact frm_set _ (by assumption) _) ?_
          refine ⟨_, Wk.refl _ _, ?_⟩
          show awp _ _ _ _ _ _ _
          refine awp_ret_wk ?_
          refine ⟨_, Wk.refl _ _, ?_⟩
          repeat (with_reducible first | refine then_ret ?_ | refine blk_ret ?_ | refine then_exit ?_ | refine blk_exit ?_ | refine blk_exit' (by decide) ?_ | refine blk_normal ?_ | refine then_normal ?_ | refine retq_ret ?_ | refine retq_normal ?_)
          exact ⟨_, rfl, rfl, (fun h => nomatch h), (fun _ => ⟨k, x, rfl, hx, has_yes hxl (by assumption), hk, rfl⟩)⟩
        ·
          try simp only [decide_eq_true_eq, decide_eq_false_iff_not, beq_iff_eq, beq_eq_false_iff_ne, Bool.not_eq_true', Bool.not_eq_false', ne_eq] at c2
          refine dv (gyes_none rfl) (q_pt rfl (by conv => lhs; whnf)) rfl (by decide) (call_ok rfl) ?_
          refine ⟨_, Wk.refl _ _, ?_⟩
          show awp _ _ _ _ _ _ _
          refine awp_cond_f rfl ?_
          refine awp_skip_wk ?_
          refine ⟨_, Wk.refl _ _, ?_⟩
          repeat (with_reducible first | refine then_ret ?_ | refine blk_ret ?_ | refine then_exit ?_ | refine blk_exit ?_ | refine blk_exit' (by decide) ?_ | refine blk_normal ?_ | refine then_normal ?_ | refine retq_ret ?_ | refine retq_normal ?_)
          exact ⟨_, rfl, rfl, (fun _ => ⟨rfl, take_all hx hk (by first | exact has_out (by omega) | exact has_no hxl (by assumption))⟩), (fun h => nomatch h)⟩
      ·
        try simp only [decide_eq_true_eq, decide_eq_false_iff_not, beq_iff_eq, beq_eq_false_iff_ne, Bool.not_eq_true', Bool.not_eq_false', ne_eq] at c1
        refine dv (gyes_none rfl) (q_mv (by conv => lhs; whnf)) rfl (by decide) (cok1 trivial) ?_
        refine dno rfl (.inl rfl) rfl (by decide) ?_
        refine dno rfl (.inl rfl) rfl (by decide) ?_
        refine dno rfl (.inl rfl) rfl (by decide) ?_
        refine dno rfl (.inl rfl) rfl (by decide) ?_
        refine dno rfl (.inl rfl) rfl (by decide) ?_
        refine dno rfl (.inl rfl) rfl (by decide) ?_
        refine dv (gyes_none rfl) (q_pf rfl (by conv => lhs; whnf)) rfl (by decide) (call_ok rfl) ?_
        refine ⟨_, Wk.refl _ _, ?_⟩
        show awp _ _ _ _ _ _ _
        refine awp_cond_f rfl ?_
        refine awp_skip_wk ?_
        refine ⟨_, Wk.refl _ _, ?_⟩
        repeat (with_reducible first | refine then_ret ?_ | refine blk_ret ?_ | refine then_exit ?_ | refine blk_exit ?_ | refine blk_exit' (by decide) ?_ | refine blk_normal ?_ | refine then_normal ?_ | refine retq_ret ?_ | refine retq_normal ?_)
        exact ⟨_, rfl, rfl, (fun _ => ⟨rfl, take_all hx hk (by first | exact has_out (by omega) | exact has_no hxl (by assumption))⟩), (fun h => nomatch h)⟩
  case after =>
    rintro v H' ⟨rfl, ⟨rfl, hno⟩ | ⟨_, _, k, x, _, hx, hp, hno, rfl⟩⟩
    ·
      refine ⟨_, rfl, rfl, .inl ⟨rfl, ?_⟩⟩
      refine ⟨_, Wk.refl _ _, ?_⟩
      show awp _ _ _ _ _ _ _
      refine awp_seq ?_
      refine awp_reg hF ?_
      refine se_store1 hF (gyes_none rfl) rfl Try.sizeOf3 rfl (by conv => lhs; whnf) (by first | exact loc_get h0 rfl | exact frm_get (by assumption)) (by first | exact lc_scalar rfl | exact lc_slice (Rd.live (by first | exact loc_rd h0 rfl | exact frm_rd (by assumption) | exact frm_rd' (by assumption) | assumption)) | exact lc_ptr (Rd.live (by first | exact loc_rd h0 rfl | exact frm_rd (by assumption) | exact frm_rd' (by assumption) | assumption))) (by first | (simp; done) | exact Nat.le_of_ble_eq_true rfl) trivial (cconst rfl) (by first | exact loc_set h0 _ | exact frm_set _ (by assumption) _) ?_
      refine se_store1 hF (gyes_none rfl) rfl Try.sizeOf4 rfl (by conv => lhs; whnf) (by first | exact loc_get h0 rfl | exact frm_get (by assumption)) (by first | exact lc_scalar rfl | exact lc_slice (Rd.live (by first | exact loc_rd h0 rfl | exact frm_rd (by assumption) | exact frm_rd' (by assumption) | assumption)) | exact lc_ptr (Rd.live (by first | exact loc_rd h0 rfl | exact frm_rd (by assumption) | exact frm_rd' (by assumption) | assumption))) (by first | (simp; done) | exact Nat.le_of_ble_eq_true rfl) trivial (cconst rfl) (by first | exact loc_set h0 _ | exact frm_set _ (by assumption) _) ?_
      refine ⟨_, Wk.refl _ _, ?_⟩
      show awp _ _ _ _ _ _ _
      refine awp_ret_wk ?_
      refine ⟨_, Wk.refl _ _, ?_⟩
      repeat (with_reducible first | refine then_ret ?_ | refine blk_ret ?_ | refine then_exit ?_ | refine blk_exit ?_ | refine blk_exit' (by decide) ?_ | refine blk_normal ?_ | refine then_normal ?_ | refine retq_ret ?_ | refine retq_normal ?_)
      refine ret_dropD 7 rfl h0 (.cell rfl Try.isAgg3 (loc_rd h0 rfl) rfl (.cell rfl Try.isAgg4 (loc_rd h0 rfl) rfl .nil)) rfl rfl ⟨?_, rfl⟩
      unfold findL; rw [find_no hno]; rfl
    ·
      refine ⟨_, rfl, rfl, .inr ⟨_, rfl, ?_⟩⟩
      refine awp_ret_wk ?_
      refine ⟨_, Wk.refl _ _, ?_⟩
      repeat (with_reducible first | refine then_ret ?_ | refine blk_ret ?_ | refine then_exit ?_ | refine blk_exit ?_ | refine blk_exit' (by decide) ?_ | refine blk_normal ?_ | refine then_normal ?_ | refine retq_ret ?_ | refine retq_normal ?_)
      refine ret_dropD 7 rfl h0 (.cell rfl Try.isAgg3 (loc_rd h0 rfl) rfl (.cell rfl Try.isAgg4 (loc_rd h0 rfl) rfl .nil)) rfl rfl ⟨?_, rfl⟩
      unfold findL; rw [find_yes hx hno hp]; rfl

end Go.Proofs.YtmoldjiooccppaaA
