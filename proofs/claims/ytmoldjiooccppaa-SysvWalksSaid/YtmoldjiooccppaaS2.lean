/-
  Walks of functions of the given program, and what they compute.
-/
import Derived.Test.YtmoldjiooccppaaS1
import Derived.Test.YtmoldjiooccppaaA19
import Derived.Test.YtmoldjiooccppaaProg
import Derived.KernelRfl
namespace Go.Proofs.YtmoldjiooccppaaA
set_option linter.unusedVariables false
open Go Go.RowKit Go.Shelf Go.Proofs
/-- The walk of a name. -/
def walkGo (C : List Nat) : Nat → Nat → List Nat
  | 0, _ => []
  | n + 1, x => if h : x = 0 ∨ C.length ≤ x then [] else x :: walkGo C n (C[x]'(by omega))
def walkL (B C : List Nat) (s : ByteArray) : List Nat := if h : 0 < B.length then walkGo C C.length (B[hash s % B.length]'(Nat.mod_lt _ h)) else []
theorem go_zero (C : List Nat) (x : Nat) : walkGo C 0 x = [] := rfl
theorem go_stop {C : List Nat} {n x : Nat} (h : x = 0 ∨ C.length ≤ x) : walkGo C n x = [] := by
  cases n with
  | zero => rfl
  | succ n => unfold walkGo; rw [dif_pos h]
theorem go_step {C : List Nat} {n x : Nat} (hn : 0 < n) (h0 : x ≠ 0) (h : x < C.length) : walkGo C n x = x :: walkGo C (n - 1) C[x] := by
  cases n with
  | zero => omega
  | succ n => rw [walkGo, dif_neg (by omega)]; rfl
theorem walk_nil {B C : List Nat} {s : ByteArray} (h : B.length = 0) : walkL B C s = [] := by unfold walkL; rw [dif_neg (by omega)]
theorem walk_pos {B C : List Nat} {s : ByteArray} (h : 0 < B.length) : walkL B C s = walkGo C C.length (B[hash s % B.length]'(Nat.mod_lt _ h)) := by unfold walkL; rw [dif_pos h]
theorem drop_end {α : Type} {l : List α} {k : Nat} (h : l.drop k = []) (hk : k ≤ l.length) : k = l.length := by
  have := List.drop_eq_nil_iff.1 h; omega
theorem drop_step {α : Type} {l l' : List α} {k : Nat} {x : α} (h : l.drop k = x :: l') : l[k]? = some x ∧ l.drop (k + 1) = l' ∧ k + 1 ≤ l.length := by
  refine ⟨?_, ?_, ?_⟩
  · have := congrArg (fun l => l[0]?) h
    simpa using this
  · have := congrArg (List.drop 1) h
    rw [List.drop_drop] at this
    simpa [Nat.add_comm] using this
  · have := congrArg List.length h
    simp at this; omega
set_option maxRecDepth 100000 in
set_option maxHeartbeats 2000000 in
theorem walk1_ok {H0 : AHeap} {n0 : Nat} (h0 : H0.length = n0) (s : ByteArray) (hs : s.size ≤ 140737488355328) (B C : List Nat) (vB vC : Value) (hB1 : B.length < 4294967296) (hBv : ∀ x ∈ B, x < 4294967296) (hCv : ∀ x ∈ C, x < 4294967296) (hC1 : C.length ≤ 4294967296) (y : Value) (b1 b2 : Nat) (I E : Nat → AHeap → Prop) (h00 : I 0 H0)
    (hb : ∀ k H, I k H → H[b1]? = some (.cells true [vB, vC] 1) ∧ H[b2]? = some (.cells true [.string s] 1) ∧ Sl u32v H vB B ∧ Sl u32v H vC C)
    (hy : ∀ (k : Nat) H (x : Nat), I k H → (walkL B C s)[k]? = some x → Ylds Try.prog y [.int .i64 ((x : Nat) : Int)] H (fun b H' => (b = true → I (k + 1) H') ∧ (b = false → E (k + 1) H'))) : ACalls Try.prog 21 [y, .pointer (some ⟨b1, 0, none⟩), .pointer (some ⟨b2, 0, none⟩)] H0 (fun v H' => v = .tuple #[] ∧ (I (walkL B C s).length H' ∨ ∃ k, k < (walkL B C s).length ∧ E (k + 1) H')) := by
  have hF : Wd Fence.wide := .inl rfl
  have hM : Try.prog.follows .mixedOrders = true := by kernel_rfl
  obtain ⟨hb01, hb02, hSB0, hSC0⟩ := hb 0 H0 h00
  refine acalls_begin Try.func21 rfl Try.ntmps21 rfl ?_
  refine awp_seq ?_
  refine awp_seq ?_
  refine awp_reg hF ?_
  refine sv hF (gyes_none rfl) (q_field Try.underlying26 rfl Try.sizeOf24 rfl (by first | exact loc_rd h0 rfl | exact frm_rd (by assumption) | exact frm_rd' (by assumption) | assumption)) rfl (by decide) (cok1 trivial) ?_
  refine sv hF (gyes_none rfl) (q_load Try.isAgg24 rfl (by first | exact loc_rd h0 rfl | exact frm_rd (by assumption) | exact frm_rd' (by assumption) | assumption) rfl) rfl (by decide) (cok1 trivial) ?_
  refine sv hF (gyes_none rfl) (q_len_sl Try.underlying24 (Sl.app (hSB0) _) rfl) rfl (by decide) (call_ok rfl) ?_
  refine svb hF (gyes_none rfl) (q_int rfl rfl rfl) rfl (by decide) (cok2 trivial (cconst rfl)) (fun c1 => ?_) (fun c1 => ?_)
  ·
    try simp only [decide_eq_true_eq, decide_eq_false_iff_not, beq_iff_eq, beq_eq_false_iff_ne, Bool.not_eq_true', Bool.not_eq_false', ne_eq] at c1
    refine ⟨_, Wk.refl _ _, ?_⟩
    show awp _ _ _ _ _ _ _
    refine awp_cond_t rfl ?_
    refine awp_ret_wk ?_
    refine ⟨_, Wk.refl _ _, ?_⟩
    repeat (with_reducible first | refine then_ret ?_ | refine blk_ret ?_ | refine then_exit ?_ | refine blk_exit ?_ | refine blk_exit' (by decide) ?_ | refine blk_normal ?_ | refine then_normal ?_ | refine retq_ret ?_ | refine retq_normal ?_)
    exact ret_same rfl .nil rfl ⟨rfl, .inl (by rw [walk_nil (by omega)]; exact h00)⟩
  ·
    try simp only [decide_eq_true_eq, decide_eq_false_iff_not, beq_iff_eq, beq_eq_false_iff_ne, Bool.not_eq_true', Bool.not_eq_false', ne_eq] at c1
    have hB0 : 0 < B.length := by omega
    have hm : hash s % B.length < B.length := Nat.mod_lt _ hB0
    obtain ⟨bB, oB, cB, vsB, rfl, hRB, hlB, hcB, hgB⟩ := hSB0.get hB0
    refine ⟨_, Wk.refl _ _, ?_⟩
    show awp _ _ _ _ _ _ _
    refine awp_cond_f rfl ?_
    refine awp_skip_wk ?_
    refine ⟨_, Wk.refl _ _, ?_⟩
    show awp _ _ _ _ _ _ _
    refine awp_seq ?_
    refine awp_regt hF hM (by kernel_rfl) (by kernel_rfl) ?_
    refine dv (gyes_none rfl) (q_field Try.underlying26 rfl Try.sizeOf24 rfl (by first | exact loc_rd h0 rfl | exact frm_rd (by assumption) | exact frm_rd' (by assumption) | assumption)) rfl (by decide) (cok1 trivial) ?_
    refine dv (gyes_none rfl) (q_load Try.isAgg24 rfl (by first | exact loc_rd h0 rfl | exact frm_rd (by assumption) | exact frm_rd' (by assumption) | assumption) rfl) rfl (by decide) (cok1 trivial) ?_
    refine dv (gyes_none rfl) (q_loadAgg Try.isAgg26 Try.sizeOf26 rfl (by first | exact loc_rd h0 rfl | exact frm_rd (by assumption) | exact frm_rd' (by assumption) | assumption) (by first | (simp; done) | exact Nat.le_of_ble_eq_true rfl) rfl) rfl (by decide) (cok1 trivial) ?_
    refine dv (gyes_none rfl) (q_load Try.isAgg9 rfl (by first | exact loc_rd h0 rfl | exact frm_rd (by assumption) | exact frm_rd' (by assumption) | assumption) rfl) rfl (by decide) (cok1 trivial) ?_
    refine dv (gyes_none rfl) (q_call0 Try.call20 rfl (bucket_ok (loc_len h0 rfl) s hs B _ vC (hSB0.app _) hB0 hB1)) rfl (by decide) (call_ok rfl) ?_
    refine dv (gyes_none rfl) (q_index1 Try.underlying24 Try.sizeOf31 rfl rfl hm (frm_rd' hRB)) rfl (by decide) (call_ok rfl) ?_
    refine dv (gyes_none rfl) (q_load Try.isAgg31 rfl (frm_rd' hRB) (hgB _ hm)) rfl (by decide) (call_ok rfl) ?_
    refine dv (gyes_none rfl) (q_as (by conv => lhs; whnf)) rfl (by decide) (cok1 trivial) ?_
    refine ⟨_, Wk.refl _ _, ?_⟩
    show awp _ _ _ _ _ _ _
    refine awp_seq ?_
    refine awp_reg hF ?_
    refine sv hF (gyes_none rfl) (q_field Try.underlying26 rfl Try.sizeOf24 rfl (by first | exact loc_rd h0 rfl | exact frm_rd (by assumption) | exact frm_rd' (by assumption) | assumption)) rfl (by decide) (cok1 trivial) ?_
    refine sv hF (gyes_none rfl) (q_load Try.isAgg24 rfl (by first | exact loc_rd h0 rfl | exact frm_rd (by assumption) | exact frm_rd' (by assumption) | assumption) rfl) rfl (by decide) (cok1 trivial) ?_
    refine sv hF (gyes_none rfl) (q_len_sl Try.underlying24 (Sl.app (hSC0) _) rfl) rfl (by decide) (call_ok rfl) ?_
    refine sv hF (gyes_none rfl) (q_mv (by conv => lhs; whnf)) rfl (by decide) (cok1 (cconst rfl)) ?_
    refine ⟨_, Wk.refl _ _, ?_⟩
    show awp _ _ _ _ _ _ _
    refine awp_block ?_
    refine awp_wk (Wk.U [(0, y), (1, .pointer (some ⟨b1, 0, none⟩)), (2, .pointer (some ⟨b2, 0, none⟩)), (4, .int .u32 ((B[hash s % B.length]'hm : Nat) : Int)), (18, .int .i64 ((C.length : Nat) : Int)), (19, .int .i64 ((0 : Nat) : Int))] ⟨rfl, rfl, rfl, rfl, rfl, rfl, trivial⟩) ?_
    refine awp_loop (fun (p : Nat × Nat × AHeap) st => (walkL B C s).drop p.1 = walkGo C (C.length - p.1) p.2.1 ∧ p.1 ≤ (walkL B C s).length ∧ p.1 ≤ C.length ∧ p.2.1 < 4294967296 ∧ I p.1 p.2.2 ∧ st = ⟨44, U [(0, y), (1, .pointer (some ⟨b1, 0, none⟩)), (2, .pointer (some ⟨b2, 0, none⟩)), (4, .int .u32 ((p.2.1 : Nat) : Int)), (18, .int .i64 ((C.length : Nat) : Int)), (19, .int .i64 ((p.1 : Nat) : Int))], [], p.2.2 ++ []⟩) (fun p => C.length - p.1) (x0 := (0, B[hash s % B.length]'hm, H0)) ?h0 ?round
    case h0 => exact ⟨walk_pos hB0, Nat.zero_le _, Nat.zero_le _, hBv _ (List.getElem_mem hm), h00, rfl⟩
    case round =>
      rintro ⟨k, x, H⟩ _ ⟨hw, hk, hkC, hx, hI, rfl⟩
      dsimp only at hw hk hkC hx hI
      obtain ⟨hb1, hb2, hSB, hSC⟩ := hb k H hI
      show awp _ _ _ _ _ _ (⟨44, U [(0, y), (1, .pointer (some ⟨b1, 0, none⟩)), (2, .pointer (some ⟨b2, 0, none⟩)), (4, .int .u32 ((x : Nat) : Int)), (18, .int .i64 ((C.length : Nat) : Int)), (19, .int .i64 ((k : Nat) : Int))], [], H ++ []⟩ : ASt)
      refine awp_seq ?_
      refine awp_reg hF ?_
      refine svb hF (gyes_none rfl) (q_int rfl rfl rfl) rfl (by decide) (cok2 trivial trivial) (fun c2 => ?_) (fun c2 => ?_)
      ·
        try simp only [decide_eq_true_eq, decide_eq_false_iff_not, beq_iff_eq, beq_eq_false_iff_ne, Bool.not_eq_true', Bool.not_eq_false', ne_eq] at c2
        refine ⟨_, Wk.refl _ _, ?_⟩
        show awp _ _ _ _ _ _ _
        refine awp_seq ?_
        refine awp_cond_t rfl ?_
        refine awp_skip_wk ?_
        refine ⟨_, Wk.refl _ _, ?_⟩
        show awp _ _ _ _ _ _ _
        refine awp_seq ?_
        refine awp_block ?_
        refine awp_seq ?_
        refine awp_seq ?_
        refine awp_reg hF ?_
        refine sv hF (gyes_none rfl) (q_mv (by conv => lhs; whnf)) rfl (by decide) (cok1 trivial) ?_
        refine svb hF (gyes_none rfl) (q_int rfl rfl rfl) rfl (by decide) (cok2 trivial (cconst rfl)) (fun c3 => ?_) (fun c3 => ?_)
        ·
          try simp only [decide_eq_true_eq, decide_eq_false_iff_not, beq_iff_eq, beq_eq_false_iff_ne, Bool.not_eq_true', Bool.not_eq_false', ne_eq] at c3
          refine sv hF (gyes_none rfl) (q_mv (by conv => lhs; whnf)) rfl (by decide) (cok1 trivial) ?_
          refine sno rfl (.inl rfl) rfl (by decide) ?_
          refine sno rfl (.inl rfl) rfl (by decide) ?_
          refine sno rfl (.inl rfl) rfl (by decide) ?_
          refine sno rfl (.inl rfl) rfl (by decide) ?_
          refine sno rfl (.inl rfl) rfl (by decide) ?_
          refine sno rfl (.inl rfl) rfl (by decide) ?_
          refine sv hF (gyes_none rfl) (q_pt rfl (by conv => lhs; whnf)) rfl (by decide) (call_ok rfl) ?_
          refine sv hF (gyes_none rfl) (q_mv (by conv => lhs; whnf)) rfl (by decide) (cok1 trivial) ?_
          refine sno rfl (.inl rfl) rfl (by decide) ?_
          refine sno rfl (.inl rfl) rfl (by decide) ?_
          refine sno rfl (.inl rfl) rfl (by decide) ?_
          refine sno rfl (.inl rfl) rfl (by decide) ?_
          refine sno rfl (.inl rfl) rfl (by decide) ?_
          refine sv hF (gyes_none rfl) (q_pt rfl (by conv => lhs; whnf)) rfl (by decide) (call_ok rfl) ?_
          refine ⟨_, Wk.refl _ _, ?_⟩
          show awp _ _ _ _ _ _ _
          refine awp_cond_t rfl ?_
          refine awp_ret_wk ?_
          refine ⟨_, Wk.refl _ _, ?_⟩
          repeat (with_reducible first | refine then_ret ?_ | refine blk_ret ?_ | refine then_exit ?_ | refine blk_exit ?_ | refine blk_exit' (by decide) ?_ | refine blk_normal ?_ | refine then_normal ?_ | refine retq_ret ?_ | refine retq_normal ?_)
          have e := drop_end (hw.trans (go_stop (by omega))) hk
          subst e
          exact ret_same rfl .nil rfl ⟨rfl, .inl hI⟩
        ·
          try simp only [decide_eq_true_eq, decide_eq_false_iff_not, beq_iff_eq, beq_eq_false_iff_ne, Bool.not_eq_true', Bool.not_eq_false', ne_eq] at c3
          refine sv hF (gyes_none rfl) (q_mv (by conv => lhs; whnf)) rfl (by decide) (cok1 trivial) ?_
          refine sv hF (gyes_some rfl rfl) (q_mv (by conv => lhs; whnf)) rfl (by decide) (cok1 trivial) ?_
          refine sv hF (gyes_some rfl rfl) (q_convin Try.underlying31 Try.underlying3 rfl (i64_in (by omega))) rfl (by decide) (call_ok rfl) ?_
          refine sv hF (gyes_some rfl rfl) (q_field Try.underlying26 rfl Try.sizeOf24 rfl (by first | exact loc_rd h0 rfl | exact frm_rd (by assumption) | exact frm_rd' (by assumption) | assumption)) rfl (by decide) (cok1 trivial) ?_
          refine sv hF (gyes_some rfl rfl) (q_load Try.isAgg24 rfl (by first | exact loc_rd h0 rfl | exact frm_rd (by assumption) | exact frm_rd' (by assumption) | assumption) rfl) rfl (by decide) (cok1 trivial) ?_
          refine sv hF (gyes_some rfl rfl) (q_len_sl Try.underlying24 (Sl.app (hSC) _) rfl) rfl (by decide) (call_ok rfl) ?_
          refine svb hF (gyes_some rfl rfl) (q_int rfl rfl rfl) rfl (by decide) (cok2 trivial trivial) (fun c4 => ?_) (fun c4 => ?_)
          ·
            try simp only [decide_eq_true_eq, decide_eq_false_iff_not, beq_iff_eq, beq_eq_false_iff_ne, Bool.not_eq_true', Bool.not_eq_false', ne_eq] at c4
            refine sv hF (gyes_none rfl) (q_pf rfl (by conv => lhs; whnf)) rfl (by decide) (call_ok rfl) ?_
            refine sv hF (gyes_none rfl) (q_mv (by conv => lhs; whnf)) rfl (by decide) (cok1 trivial) ?_
            refine sno rfl (.inl rfl) rfl (by decide) ?_
            refine sno rfl (.inl rfl) rfl (by decide) ?_
            refine sno rfl (.inl rfl) rfl (by decide) ?_
            refine sno rfl (.inl rfl) rfl (by decide) ?_
            refine sno rfl (.inl rfl) rfl (by decide) ?_
            refine sv hF (gyes_none rfl) (q_pt rfl (by conv => lhs; whnf)) rfl (by decide) (call_ok rfl) ?_
            refine ⟨_, Wk.refl _ _, ?_⟩
            show awp _ _ _ _ _ _ _
            refine awp_cond_t rfl ?_
            refine awp_ret_wk ?_
            refine ⟨_, Wk.refl _ _, ?_⟩
            repeat (with_reducible first | refine then_ret ?_ | refine blk_ret ?_ | refine then_exit ?_ | refine blk_exit ?_ | refine blk_exit' (by decide) ?_ | refine blk_normal ?_ | refine then_normal ?_ | refine retq_ret ?_ | refine retq_normal ?_)
            have e := drop_end (hw.trans (go_stop (by omega))) hk
            subst e
            exact ret_same rfl .nil rfl ⟨rfl, .inl hI⟩
          ·
            try simp only [decide_eq_true_eq, decide_eq_false_iff_not, beq_iff_eq, beq_eq_false_iff_ne, Bool.not_eq_true', Bool.not_eq_false', ne_eq] at c4
            have hxC : x < C.length := by omega
            obtain ⟨hd1, hd2, hd3⟩ := drop_step (hw.trans (go_step (by omega) (by omega) hxC))
            refine sv hF (gyes_none rfl) (q_pf rfl (by conv => lhs; whnf)) rfl (by decide) (call_ok rfl) ?_
            refine sv hF (gyes_none rfl) (q_mv (by conv => lhs; whnf)) rfl (by decide) (cok1 trivial) ?_
            refine sv hF (gyes_some rfl rfl) (q_mv (by conv => lhs; whnf)) rfl (by decide) (cok1 trivial) ?_
            refine sv hF (gyes_some rfl rfl) (q_mv (by conv => lhs; whnf)) rfl (by decide) (cok1 trivial) ?_
            refine sv hF (gyes_some rfl rfl) (q_convin Try.underlying31 Try.underlying3 rfl (i64_in (by omega))) rfl (by decide) (call_ok rfl) ?_
            refine se_yield (gyes_some rfl rfl) rfl rfl (hy k H x hI hd1) (by first | exact trivial | (show _ < _; decide)) (call_ok rfl) ?_
            intro b H' hR
            refine svb hF (gyes_some rfl rfl) (q_not rfl) rfl (by decide) (cok1 trivial) (fun c5 => ?_) (fun c5 => ?_)
            ·
              try simp only [decide_eq_true_eq, decide_eq_false_iff_not, beq_iff_eq, beq_eq_false_iff_ne, Bool.not_eq_true', Bool.not_eq_false', ne_eq] at c5
              refine sv hF (gyes_none rfl) (q_pf rfl (by conv => lhs; whnf)) rfl (by decide) (call_ok rfl) ?_
              refine ⟨_, Wk.refl _ _, ?_⟩
              show awp _ _ _ _ _ _ _
              refine awp_cond_t rfl ?_
              refine awp_ret_wk ?_
              refine ⟨_, Wk.refl _ _, ?_⟩
              repeat (with_reducible first | refine then_ret ?_ | refine blk_ret ?_ | refine then_exit ?_ | refine blk_exit ?_ | refine blk_exit' (by decide) ?_ | refine blk_normal ?_ | refine then_normal ?_ | refine retq_ret ?_ | refine retq_normal ?_)
              exact ret_same rfl .nil rfl ⟨rfl, .inr ⟨k, by omega, hR.2 c5⟩⟩
            ·
              try simp only [decide_eq_true_eq, decide_eq_false_iff_not, beq_iff_eq, beq_eq_false_iff_ne, Bool.not_eq_true', Bool.not_eq_false', ne_eq] at c5
              have hI2 := hR.1 c5
              obtain ⟨hb1', hb2', hSB', hSC'⟩ := hb (k + 1) H' hI2
              obtain ⟨bC, oC, cC, vsC, rfl, hRC, hlC, hcC, hgC⟩ := hSC'.get hxC
              refine sv hF (gyes_none rfl) (q_pf rfl (by conv => lhs; whnf)) rfl (by decide) (call_ok rfl) ?_
              refine ⟨_, Wk.refl _ _, ?_⟩
              show awp _ _ _ _ _ _ _
              refine awp_cond_f rfl ?_
              refine awp_skip_wk ?_
              refine ⟨_, Wk.refl _ _, ?_⟩
              show awp _ _ _ _ _ _ _
              refine awp_reg hF ?_
              refine sv hF (gyes_none rfl) (q_field Try.underlying26 rfl Try.sizeOf24 rfl (by first | exact loc_rd h0 rfl | exact frm_rd (by assumption) | exact frm_rd' (by assumption) | assumption)) rfl (by decide) (cok1 trivial) ?_
              refine sv hF (gyes_none rfl) (q_load Try.isAgg24 rfl (by first | exact loc_rd h0 rfl | exact frm_rd (by assumption) | exact frm_rd' (by assumption) | assumption) rfl) rfl (by decide) (cok1 trivial) ?_
              refine sv hF (gyes_none rfl) (q_mv (by conv => lhs; whnf)) rfl (by decide) (cok1 trivial) ?_
              refine sv hF (gyes_none rfl) (q_index1 Try.underlying24 Try.sizeOf31 rfl rfl hxC (frm_rd' hRC)) rfl (by decide) (call_ok rfl) ?_
              refine sv hF (gyes_none rfl) (q_load Try.isAgg31 rfl (frm_rd' hRC) (hgC _ hxC)) rfl (by decide) (call_ok rfl) ?_
              refine sv hF (gyes_none rfl) (q_as (by conv => lhs; whnf)) rfl (by decide) (cok1 trivial) ?_
              refine ⟨_, Wk.refl _ _, ?_⟩
              show awp _ _ _ _ _ _ _
              refine awp_reg hF ?_
              refine sv hF (gyes_none rfl) (by first | exact q_add64 rfl rfl (by omega) | exact q_int rfl rfl rfl) rfl (by decide) (cok2 trivial (cconst rfl)) ?_
              refine sv hF (gyes_none rfl) (q_mv (by conv => lhs; whnf)) rfl (by decide) (cok1 trivial) ?_
              refine ⟨_, Wk.U [(0, y), (1, .pointer (some ⟨b1, 0, none⟩)), (2, .pointer (some ⟨b2, 0, none⟩)), (4, .int .u32 ((C[x] : Nat) : Int)), (18, .int .i64 ((C.length : Nat) : Int)), (19, .int .i64 (((k + 1) : Nat) : Int))] ⟨rfl, rfl, rfl, rfl, rfl, rfl, trivial⟩, (k + 1, C[x], H'), ⟨by rw [hd2, show C.length - (k + 1) = C.length - k - 1 by omega], hd3, by omega, hCv _ (List.getElem_mem hxC), hI2, rfl⟩, show C.length - (k + 1) < C.length - k by omega⟩
      ·
        try simp only [decide_eq_true_eq, decide_eq_false_iff_not, beq_iff_eq, beq_eq_false_iff_ne, Bool.not_eq_true', Bool.not_eq_false', ne_eq] at c2
        refine ⟨_, Wk.refl _ _, ?_⟩
        show awp _ _ _ _ _ _ _
        refine awp_seq ?_
        refine awp_cond_f rfl ?_
        refine awp_exit_wk ?_
        refine ⟨_, Wk.refl _ _, ?_⟩
        repeat (with_reducible first | refine then_ret ?_ | refine blk_ret ?_ | refine then_exit ?_ | refine blk_exit ?_ | refine blk_exit' (by decide) ?_ | refine blk_normal ?_ | refine then_normal ?_ | refine retq_ret ?_ | refine retq_normal ?_)
        have e := drop_end (hw.trans (by rw [show C.length - k = 0 by omega]; rfl)) hk
        subst e
        exact ret_same rfl .nil rfl ⟨rfl, .inl hI⟩

end Go.Proofs.YtmoldjiooccppaaA
