/-
  Walks of functions of the given program, and what they compute.
-/
import Derived.Test.YtbjlabokijchpaaO1
import Derived.Test.YtbjlabokijchpaaProg
import Derived.KernelRfl
namespace Go.Proofs.YtbjlabokijchpaaA
set_option linter.unusedVariables false
open Go Go.RowKit Go.Shelf Go.Proofs
def Valid (e : List (List Int)) (k : Int) : Prop := 0 ≤ k ∧ k < e.length
instance (e : List (List Int)) (k : Int) : Decidable (Valid e k) := inferInstanceAs (Decidable (_ ∧ _))
def row (e : List (List Int)) (k : Int) : List Int := nth e k.toNat
def onceL (e : List (List Int)) (l : List Int) : List Int := l.foldl (fun a k => if Valid e k ∧ k ∉ a then a ++ [k] else a) []
theorem once_step {e : List (List Int)} {l : List Int} {i : Nat} (hi : i < l.length) : onceL e (l.take (i + 1)) = if Valid e (nth l i) ∧ nth l i ∉ onceL e (l.take i) then onceL e (l.take i) ++ [nth l i] else onceL e (l.take i) := by
  rw [List.take_add_one, List.getElem?_eq_getElem hi, nth_eq hi]
  simp only [Option.toList_some, onceL, List.foldl_append, List.foldl_cons, List.foldl_nil]
  rfl
theorem once_yes {e : List (List Int)} {l o : List Int} {i : Nat} (hi : i < l.length) (h : o = onceL e (l.take i)) (hv : Valid e (nth l i)) (hn : nth l i ∉ o) : o ++ [nth l i] = onceL e (l.take (i + 1)) := by
  subst h; rw [once_step hi, if_pos ⟨hv, hn⟩]
theorem once_no {e : List (List Int)} {l o : List Int} {i : Nat} (hi : i < l.length) (h : o = onceL e (l.take i)) (hv : ¬ Valid e (nth l i) ∨ nth l i ∈ o) : o = onceL e (l.take (i + 1)) := by
  subst h; rw [once_step hi, if_neg]; rintro ⟨h1, h2⟩; exact hv.elim (· h1) (h2 ·)
theorem once_valid (e : List (List Int)) : ∀ (l a : List Int), (∀ k ∈ a, Valid e k) → a.Nodup → (∀ k ∈ l.foldl (fun a k => if Valid e k ∧ k ∉ a then a ++ [k] else a) a, Valid e k) ∧ (l.foldl (fun a k => if Valid e k ∧ k ∉ a then a ++ [k] else a) a).Nodup
  | [], a, h, hn => ⟨h, hn⟩
  | x :: l, a, h, hn => by
    rw [List.foldl_cons]
    split
    · rename_i hx
      refine once_valid e l _ (fun k hk => ?_) (List.nodup_append.2 ⟨hn, by simp, fun p hp q hq => ?_⟩)
      · rcases List.mem_append.1 hk with h1 | h1
        · exact h k h1
        · obtain rfl := List.mem_singleton.1 h1; exact hx.1
      · obtain rfl := List.mem_singleton.1 hq; intro e; subst e; exact hx.2 hp
    · exact once_valid e l a h hn
theorem onceL_valid {e : List (List Int)} {l : List Int} : ∀ k ∈ onceL e l, Valid e k := (once_valid e l [] (by simp) .nil).1
theorem onceL_nodup {e : List (List Int)} {l : List Int} : (onceL e l).Nodup := (once_valid e l [] (by simp) .nil).2
theorem once_len (e : List (List Int)) : ∀ (l a : List Int), (l.foldl (fun a k => if Valid e k ∧ k ∉ a then a ++ [k] else a) a).length ≤ a.length + l.length
  | [], a => by simp
  | x :: l, a => by
    rw [List.foldl_cons]
    refine Nat.le_trans (once_len e l _) ?_
    split <;> simp <;> omega
theorem onceL_len (e : List (List Int)) (l : List Int) : (onceL e l).length ≤ l.length := by have := once_len e l []; rw [List.length_nil, Nat.zero_add] at this; exact this
def without (l : List Int) (n : Int) : List Int := l.filter fun x => decide (x ≠ n)
theorem wo_step {l : List Int} {n : Int} {i : Nat} (hi : i < l.length) : without (l.take (i + 1)) n = without (l.take i) n ++ (if nth l i ≠ n then [nth l i] else []) := by
  rw [List.take_add_one, List.getElem?_eq_getElem hi, nth_eq hi]
  simp only [Option.toList_some, without, List.filter_append, List.filter_cons, List.filter_nil, decide_eq_true_eq]
theorem wo_yes {l o : List Int} {n : Int} {i : Nat} (hi : i < l.length) (h : o = without (l.take i) n) (hn : nth l i ≠ n) : o ++ [nth l i] = without (l.take (i + 1)) n := by
  subst h; rw [wo_step hi, if_pos hn]
theorem wo_no {l o : List Int} {n : Int} {i : Nat} (hi : i < l.length) (h : o = without (l.take i) n) (hn : nth l i = n) : o = without (l.take (i + 1)) n := by
  subst h; rw [wo_step hi, if_neg (fun h => h hn), List.append_nil]
theorem Sl2Z.of {α : Type} {f : α → Value} {H0 : AHeap} {X : Nat → Prop} {Z : Rs} {H : AHeap} {F : List (Nat × AObj)} (hS : St H0 X Z H F) {v : Value} {ll : List (List α)} (h : Sl2Z f Z v ll) : Sl2Z f (Rd H) v ll := h.mono fun b vs sz hz => hS.zrd hz
theorem there2_ok {H0 : AHeap} {X : Nat → Prop} {Z : Rs} {H : AHeap} {F : List (Nat × AObj)} (hS : St H0 X Z H F) {e : List (List Int)} {vE : Value} (hE : Sl2Z intv Z vE e) (hr : Sized e) (n : Int) : ACalls Try.prog 23 [vE, .int .i64 n] H (Rets (.bool (decide (Valid e n))) H) := there_ok e vE (hE.of hS) hr n
set_option maxRecDepth 100000 in
set_option maxHeartbeats 4000000 in
theorem once_ok {H0 : AHeap} (e : List (List Int)) (vE : Value) (hE : Sl2Z intv (Rd H0) vE e) (hr : Sized e) (l : List Int) (vL : Value) (hL : Sl intv H0 vL l) (hl : l.length ≤ 1000000) : ACalls Try.prog 16 [vE, vL] H0 (Fresh intv (onceL e l) H0) := by
  have hF : Wd Fence.wide := .inl rfl
  have hM : Try.prog.follows .mixedOrders = true := by kernel_rfl
  have s0 := St.begin H0
  refine acalls_st Try.func16 rfl Try.ntmps16 rfl ?_
  refine awp_seq ?_
  refine awp_regs hF ?_
  refine dv (gyes_none rfl) (q_as (v := .slice none 0 0) rfl) rfl (by decide) (cok1 (cconst rfl)) ?_
  refine ⟨_, Wk.refl _ _, ?_⟩
  show awp _ _ _ _ _ _ _
  refine awp_seq ?_
  refine awp_regs hF ?_
  refine dv (gyes_none rfl) (q_as (v := .slice none 0 0) rfl) rfl (by decide) (cok1 (cconst rfl)) ?_
  refine ⟨_, Wk.refl _ _, ?_⟩
  show awp _ _ _ _ _ _ _
  refine awp_seq ?_
  refine awp_seq ?_
  refine awp_regs hF ?_
  refine dv (gyes_none rfl) (q_mv (v := vL) rfl) rfl (by decide) (cok1 trivial) ?_
  refine dv (gyes_none rfl) (q_len_sl (l := l) Try.underlying23 (s0.sl hL) rfl) rfl (by decide) (cok1 trivial) ?_
  refine dv (gyes_none rfl) (q_mv (v := .int .i64 0) rfl) rfl (by decide) (cok1 (cconst rfl)) ?_
  refine ⟨_, Wk.refl _ _, ?_⟩
  show awp _ _ _ _ _ _ _
  refine awp_block ?_
  refine awp_nil s0 5 1 rfl (fun b1 H2 hb4 s3 => ?_)
  refine awp_wk (Wk.U [(0, vE), (5, .slice (some ⟨b1, 0, none⟩) (([] : List Int).length) (([] : List Int).length)), (8, vL), (9, .int .i64 ((l.length : Nat) : Int)), (10, .int .i64 0)] ⟨rfl, rfl, rfl, rfl, rfl, trivial⟩) ?_
  refine awp_loop (fun ((i, o) : Nat × (List Int)) st => ∃ (H5 : AHeap) (b : Nat), st = ⟨29, U [(0, vE), (5, .slice (some ⟨b, 0, none⟩) o.length o.length), (8, vL), (9, .int .i64 ((l.length : Nat) : Int)), (10, .int .i64 ((i : Nat) : Int))], [], H5⟩ ∧ St H0 (none0) (Rd H0) H5 [(b, .cells true (o.map intv) 1)] ∧ (o = onceL e (l.take i) ∧ o.length ≤ i)) (fun ((i, o) : Nat × (List Int)) => l.length - i) (x0 := (0, ([] : List Int))) ?h0 ?round
  case h0 =>
    exact ⟨_, _, rfl, s3, ⟨rfl, Nat.le_refl _⟩⟩
  case round =>
    rintro ⟨i, o⟩ _ ⟨H5, b, rfl, s6, ho⟩
    dsimp only at *
    refine awp_seq ?_
    refine awp_regs hF ?_
    refine dvb (gyes_none rfl) (q_int rfl rfl rfl) rfl (by decide) (cok2 trivial trivial) (fun c1 => ?_) (fun c1 => ?_)
    ·
      replace c1 := of_decide_eq_true c1
      refine ⟨_, Wk.refl _ _, ?_⟩
      show awp _ _ _ _ _ _ _
      refine awp_seq ?_
      refine awp_cond_t rfl ?_
      refine awp_skip_wk ?_
      refine ⟨_, Wk.refl _ _, ?_⟩
      show awp _ _ _ _ _ _ _
      refine awp_seq ?_
      refine awp_block ?_
      refine awp_seq ?_
      refine awp_regs hF ?_
      refine dv (gyes_none rfl) (q_index_sl (l := l) (i := i) Try.underlying23 Try.sizeOf3 (s6.sl hL) rfl rfl (by omega)) rfl (by decide) (cok2 trivial trivial) ?_
      refine dv (gyes_none rfl) (q_load_sl (l := l) (i := i) Try.isAgg3 (s6.sl hL) rfl (by omega)) rfl (by decide) (cok1 trivial) ?_
      refine dv (gyes_none rfl) (q_as (v := .int .i64 (nth l i)) rfl) rfl (by decide) (cok1 trivial) ?_
      refine ⟨_, Wk.refl _ _, ?_⟩
      show awp _ _ _ _ _ _ _
      refine awp_seq ?_
      refine awp_regs hF ?_
      refine dv (gyes_none rfl) (q_mv (v := vE) rfl) rfl (by decide) (cok1 trivial) ?_
      refine dv (gyes_none rfl) (q_mv (v := .int .i64 (nth l i)) rfl) rfl (by decide) (cok1 trivial) ?_
      refine dvb (gyes_none rfl) (q_call0 Try.call23 rfl (there2_ok s6 hE hr (nth l i))) rfl (by decide) (call_ok rfl) (fun c2 => ?_) (fun c2 => ?_)
      ·
        replace c2 := of_decide_eq_true c2
        refine dv (gyes_none rfl) (q_mv (v := .bool true) rfl) rfl (by decide) (cok1 trivial) ?_
        refine dv (gyes_some rfl rfl) (q_mv (v := .slice (some ⟨b, 0, none⟩) o.length o.length) rfl) rfl (by decide) (cok1 trivial) ?_
        refine dv (gyes_some rfl rfl) (q_mv (v := .int .i64 (nth l i)) rfl) rfl (by decide) (cok1 trivial) ?_
        refine dvb (gyes_some rfl rfl) (q_call0 Try.call19 rfl (contains_ok o _ (s6.slj (j := 0) rfl (by first | rfl | (simp; done) | omega) (by first | exact Nat.le_refl _ | omega)) (by omega) (nth l i))) rfl (by decide) (call_ok rfl) (fun c3 => ?_) (fun c3 => ?_)
        ·
          replace c3 := of_decide_eq_true c3
          refine dv (gyes_some rfl rfl) (q_not (b := true) rfl) rfl (by decide) (cok1 trivial) ?_
          refine dv (gyes_none rfl) (q_pt (v := .bool false) rfl rfl) rfl (by decide) (call_ok rfl) ?_
          refine ⟨_, Wk.refl _ _, ?_⟩
          show awp _ _ _ _ _ _ _
          refine awp_cond_f rfl ?_
          refine awp_skip_wk ?_
          refine ⟨_, Wk.refl _ _, ?_⟩
          show awp _ _ _ _ _ _ _
          refine awp_regs hF ?_
          refine dv (gyes_none rfl) (OpQ.cast (v' := .int .i64 ((i + 1 : Nat) : Int)) (q_int rfl rfl rfl) (congrArg _ ((i64_in (by omega)).trans (by first | rfl | omega | (push_cast; rfl))))) rfl (by decide) (cok2 trivial (cconst rfl)) ?_
          refine dv (gyes_none rfl) (q_mv (v := .int .i64 ((i + 1 : Nat) : Int)) rfl) rfl (by decide) (cok1 trivial) ?_
          refine ⟨_, Wk.U [(0, vE), (5, .slice (some ⟨b, 0, none⟩) o.length o.length), (8, vL), (9, .int .i64 ((l.length : Nat) : Int)), (10, .int .i64 (((i + 1) : Nat) : Int))] ⟨rfl, rfl, rfl, rfl, rfl, trivial⟩, ((i + 1), o), ⟨_, _, rfl, s6, ⟨once_no (by omega) ho.1 (by first | exact .inl (by assumption) | exact .inr (by assumption)), by dsimp only; omega⟩⟩, (by omega)⟩
        ·
          replace c3 := of_decide_eq_false c3
          refine dv (gyes_some rfl rfl) (q_not (b := false) rfl) rfl (by decide) (cok1 trivial) ?_
          refine dv (gyes_none rfl) (q_pt (v := .bool true) rfl rfl) rfl (by decide) (call_ok rfl) ?_
          refine ⟨_, Wk.refl _ _, ?_⟩
          show awp _ _ _ _ _ _ _
          refine awp_cond_t rfl ?_
          refine awp_regs hF ?_
          refine dv (gyes_none rfl) (q_mv (v := .slice (some ⟨b, 0, none⟩) o.length o.length) rfl) rfl (by decide) (cok1 trivial) ?_
          refine dv (gyes_none rfl) (q_mv (v := .int .i64 (nth l i)) rfl) rfl (by decide) (cok1 trivial) ?_
          refine x_new (fun b => .slice (some ⟨b, 0, none⟩) 1 1) s6 (gyes_none rfl) (q_buildSliceL (ds := [.int .i64 (nth l i)]) [.int .i64 (nth l i)] rfl Try.underlying23 Try.sizeOf3 Try.zeroValue3 rfl (by decide) (by decide) ⟨rfl, trivial⟩ (lvsC (by exact trivial) lvs0) rfl rfl) rfl (by decide) (cok1 trivial) (fun b7 H8 hb10 s9 => ?_)
          refine x_append (l := [(nth l i)]) (f := intv) [] hF s9 (by kernel_rfl) (j := 1) ((o ++ [(nth l i)]).length) (by simp) (gyes_none rfl) Try.underlying23 Try.underlying23 Try.type3 rfl rfl (by decide) rfl rfl rfl rfl (s9.slj (l := [(nth l i)]) (f := intv) (j := 0) rfl rfl (Nat.le_refl _)) (fun x => lc_scalar rfl) (by simp) (by show (2 * _ + 1000) * 8 ≤ _; first | omega | (simp only [List.length_append, List.length_cons, List.length_nil, List.length_take, List.length_drop]; omega)) trivial trivial (by decide) rfl rfl (vs' := (o ++ [(nth l i)]).map intv) (by simp) (fun b11 H12 hb14 s13 => ⟨?_, ?_⟩)
          · exact trivial
          refine dv (gyes_none rfl) (q_as (v := .slice (some ⟨b11, 0, none⟩) ((o ++ [(nth l i)]).length) ((o ++ [(nth l i)]).length)) rfl) rfl (by decide) (cok1 trivial) ?_
          refine ⟨_, Wk.refl _ _, ?_⟩
          show awp _ _ _ _ _ _ _
          refine awp_regs hF ?_
          refine dv (gyes_none rfl) (OpQ.cast (v' := .int .i64 ((i + 1 : Nat) : Int)) (q_int rfl rfl rfl) (congrArg _ ((i64_in (by omega)).trans (by first | rfl | omega | (push_cast; rfl))))) rfl (by decide) (cok2 trivial (cconst rfl)) ?_
          refine dv (gyes_none rfl) (q_mv (v := .int .i64 ((i + 1 : Nat) : Int)) rfl) rfl (by decide) (cok1 trivial) ?_
          refine ⟨_, Wk.U [(0, vE), (5, .slice (some ⟨b11, 0, none⟩) ((o ++ [nth l i]).length) ((o ++ [nth l i]).length)), (8, vL), (9, .int .i64 ((l.length : Nat) : Int)), (10, .int .i64 (((i + 1) : Nat) : Int))] ⟨rfl, rfl, rfl, rfl, rfl, trivial⟩, ((i + 1), (o ++ [nth l i])), ⟨_, _, rfl, (s13.sub (.cons _ (.cons_cons _ (.refl _)))), ⟨once_yes (by omega) ho.1 (by assumption) (by assumption), by simp; omega⟩⟩, (by omega)⟩
      ·
        replace c2 := of_decide_eq_false c2
        refine dv (gyes_none rfl) (q_mv (v := .bool false) rfl) rfl (by decide) (cok1 trivial) ?_
        refine dno rfl (.inl rfl) rfl (by decide) ?_
        refine dno rfl (.inl rfl) rfl (by decide) ?_
        refine dno rfl (.inl rfl) rfl (by decide) ?_
        refine dno rfl (.inl rfl) rfl (by decide) ?_
        refine dv (gyes_none rfl) (q_pf (v := .bool false) rfl rfl) rfl (by decide) (call_ok rfl) ?_
        refine ⟨_, Wk.refl _ _, ?_⟩
        show awp _ _ _ _ _ _ _
        refine awp_cond_f rfl ?_
        refine awp_skip_wk ?_
        refine ⟨_, Wk.refl _ _, ?_⟩
        show awp _ _ _ _ _ _ _
        refine awp_regs hF ?_
        refine dv (gyes_none rfl) (OpQ.cast (v' := .int .i64 ((i + 1 : Nat) : Int)) (q_int rfl rfl rfl) (congrArg _ ((i64_in (by omega)).trans (by first | rfl | omega | (push_cast; rfl))))) rfl (by decide) (cok2 trivial (cconst rfl)) ?_
        refine dv (gyes_none rfl) (q_mv (v := .int .i64 ((i + 1 : Nat) : Int)) rfl) rfl (by decide) (cok1 trivial) ?_
        refine ⟨_, Wk.U [(0, vE), (5, .slice (some ⟨b, 0, none⟩) o.length o.length), (8, vL), (9, .int .i64 ((l.length : Nat) : Int)), (10, .int .i64 (((i + 1) : Nat) : Int))] ⟨rfl, rfl, rfl, rfl, rfl, trivial⟩, ((i + 1), o), ⟨_, _, rfl, s6, ⟨once_no (by omega) ho.1 (by first | exact .inl (by assumption) | exact .inr (by assumption)), by dsimp only; omega⟩⟩, (by omega)⟩
    ·
      replace c1 := of_decide_eq_false c1
      refine ⟨_, Wk.refl _ _, ?_⟩
      show awp _ _ _ _ _ _ _
      refine awp_seq ?_
      refine awp_cond_f rfl ?_
      refine awp_exit_wk ?_
      refine ⟨_, Wk.refl _ _, ?_⟩
      show awp _ _ _ _ _ _ _
      refine awp_seq ?_
      refine awp_regs hF ?_
      refine dv (gyes_none rfl) (q_mv (v := .slice (some ⟨b, 0, none⟩) o.length o.length) rfl) rfl (by decide) (cok1 trivial) ?_
      refine dv (gyes_none rfl) (q_as (v := .slice (some ⟨b, 0, none⟩) o.length o.length) rfl) rfl (by decide) (cok1 trivial) ?_
      refine ⟨_, Wk.refl _ _, ?_⟩
      show awp _ _ _ _ _ _ _
      refine awp_ret_wk ?_
      refine ⟨_, Wk.refl _ _, ?_⟩
      repeat (with_reducible first | refine then_ret ?_ | refine blk_ret ?_ | refine then_exit ?_ | refine blk_exit ?_ | refine blk_exit' (by decide) ?_ | refine blk_normal ?_ | refine then_normal ?_ | refine retq_ret ?_ | refine retq_normal ?_ | refine ng_normal ?_ | refine ng_ret ?_ | refine ng_exit ?_)
      refine ret_is (v := .slice (some ⟨b, 0, none⟩) o.length o.length) rfl (.tmp rfl .nil) rfl ?_
      obtain rfl : o = onceL e l := by rw [ho.1, List.take_of_length_le (by omega)]
      exact fresh_of s6 (j := 0) rfl rfl
set_option maxRecDepth 100000 in
set_option maxHeartbeats 4000000 in
theorem without_ok {H0 : AHeap} (l : List Int) (vL : Value) (hL : Sl intv H0 vL l) (hl : l.length ≤ 1000000) (n : Int) : ACalls Try.prog 22 [vL, .int .i64 n] H0 (Fresh intv (without l n) H0) := by
  have hF : Wd Fence.wide := .inl rfl
  have hM : Try.prog.follows .mixedOrders = true := by kernel_rfl
  have s0 := St.begin H0
  refine acalls_st Try.func22 rfl Try.ntmps22 rfl ?_
  refine awp_seq ?_
  refine awp_regs hF ?_
  refine dv (gyes_none rfl) (q_as (v := .slice none 0 0) rfl) rfl (by decide) (cok1 (cconst rfl)) ?_
  refine ⟨_, Wk.refl _ _, ?_⟩
  show awp _ _ _ _ _ _ _
  refine awp_seq ?_
  refine awp_regs hF ?_
  refine dv (gyes_none rfl) (q_as (v := .slice none 0 0) rfl) rfl (by decide) (cok1 (cconst rfl)) ?_
  refine ⟨_, Wk.refl _ _, ?_⟩
  show awp _ _ _ _ _ _ _
  refine awp_seq ?_
  refine awp_seq ?_
  refine awp_regs hF ?_
  refine dv (gyes_none rfl) (q_as (v := .int .i64 0) rfl) rfl (by decide) (cok1 (cconst rfl)) ?_
  refine ⟨_, Wk.refl _ _, ?_⟩
  show awp _ _ _ _ _ _ _
  refine awp_block ?_
  refine awp_nil s0 5 1 rfl (fun b1 H2 hb4 s3 => ?_)
  refine awp_wk (Wk.U [(0, vL), (1, .int .i64 n), (5, .slice (some ⟨b1, 0, none⟩) (([] : List Int).length) (([] : List Int).length)), (6, .int .i64 0)] ⟨rfl, rfl, rfl, rfl, trivial⟩) ?_
  refine awp_loop (fun ((i, o) : Nat × (List Int)) st => ∃ (H5 : AHeap) (b : Nat), st = ⟨27, U [(0, vL), (1, .int .i64 n), (5, .slice (some ⟨b, 0, none⟩) o.length o.length), (6, .int .i64 ((i : Nat) : Int))], [], H5⟩ ∧ St H0 (none0) (Rd H0) H5 [(b, .cells true (o.map intv) 1)] ∧ (o = without (l.take i) n ∧ o.length ≤ i)) (fun ((i, o) : Nat × (List Int)) => l.length - i) (x0 := (0, ([] : List Int))) ?h0 ?round
  case h0 =>
    exact ⟨_, _, rfl, s3, ⟨rfl, Nat.le_refl _⟩⟩
  case round =>
    rintro ⟨i, o⟩ _ ⟨H5, b, rfl, s6, ho⟩
    dsimp only at *
    refine awp_seq ?_
    refine awp_seq ?_
    refine awp_regs hF ?_
    refine dv (gyes_none rfl) (q_mv (v := .int .i64 ((i : Nat) : Int)) rfl) rfl (by decide) (cok1 trivial) ?_
    refine dv (gyes_none rfl) (q_mv (v := vL) rfl) rfl (by decide) (cok1 trivial) ?_
    refine dv (gyes_none rfl) (q_len_sl (l := l) Try.underlying23 (s6.sl hL) rfl) rfl (by decide) (cok1 trivial) ?_
    refine dvb (gyes_none rfl) (q_int rfl rfl rfl) rfl (by decide) (cok2 trivial trivial) (fun c1 => ?_) (fun c1 => ?_)
    ·
      replace c1 := of_decide_eq_true c1
      refine ⟨_, Wk.refl _ _, ?_⟩
      show awp _ _ _ _ _ _ _
      refine awp_cond_t rfl ?_
      refine awp_skip_wk ?_
      refine ⟨_, Wk.refl _ _, ?_⟩
      show awp _ _ _ _ _ _ _
      refine awp_seq ?_
      refine awp_block ?_
      refine awp_seq ?_
      refine awp_regs hF ?_
      refine dv (gyes_none rfl) (q_mv (v := vL) rfl) rfl (by decide) (cok1 trivial) ?_
      refine dv (gyes_none rfl) (q_mv (v := .int .i64 ((i : Nat) : Int)) rfl) rfl (by decide) (cok1 trivial) ?_
      refine dv (gyes_none rfl) (q_index_sl (l := l) (i := i) Try.underlying23 Try.sizeOf3 (s6.sl hL) rfl rfl (by omega)) rfl (by decide) (cok2 trivial trivial) ?_
      refine dv (gyes_none rfl) (q_load_sl (l := l) (i := i) Try.isAgg3 (s6.sl hL) rfl (by omega)) rfl (by decide) (cok1 trivial) ?_
      refine dv (gyes_none rfl) (q_mv (v := .int .i64 n) rfl) rfl (by decide) (cok1 trivial) ?_
      refine dvb (gyes_none rfl) (q_int rfl rfl rfl) rfl (by decide) (cok2 trivial trivial) (fun c2 => ?_) (fun c2 => ?_)
      ·
        replace c2 := bne_iff_ne.1 c2
        refine ⟨_, Wk.refl _ _, ?_⟩
        show awp _ _ _ _ _ _ _
        refine awp_cond_t rfl ?_
        refine awp_regs hF ?_
        refine dv (gyes_none rfl) (q_mv (v := .slice (some ⟨b, 0, none⟩) o.length o.length) rfl) rfl (by decide) (cok1 trivial) ?_
        refine dv (gyes_none rfl) (q_mv (v := vL) rfl) rfl (by decide) (cok1 trivial) ?_
        refine dv (gyes_none rfl) (q_mv (v := .int .i64 ((i : Nat) : Int)) rfl) rfl (by decide) (cok1 trivial) ?_
        refine dv (gyes_none rfl) (q_index_sl (l := l) (i := i) Try.underlying23 Try.sizeOf3 (s6.sl hL) rfl rfl (by omega)) rfl (by decide) (cok2 trivial trivial) ?_
        refine dv (gyes_none rfl) (q_load_sl (l := l) (i := i) Try.isAgg3 (s6.sl hL) rfl (by omega)) rfl (by decide) (cok1 trivial) ?_
        refine x_new (fun b => .slice (some ⟨b, 0, none⟩) 1 1) s6 (gyes_none rfl) (q_buildSliceL (ds := [.int .i64 (nth l i)]) [.int .i64 (nth l i)] rfl Try.underlying23 Try.sizeOf3 Try.zeroValue3 rfl (by decide) (by decide) ⟨rfl, trivial⟩ (lvsC (by exact trivial) lvs0) rfl rfl) rfl (by decide) (cok1 trivial) (fun b7 H8 hb10 s9 => ?_)
        refine x_append (l := [(nth l i)]) (f := intv) [] hF s9 (by kernel_rfl) (j := 1) ((o ++ [(nth l i)]).length) (by simp) (gyes_none rfl) Try.underlying23 Try.underlying23 Try.type3 rfl rfl (by decide) rfl rfl rfl rfl (s9.slj (l := [(nth l i)]) (f := intv) (j := 0) rfl rfl (Nat.le_refl _)) (fun x => lc_scalar rfl) (by simp) (by show (2 * _ + 1000) * 8 ≤ _; first | omega | (simp only [List.length_append, List.length_cons, List.length_nil, List.length_take, List.length_drop]; omega)) trivial trivial (by decide) rfl rfl (vs' := (o ++ [(nth l i)]).map intv) (by simp) (fun b11 H12 hb14 s13 => ⟨?_, ?_⟩)
        · exact trivial
        refine dv (gyes_none rfl) (q_as (v := .slice (some ⟨b11, 0, none⟩) ((o ++ [(nth l i)]).length) ((o ++ [(nth l i)]).length)) rfl) rfl (by decide) (cok1 trivial) ?_
        refine ⟨_, Wk.refl _ _, ?_⟩
        show awp _ _ _ _ _ _ _
        refine awp_regs hF ?_
        refine dv (gyes_none rfl) (q_mv (v := .int .i64 ((i : Nat) : Int)) rfl) rfl (by decide) (cok1 trivial) ?_
        refine dv (gyes_none rfl) (OpQ.cast (v' := .int .i64 ((i + 1 : Nat) : Int)) (q_int rfl rfl rfl) (congrArg _ ((i64_in (by omega)).trans (by first | rfl | omega | (push_cast; rfl))))) rfl (by decide) (cok2 trivial (cconst rfl)) ?_
        refine dv (gyes_none rfl) (q_as (v := .int .i64 ((i + 1 : Nat) : Int)) rfl) rfl (by decide) (cok1 trivial) ?_
        refine ⟨_, Wk.U [(0, vL), (1, .int .i64 n), (5, .slice (some ⟨b11, 0, none⟩) ((o ++ [nth l i]).length) ((o ++ [nth l i]).length)), (6, .int .i64 (((i + 1) : Nat) : Int))] ⟨rfl, rfl, rfl, rfl, trivial⟩, ((i + 1), (o ++ [nth l i])), ⟨_, _, rfl, (s13.sub (.cons _ (.cons_cons _ (.refl _)))), ⟨wo_yes (by omega) ho.1 (by assumption), by simp; omega⟩⟩, (by omega)⟩
      ·
        replace c2 := bne_eq_false_iff_eq.1 c2
        refine ⟨_, Wk.refl _ _, ?_⟩
        show awp _ _ _ _ _ _ _
        refine awp_cond_f rfl ?_
        refine awp_skip_wk ?_
        refine ⟨_, Wk.refl _ _, ?_⟩
        show awp _ _ _ _ _ _ _
        refine awp_regs hF ?_
        refine dv (gyes_none rfl) (q_mv (v := .int .i64 ((i : Nat) : Int)) rfl) rfl (by decide) (cok1 trivial) ?_
        refine dv (gyes_none rfl) (OpQ.cast (v' := .int .i64 ((i + 1 : Nat) : Int)) (q_int rfl rfl rfl) (congrArg _ ((i64_in (by omega)).trans (by first | rfl | omega | (push_cast; rfl))))) rfl (by decide) (cok2 trivial (cconst rfl)) ?_
        refine dv (gyes_none rfl) (q_as (v := .int .i64 ((i + 1 : Nat) : Int)) rfl) rfl (by decide) (cok1 trivial) ?_
        refine ⟨_, Wk.U [(0, vL), (1, .int .i64 n), (5, .slice (some ⟨b, 0, none⟩) o.length o.length), (6, .int .i64 (((i + 1) : Nat) : Int))] ⟨rfl, rfl, rfl, rfl, trivial⟩, ((i + 1), o), ⟨_, _, rfl, s6, ⟨wo_no (by omega) ho.1 (by omega), by dsimp only; omega⟩⟩, (by omega)⟩
    ·
      replace c1 := of_decide_eq_false c1
      refine ⟨_, Wk.refl _ _, ?_⟩
      show awp _ _ _ _ _ _ _
      refine awp_cond_f rfl ?_
      refine awp_exit_wk ?_
      refine ⟨_, Wk.refl _ _, ?_⟩
      show awp _ _ _ _ _ _ _
      refine awp_seq ?_
      refine awp_regs hF ?_
      refine dv (gyes_none rfl) (q_mv (v := .slice (some ⟨b, 0, none⟩) o.length o.length) rfl) rfl (by decide) (cok1 trivial) ?_
      refine dv (gyes_none rfl) (q_as (v := .slice (some ⟨b, 0, none⟩) o.length o.length) rfl) rfl (by decide) (cok1 trivial) ?_
      refine ⟨_, Wk.refl _ _, ?_⟩
      show awp _ _ _ _ _ _ _
      refine awp_ret_wk ?_
      refine ⟨_, Wk.refl _ _, ?_⟩
      repeat (with_reducible first | refine then_ret ?_ | refine blk_ret ?_ | refine then_exit ?_ | refine blk_exit ?_ | refine blk_exit' (by decide) ?_ | refine blk_normal ?_ | refine then_normal ?_ | refine retq_ret ?_ | refine retq_normal ?_ | refine ng_normal ?_ | refine ng_ret ?_ | refine ng_exit ?_)
      refine ret_is (v := .slice (some ⟨b, 0, none⟩) o.length o.length) rfl (.tmp rfl .nil) rfl ?_
      obtain rfl : o = without l n := by rw [ho.1, List.take_of_length_le (by omega)]
      exact fresh_of s6 (j := 0) rfl rfl

end Go.Proofs.YtbjlabokijchpaaA
