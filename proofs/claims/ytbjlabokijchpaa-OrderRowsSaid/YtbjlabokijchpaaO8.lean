/-
  Walks of functions of the given program, and what they compute.
-/
import Derived.Test.YtbjlabokijchpaaO7
import Derived.Test.YtbjlabokijchpaaProg
import Derived.KernelRfl
namespace Go.Proofs.YtbjlabokijchpaaA
set_option linter.unusedVariables false
open Go Go.RowKit Go.Shelf Go.Proofs
noncomputable def fnd (e : List (List Int)) (al left : List Int) (k : Nat) : Int := ((left.drop k).find? (ok' e al left)).getD (nth left 0)
theorem fnd_end {e : List (List Int)} {al left : List Int} {k : Nat} (h : left.length ≤ k) : fnd e al left k = nth left 0 := by
  unfold fnd; rw [List.drop_eq_nil_iff.2 h]; rfl
theorem fnd_yes {e : List (List Int)} {al left : List Int} {k : Nat} (hk : k < left.length) (h : ok' e al left (nth left k) = true) : fnd e al left k = nth left k := by
  unfold fnd
  rw [List.drop_eq_getElem_cons hk, List.find?_cons, ← nth_eq hk, h]; rfl
theorem fnd_no {e : List (List Int)} {al left : List Int} {k : Nat} (hk : k < left.length) (h : ok' e al left (nth left k) = false) : fnd e al left k = fnd e al left (k + 1) := by
  unfold fnd
  rw [List.drop_eq_getElem_cons hk, List.find?_cons, ← nth_eq hk, h]
theorem fnd_pick {e : List (List Int)} {al left : List Int} (h : left ≠ []) : fnd e al left 0 = pick e al left := by
  unfold fnd; rw [List.drop_zero, (pick_mem h).1]; rfl
theorem FInv.step2 {e : List (List Int)} {al left out : List Int} (h : FInv e al left out) (hl : left ≠ []) : FInv e al (without left (pick e al left)) (out ++ [pick e al left]) ∧ (without left (pick e al left)).length < left.length := by
  have h2 := fin_step2 (e := e) (al := al) h.nd hl
  refine ⟨⟨h2.2.2, fun x hx => h.sub x (List.mem_filter.1 hx).1, ?_, by have := h.len; simp; omega⟩, by omega⟩
  rw [← h.eq, h2.1, List.append_assoc]; rfl
theorem ne_nil {l : List Int} (h : 0 < l.length) : l ≠ [] := fun e => by rw [e] at h; exact absurd h (Nat.lt_irrefl 0)
set_option maxRecDepth 100000 in
set_option maxHeartbeats 4000000 in
theorem rfirst0_ok {H0 : AHeap} (e : List (List Int)) (vE : Value) (hE : Sl2Z intv (Rd H0) vE e) (hr : Sized e) (l : List Int) (vL : Value) (hL : Sl intv H0 vL l) (hl : l.length ≤ 1000000) (al : List Int) (hae : onceL e l = al) : ACalls Try.prog 11 [vE, vL] H0 (Fresh intv (fin e al al.length al) H0) := by
  have hF : Wd Fence.wide := .inl rfl
  have hM : Try.prog.follows .mixedOrders = true := by kernel_rfl
  have hnd : al.Nodup := hae ▸ onceL_nodup
  have hsv : ∀ x ∈ al, Valid e x := hae ▸ onceL_valid
  have hal : al.length ≤ 1000000 := hae ▸ Nat.le_trans (onceL_len e l) hl
  have s0 := St.begin H0
  refine acalls_st Try.func11 rfl Try.ntmps11 rfl ?_
  refine awp_seq ?_
  refine awp_regs hF ?_
  refine dv (gyes_none rfl) (q_as (v := .slice none 0 0) rfl) rfl (by decide) (cok1 (cconst rfl)) ?_
  refine ⟨_, Wk.refl _ _, ?_⟩
  show awp _ _ _ _ _ _ _
  refine awp_seq ?_
  refine awp_regs hF ?_
  refine dv (gyes_none rfl) (q_as (v := .slice none 0 0) rfl) rfl (by decide) (cok1 (cconst rfl)) ?_
  refine dv (gyes_none rfl) (q_as (v := .slice none 0 0) rfl) rfl (by decide) (cok1 (cconst rfl)) ?_
  refine ⟨_, Wk.refl _ _, ?_⟩
  show awp _ _ _ _ _ _ _
  refine awp_seq ?_
  refine awp_seq ?_
  refine awp_regs hF ?_
  refine dv (gyes_none rfl) (q_as (v := .int .i64 0) rfl) rfl (by decide) (cok1 (cconst rfl)) ?_
  refine ⟨_, Wk.refl _ _, ?_⟩
  show awp _ _ _ _ _ _ _
  refine awp_block ?_
  refine awp_nil s0 5 1 rfl (fun b1 H2 hb4 s3 => ?_)
  refine awp_wk (Wk.U [(0, vE), (1, vL), (5, .slice (some ⟨b1, 0, none⟩) (([] : List Int).length) (([] : List Int).length)), (6, .slice none 0 0), (7, .int .i64 0)] ⟨rfl, rfl, rfl, rfl, rfl, trivial⟩) ?_
  refine awp_loop (fun ((i, o) : Nat × (List Int)) st => ∃ (H5 : AHeap) (b : Nat), st = ⟨83, U [(0, vE), (1, vL), (5, .slice (some ⟨b, 0, none⟩) o.length o.length), (6, .slice none 0 0), (7, .int .i64 ((i : Nat) : Int))], [], H5⟩ ∧ St H0 (none0) (Rd H0) H5 [(b, .cells true (o.map intv) 1)] ∧ (o = onceL e (l.take i) ∧ o.length ≤ i)) (fun ((i, o) : Nat × (List Int)) => l.length - i) (x0 := (0, ([] : List Int))) ?h0 ?round
  case h0 =>
    exact ⟨_, _, rfl, s3, ⟨rfl, Nat.le_refl _⟩⟩
  case round =>
    rintro ⟨i, o⟩ _ ⟨H5, b, rfl, s6, ho⟩
    dsimp only at *
    refine awp_seq ?_
    refine awp_seq ?_
    refine awp_regs hF ?_
    refine dv (gyes_none rfl) (q_mv (v := .int .i64 ((i : Nat) : Int)) rfl) rfl (by decide) (cok1 trivial) ?_
    refine dv (gyes_none rfl) (q_mv (v := vL) rfl) rfl (by decide) (cok1 trivial) ?_
    refine dv (gyes_none rfl) (q_len_sl (l := l) Try.underlying23 (s6.sl hL) rfl) rfl (by decide) (cok1 trivial) ?_
    refine dvb (gyes_none rfl) (q_int rfl rfl rfl) rfl (by decide) (cok2 trivial trivial) (fun c1 => ?_) (fun c1 => ?_)
    ·
      replace c1 := of_decide_eq_true c1
      refine ⟨_, Wk.refl _ _, ?_⟩
      show awp _ _ _ _ _ _ _
      refine awp_cond_t rfl ?_
      refine awp_skip_wk ?_
      refine ⟨_, Wk.refl _ _, ?_⟩
      show awp _ _ _ _ _ _ _
      refine awp_seq ?_
      refine awp_block ?_
      refine awp_seq ?_
      refine awp_regs hF ?_
      refine dv (gyes_none rfl) (q_mv (v := vL) rfl) rfl (by decide) (cok1 trivial) ?_
      refine dv (gyes_none rfl) (q_mv (v := .int .i64 ((i : Nat) : Int)) rfl) rfl (by decide) (cok1 trivial) ?_
      refine dv (gyes_none rfl) (q_index_sl (l := l) (i := i) Try.underlying23 Try.sizeOf3 (s6.sl hL) rfl rfl (by omega)) rfl (by decide) (cok2 trivial trivial) ?_
      refine dv (gyes_none rfl) (q_load_sl (l := l) (i := i) Try.isAgg3 (s6.sl hL) rfl (by omega)) rfl (by decide) (cok1 trivial) ?_
      refine dvb (gyes_none rfl) (q_int rfl rfl rfl) rfl (by decide) (cok2 trivial (cconst rfl)) (fun c2 => ?_) (fun c2 => ?_)
      ·
        replace c2 := of_decide_eq_true c2
        refine dv (gyes_none rfl) (q_mv (v := .bool true) rfl) rfl (by decide) (cok1 trivial) ?_
        refine dv (gyes_some rfl rfl) (q_mv (v := vL) rfl) rfl (by decide) (cok1 trivial) ?_
        refine dv (gyes_some rfl rfl) (q_mv (v := .int .i64 ((i : Nat) : Int)) rfl) rfl (by decide) (cok1 trivial) ?_
        refine dv (gyes_some rfl rfl) (q_index_sl (l := l) (i := i) Try.underlying23 Try.sizeOf3 (s6.sl hL) rfl rfl (by omega)) rfl (by decide) (cok2 trivial trivial) ?_
        refine dv (gyes_some rfl rfl) (q_load_sl (l := l) (i := i) Try.isAgg3 (s6.sl hL) rfl (by omega)) rfl (by decide) (cok1 trivial) ?_
        refine dv (gyes_some rfl rfl) (q_mv (v := vE) rfl) rfl (by decide) (cok1 trivial) ?_
        refine dv (gyes_some rfl rfl) (q_len_sl2 s6 Try.underlying22 hE rfl) rfl (by decide) (cok1 trivial) ?_
        refine dvb (gyes_some rfl rfl) (q_int rfl rfl rfl) rfl (by decide) (cok2 trivial trivial) (fun c3 => ?_) (fun c3 => ?_)
        ·
          replace c3 := of_decide_eq_true c3
          refine dv (gyes_none rfl) (q_pt (v := .bool true) rfl rfl) rfl (by decide) (call_ok rfl) ?_
          refine dv (gyes_none rfl) (q_mv (v := .bool true) rfl) rfl (by decide) (cok1 trivial) ?_
          refine dv (gyes_some rfl rfl) (q_mv (v := .slice (some ⟨b, 0, none⟩) o.length o.length) rfl) rfl (by decide) (cok1 trivial) ?_
          refine dv (gyes_some rfl rfl) (q_mv (v := vL) rfl) rfl (by decide) (cok1 trivial) ?_
          refine dv (gyes_some rfl rfl) (q_mv (v := .int .i64 ((i : Nat) : Int)) rfl) rfl (by decide) (cok1 trivial) ?_
          refine dv (gyes_some rfl rfl) (q_index_sl (l := l) (i := i) Try.underlying23 Try.sizeOf3 (s6.sl hL) rfl rfl (by omega)) rfl (by decide) (cok2 trivial trivial) ?_
          refine dv (gyes_some rfl rfl) (q_load_sl (l := l) (i := i) Try.isAgg3 (s6.sl hL) rfl (by omega)) rfl (by decide) (cok1 trivial) ?_
          refine dvb (gyes_some rfl rfl) (q_call0 Try.call14 rfl (in_ok o _ (s6.slj (j := 0) rfl (by first | rfl | (simp; done) | omega) (by first | exact Nat.le_refl _ | omega)) (by omega) (nth l i))) rfl (by decide) (call_ok rfl) (fun c4 => ?_) (fun c4 => ?_)
          ·
            replace c4 := of_decide_eq_true c4
            refine dv (gyes_some rfl rfl) (q_not (b := true) rfl) rfl (by decide) (cok1 trivial) ?_
            refine dv (gyes_none rfl) (q_pt (v := .bool false) rfl rfl) rfl (by decide) (call_ok rfl) ?_
            refine ⟨_, Wk.refl _ _, ?_⟩
            show awp _ _ _ _ _ _ _
            refine awp_cond_f rfl ?_
            refine awp_skip_wk ?_
            refine ⟨_, Wk.refl _ _, ?_⟩
            show awp _ _ _ _ _ _ _
            refine awp_regs hF ?_
            refine dv (gyes_none rfl) (q_mv (v := .int .i64 ((i : Nat) : Int)) rfl) rfl (by decide) (cok1 trivial) ?_
            refine dv (gyes_none rfl) (OpQ.cast (v' := .int .i64 ((i + 1 : Nat) : Int)) (q_int rfl rfl rfl) (congrArg _ ((i64_in (by omega)).trans (by first | rfl | omega | (push_cast; rfl))))) rfl (by decide) (cok2 trivial (cconst rfl)) ?_
            refine dv (gyes_none rfl) (q_as (v := .int .i64 ((i + 1 : Nat) : Int)) rfl) rfl (by decide) (cok1 trivial) ?_
            refine ⟨_, Wk.U [(0, vE), (1, vL), (5, .slice (some ⟨b, 0, none⟩) o.length o.length), (6, .slice none 0 0), (7, .int .i64 (((i + 1) : Nat) : Int))] ⟨rfl, rfl, rfl, rfl, rfl, trivial⟩, ((i + 1), o), ⟨_, _, rfl, s6, ⟨once_no (by omega) ho.1 (by first | exact .inr (by assumption) | exact .inl (fun h => by have := h.1; have := h.2; omega)), by dsimp only; omega⟩⟩, (by omega)⟩
          ·
            replace c4 := of_decide_eq_false c4
            refine dv (gyes_some rfl rfl) (q_not (b := false) rfl) rfl (by decide) (cok1 trivial) ?_
            refine dv (gyes_none rfl) (q_pt (v := .bool true) rfl rfl) rfl (by decide) (call_ok rfl) ?_
            refine ⟨_, Wk.refl _ _, ?_⟩
            show awp _ _ _ _ _ _ _
            refine awp_cond_t rfl ?_
            refine awp_regs hF ?_
            refine dv (gyes_none rfl) (q_mv (v := .slice (some ⟨b, 0, none⟩) o.length o.length) rfl) rfl (by decide) (cok1 trivial) ?_
            refine dv (gyes_none rfl) (q_mv (v := vL) rfl) rfl (by decide) (cok1 trivial) ?_
            refine dv (gyes_none rfl) (q_mv (v := .int .i64 ((i : Nat) : Int)) rfl) rfl (by decide) (cok1 trivial) ?_
            refine dv (gyes_none rfl) (q_index_sl (l := l) (i := i) Try.underlying23 Try.sizeOf3 (s6.sl hL) rfl rfl (by omega)) rfl (by decide) (cok2 trivial trivial) ?_
            refine dv (gyes_none rfl) (q_load_sl (l := l) (i := i) Try.isAgg3 (s6.sl hL) rfl (by omega)) rfl (by decide) (cok1 trivial) ?_
            refine x_new (fun b => .slice (some ⟨b, 0, none⟩) 1 1) s6 (gyes_none rfl) (q_buildSliceL (ds := [.int .i64 (nth l i)]) [.int .i64 (nth l i)] rfl Try.underlying23 Try.sizeOf3 Try.zeroValue3 rfl (by decide) (by decide) ⟨rfl, trivial⟩ (lvsC (by exact trivial) lvs0) rfl rfl) rfl (by decide) (cok1 trivial) (fun b7 H8 hb10 s9 => ?_)
            refine x_append (l := [(nth l i)]) (f := intv) [] hF s9 (by kernel_rfl) (j := 1) ((o ++ [(nth l i)]).length) (by simp) (gyes_none rfl) Try.underlying23 Try.underlying23 Try.type3 rfl rfl (by decide) rfl rfl rfl rfl (s9.slj (l := [(nth l i)]) (f := intv) (j := 0) rfl rfl (Nat.le_refl _)) (fun x => lc_scalar rfl) (by simp) (by show (2 * _ + 1000) * 8 ≤ _; first | omega | (simp only [List.length_append, List.length_cons, List.length_nil, List.length_take, List.length_drop]; omega)) trivial trivial (by decide) rfl rfl (vs' := (o ++ [(nth l i)]).map intv) (by simp) (fun b11 H12 hb14 s13 => ⟨?_, ?_⟩)
            · exact trivial
            refine dv (gyes_none rfl) (q_as (v := .slice (some ⟨b11, 0, none⟩) ((o ++ [(nth l i)]).length) ((o ++ [(nth l i)]).length)) rfl) rfl (by decide) (cok1 trivial) ?_
            refine ⟨_, Wk.refl _ _, ?_⟩
            show awp _ _ _ _ _ _ _
            refine awp_regs hF ?_
            refine dv (gyes_none rfl) (q_mv (v := .int .i64 ((i : Nat) : Int)) rfl) rfl (by decide) (cok1 trivial) ?_
            refine dv (gyes_none rfl) (OpQ.cast (v' := .int .i64 ((i + 1 : Nat) : Int)) (q_int rfl rfl rfl) (congrArg _ ((i64_in (by omega)).trans (by first | rfl | omega | (push_cast; rfl))))) rfl (by decide) (cok2 trivial (cconst rfl)) ?_
            refine dv (gyes_none rfl) (q_as (v := .int .i64 ((i + 1 : Nat) : Int)) rfl) rfl (by decide) (cok1 trivial) ?_
            refine ⟨_, Wk.U [(0, vE), (1, vL), (5, .slice (some ⟨b11, 0, none⟩) ((o ++ [nth l i]).length) ((o ++ [nth l i]).length)), (6, .slice none 0 0), (7, .int .i64 (((i + 1) : Nat) : Int))] ⟨rfl, rfl, rfl, rfl, rfl, trivial⟩, ((i + 1), (o ++ [nth l i])), ⟨_, _, rfl, (s13.sub (.cons _ (.cons_cons _ (.refl _)))), ⟨once_yes (by omega) ho.1 ⟨by omega, by omega⟩ (by assumption), by simp; omega⟩⟩, (by omega)⟩
        ·
          replace c3 := of_decide_eq_false c3
          refine dv (gyes_none rfl) (q_pt (v := .bool false) rfl rfl) rfl (by decide) (call_ok rfl) ?_
          refine dv (gyes_none rfl) (q_mv (v := .bool false) rfl) rfl (by decide) (cok1 trivial) ?_
          refine dno rfl (.inl rfl) rfl (by decide) ?_
          refine dno rfl (.inl rfl) rfl (by decide) ?_
          refine dno rfl (.inl rfl) rfl (by decide) ?_
          refine dno rfl (.inl rfl) rfl (by decide) ?_
          refine dno rfl (.inl rfl) rfl (by decide) ?_
          refine dno rfl (.inl rfl) rfl (by decide) ?_
          refine dno rfl (.inl rfl) rfl (by decide) ?_
          refine dv (gyes_none rfl) (q_pf (v := .bool false) rfl rfl) rfl (by decide) (call_ok rfl) ?_
          refine ⟨_, Wk.refl _ _, ?_⟩
          show awp _ _ _ _ _ _ _
          refine awp_cond_f rfl ?_
          refine awp_skip_wk ?_
          refine ⟨_, Wk.refl _ _, ?_⟩
          show awp _ _ _ _ _ _ _
          refine awp_regs hF ?_
          refine dv (gyes_none rfl) (q_mv (v := .int .i64 ((i : Nat) : Int)) rfl) rfl (by decide) (cok1 trivial) ?_
          refine dv (gyes_none rfl) (OpQ.cast (v' := .int .i64 ((i + 1 : Nat) : Int)) (q_int rfl rfl rfl) (congrArg _ ((i64_in (by omega)).trans (by first | rfl | omega | (push_cast; rfl))))) rfl (by decide) (cok2 trivial (cconst rfl)) ?_
          refine dv (gyes_none rfl) (q_as (v := .int .i64 ((i + 1 : Nat) : Int)) rfl) rfl (by decide) (cok1 trivial) ?_
          refine ⟨_, Wk.U [(0, vE), (1, vL), (5, .slice (some ⟨b, 0, none⟩) o.length o.length), (6, .slice none 0 0), (7, .int .i64 (((i + 1) : Nat) : Int))] ⟨rfl, rfl, rfl, rfl, rfl, trivial⟩, ((i + 1), o), ⟨_, _, rfl, s6, ⟨once_no (by omega) ho.1 (by first | exact .inr (by assumption) | exact .inl (fun h => by have := h.1; have := h.2; omega)), by dsimp only; omega⟩⟩, (by omega)⟩
      ·
        replace c2 := of_decide_eq_false c2
        refine dv (gyes_none rfl) (q_mv (v := .bool false) rfl) rfl (by decide) (cok1 trivial) ?_
        refine dno rfl (.inl rfl) rfl (by decide) ?_
        refine dno rfl (.inl rfl) rfl (by decide) ?_
        refine dno rfl (.inl rfl) rfl (by decide) ?_
        refine dno rfl (.inl rfl) rfl (by decide) ?_
        refine dno rfl (.inl rfl) rfl (by decide) ?_
        refine dno rfl (.inl rfl) rfl (by decide) ?_
        refine dno rfl (.inl rfl) rfl (by decide) ?_
        refine dv (gyes_none rfl) (q_pf (v := .bool false) rfl rfl) rfl (by decide) (call_ok rfl) ?_
        refine dv (gyes_none rfl) (q_mv (v := .bool false) rfl) rfl (by decide) (cok1 trivial) ?_
        refine dno rfl (.inl rfl) rfl (by decide) ?_
        refine dno rfl (.inl rfl) rfl (by decide) ?_
        refine dno rfl (.inl rfl) rfl (by decide) ?_
        refine dno rfl (.inl rfl) rfl (by decide) ?_
        refine dno rfl (.inl rfl) rfl (by decide) ?_
        refine dno rfl (.inl rfl) rfl (by decide) ?_
        refine dno rfl (.inl rfl) rfl (by decide) ?_
        refine dv (gyes_none rfl) (q_pf (v := .bool false) rfl rfl) rfl (by decide) (call_ok rfl) ?_
        refine ⟨_, Wk.refl _ _, ?_⟩
        show awp _ _ _ _ _ _ _
        refine awp_cond_f rfl ?_
        refine awp_skip_wk ?_
        refine ⟨_, Wk.refl _ _, ?_⟩
        show awp _ _ _ _ _ _ _
        refine awp_regs hF ?_
        refine dv (gyes_none rfl) (q_mv (v := .int .i64 ((i : Nat) : Int)) rfl) rfl (by decide) (cok1 trivial) ?_
        refine dv (gyes_none rfl) (OpQ.cast (v' := .int .i64 ((i + 1 : Nat) : Int)) (q_int rfl rfl rfl) (congrArg _ ((i64_in (by omega)).trans (by first | rfl | omega | (push_cast; rfl))))) rfl (by decide) (cok2 trivial (cconst rfl)) ?_
        refine dv (gyes_none rfl) (q_as (v := .int .i64 ((i + 1 : Nat) : Int)) rfl) rfl (by decide) (cok1 trivial) ?_
        refine ⟨_, Wk.U [(0, vE), (1, vL), (5, .slice (some ⟨b, 0, none⟩) o.length o.length), (6, .slice none 0 0), (7, .int .i64 (((i + 1) : Nat) : Int))] ⟨rfl, rfl, rfl, rfl, rfl, trivial⟩, ((i + 1), o), ⟨_, _, rfl, s6, ⟨once_no (by omega) ho.1 (by first | exact .inr (by assumption) | exact .inl (fun h => by have := h.1; have := h.2; omega)), by dsimp only; omega⟩⟩, (by omega)⟩
    ·
      replace c1 := of_decide_eq_false c1
      have hoa : al = o := by rw [← hae, ho.1, List.take_of_length_le (by omega)]
      subst hoa
      refine ⟨_, Wk.refl _ _, ?_⟩
      show awp _ _ _ _ _ _ _
      refine awp_cond_f rfl ?_
      refine awp_exit_wk ?_
      refine ⟨_, Wk.refl _ _, ?_⟩
      show awp _ _ _ _ _ _ _
      refine awp_seq ?_
      refine awp_regs hF ?_
      refine x_new (fun b => .slice (some ⟨b, 0, none⟩) 0 0) s6 (gyes_none rfl) (q_emptyLit Try.underlying23 Try.sizeOf3) rfl (by decide) (by simp [Op.operands, Call.operands]) (fun b15 H16 hb18 s17 => ?_)
      refine dv (gyes_none rfl) (q_mv (v := .slice (some ⟨b, 0, none⟩) al.length al.length) rfl) rfl (by decide) (cok1 trivial) ?_
      refine x_new (fun b => .slice (some ⟨b, 0, none⟩) al.length al.length) s17 (gyes_none rfl) (q_append_nullS (l := al) (f := intv) (m' := al.length) (by simp) Try.underlying23 Try.underlying23 Try.type3 rfl rfl (by decide) rfl rfl rfl (s17.getj (j := 0) rfl) (s17.slj (j := 1) rfl rfl (Nat.le_refl _)) (fun x => lc_scalar rfl) (by show (2 * _ + 1000) * 8 ≤ _; first | omega | (simp only [List.length_append, List.length_cons, List.length_nil, List.length_take, List.length_drop]; omega))) rfl (by decide) (cok2 trivial trivial) (fun b19 H20 hb22 s21 => ?_)
      refine dv (gyes_none rfl) (q_as (v := .slice (some ⟨b19, 0, none⟩) al.length al.length) rfl) rfl (by decide) (cok1 trivial) ?_
      refine ⟨_, Wk.refl _ _, ?_⟩
      show awp _ _ _ _ _ _ _
      refine awp_seq ?_
      refine awp_block ?_
      refine awp_nil s21 6 1 rfl (fun b23 H24 hb26 s25 => ?_)
      refine awp_wk (Wk.U [(0, vE), (5, .slice (some ⟨b, 0, none⟩) al.length al.length), (6, .slice (some ⟨b23, 0, none⟩) (([] : List Int).length) (([] : List Int).length)), (8, .slice (some ⟨b19, 0, none⟩) al.length al.length)] ⟨rfl, rfl, rfl, rfl, trivial⟩) ?_
      refine awp_loop (fun ((left, out) : (List Int) × (List Int)) st => ∃ (H27 : AHeap) (bo : Nat) (bl : Nat), st = ⟨83, U [(0, vE), (5, .slice (some ⟨b, 0, none⟩) al.length al.length), (6, .slice (some ⟨bo, 0, none⟩) out.length out.length), (8, .slice (some ⟨bl, 0, none⟩) left.length left.length)], [], H27⟩ ∧ St H0 (none0) (Rd H0) H27 [(bo, .cells true (out.map intv) 1), (bl, .cells true (left.map intv) 1), (b, .cells true (al.map intv) 1)] ∧ (FInv e al left out)) (fun ((left, out) : (List Int) × (List Int)) => left.length) (x0 := (al, ([] : List Int))) ?h0 ?round
      case h0 =>
        exact ⟨_, _, _, rfl, (s25.sub (.cons_cons _ (.cons_cons _ (.cons _ (.cons_cons _ (.refl _)))))), FInv.start hnd⟩
      case round =>
        rintro ⟨left, out⟩ _ ⟨H27, bo, bl, rfl, s28, hf⟩
        dsimp only at *
        refine awp_seq ?_
        refine awp_seq ?_
        refine awp_regs hF ?_
        refine dv (gyes_none rfl) (q_mv (v := .slice (some ⟨bl, 0, none⟩) left.length left.length) rfl) rfl (by decide) (cok1 trivial) ?_
        refine dv (gyes_none rfl) (q_len_slice Try.underlying23 rfl (s28.rd (j := 1) rfl)) rfl (by decide) (cok1 trivial) ?_
        refine dvb (gyes_none rfl) (q_int rfl rfl rfl) rfl (by decide) (cok2 trivial (cconst rfl)) (fun c5 => ?_) (fun c5 => ?_)
        ·
          replace c5 := of_decide_eq_true c5
          have hpos : 0 < left.length := by omega
          have hfl := hf.len
          refine ⟨_, Wk.refl _ _, ?_⟩
          show awp _ _ _ _ _ _ _
          refine awp_cond_t rfl ?_
          refine awp_skip_wk ?_
          refine ⟨_, Wk.refl _ _, ?_⟩
          show awp _ _ _ _ _ _ _
          refine awp_block ?_
          refine awp_seq ?_
          refine awp_regs hF ?_
          refine dv (gyes_none rfl) (q_mv (v := .slice (some ⟨bl, 0, none⟩) left.length left.length) rfl) rfl (by decide) (cok1 trivial) ?_
          refine dv (gyes_none rfl) (OpQ.cast (v' := .pointer (some ⟨bl, 0, none⟩)) (q_index1 (i := 0) Try.underlying23 Try.sizeOf3 rfl rfl (by omega) (s28.rd (j := 1) rfl)) (by rw [Nat.zero_add])) rfl (by decide) (cok2 trivial (cconst rfl)) ?_
          refine dv (gyes_none rfl) (q_load (v := intv (nth left 0)) Try.isAgg3 rfl (s28.rd (j := 1) rfl) (get_nth (w := 0) (by omega))) rfl (by decide) (cok1 trivial) ?_
          refine dv (gyes_none rfl) (q_as (v := .int .i64 (nth left 0)) rfl) rfl (by decide) (cok1 trivial) ?_
          refine ⟨_, Wk.refl _ _, ?_⟩
          show awp _ _ _ _ _ _ _
          refine awp_seq ?_
          refine awp_seq ?_
          refine awp_regs hF ?_
          refine dv (gyes_none rfl) (q_mv (v := .slice (some ⟨bl, 0, none⟩) left.length left.length) rfl) rfl (by decide) (cok1 trivial) ?_
          refine dv (gyes_none rfl) (q_len_slice Try.underlying23 rfl (s28.rd (j := 1) rfl)) rfl (by decide) (cok1 trivial) ?_
          refine dv (gyes_none rfl) (OpQ.cast (v' := .int .i64 (((left.length : Nat) : Int) - 1)) (q_int rfl rfl rfl) (congrArg _ (i64_in (by omega)))) rfl (by decide) (cok2 trivial (cconst rfl)) ?_
          refine dv (gyes_none rfl) (q_as (v := .int .i64 (((left.length : Nat) : Int) - 1)) rfl) rfl (by decide) (cok1 trivial) ?_
          refine ⟨_, Wk.refl _ _, ?_⟩
          show awp _ _ _ _ _ _ _
          refine awp_block ?_
          refine awp_wk (Wk.U [(0, vE), (5, .slice (some ⟨b, 0, none⟩) al.length al.length), (6, .slice (some ⟨bo, 0, none⟩) out.length out.length), (8, .slice (some ⟨bl, 0, none⟩) left.length left.length), (9, .int .i64 (nth left 0)), (10, .int .i64 ((left.length : Int) - 1))] ⟨rfl, rfl, rfl, rfl, rfl, rfl, trivial⟩) ?_
          refine awp_loop (fun ((z, v) : Int × Int) st => ∃ (H29 : AHeap), st = ⟨83, U [(0, vE), (5, .slice (some ⟨b, 0, none⟩) al.length al.length), (6, .slice (some ⟨bo, 0, none⟩) out.length out.length), (8, .slice (some ⟨bl, 0, none⟩) left.length left.length), (9, .int .i64 v), (10, .int .i64 z)], [], H29⟩ ∧ St H0 (none0) (Rd H0) H29 [(bo, .cells true (out.map intv) 1), (bl, .cells true (left.map intv) 1), (b, .cells true (al.map intv) 1)] ∧ (-1 ≤ z ∧ z < left.length ∧ v = fnd e al left (z + 1).toNat)) (fun ((z, v) : Int × Int) => (z + 1).toNat) (x0 := (((left.length : Int) - 1), (nth left 0))) ?h0 ?round
          case h0 =>
            exact ⟨_, rfl, s28, ⟨by omega, by omega, (fnd_end (by omega)).symm⟩⟩
          case round =>
            rintro ⟨z, v⟩ _ ⟨H29, rfl, s30, hv⟩
            dsimp only at *
            refine awp_seq ?_
            refine awp_seq ?_
            refine awp_regs hF ?_
            refine dv (gyes_none rfl) (q_mv (v := .int .i64 z) rfl) rfl (by decide) (cok1 trivial) ?_
            refine dvb (gyes_none rfl) (q_int rfl rfl rfl) rfl (by decide) (cok2 trivial (cconst rfl)) (fun c6 => ?_) (fun c6 => ?_)
            ·
              replace c6 := of_decide_eq_true c6
              have hzl : z.toNat < left.length := by omega
              refine ⟨_, Wk.refl _ _, ?_⟩
              show awp _ _ _ _ _ _ _
              refine awp_cond_t rfl ?_
              refine awp_skip_wk ?_
              refine ⟨_, Wk.refl _ _, ?_⟩
              show awp _ _ _ _ _ _ _
              refine awp_seq ?_
              refine awp_block ?_
              refine awp_seq ?_
              refine awp_regs hF ?_
              refine dv (gyes_none rfl) (q_mv (v := vE) rfl) rfl (by decide) (cok1 trivial) ?_
              refine dv (gyes_none rfl) (q_mv (v := .slice (some ⟨b, 0, none⟩) al.length al.length) rfl) rfl (by decide) (cok1 trivial) ?_
              refine dv (gyes_none rfl) (q_mv (v := .slice (some ⟨bl, 0, none⟩) left.length left.length) rfl) rfl (by decide) (cok1 trivial) ?_
              refine dv (gyes_none rfl) (q_mv (v := .slice (some ⟨bl, 0, none⟩) left.length left.length) rfl) rfl (by decide) (cok1 trivial) ?_
              refine dv (gyes_none rfl) (q_mv (v := .int .i64 z) rfl) rfl (by decide) (cok1 trivial) ?_
              refine dv (gyes_none rfl) (OpQ.cast (v' := .pointer (some ⟨bl, z.toNat, none⟩)) (q_indexI1 (z := z) Try.underlying23 Try.sizeOf3 rfl rfl (by omega) (by omega) (s30.rd (j := 1) rfl)) (by rw [Nat.zero_add])) rfl (by decide) (cok2 trivial trivial) ?_
              refine dv (gyes_none rfl) (q_load (v := intv (nth left z.toNat)) Try.isAgg3 rfl (s30.rd (j := 1) rfl) (get_nth (w := 0) (by omega))) rfl (by decide) (cok1 trivial) ?_
              refine dvb (gyes_none rfl) (q_call0 Try.call21 rfl (next_ok e _ (hE.of s30) hr al _ (s30.slj (j := 2) rfl (by first | rfl | (simp; done) | omega) (by first | exact Nat.le_refl _ | omega)) hal left _ (s30.slj (j := 1) rfl (by first | rfl | (simp; done) | omega) (by first | exact Nat.le_refl _ | omega)) (by omega) (nth left z.toNat) (hf.sub _ (nthI_mem hzl)) hf.sub hsv)) rfl (by decide) (call_ok rfl) (fun c7 => ?_) (fun c7 => ?_)
              ·
                refine ⟨_, Wk.refl _ _, ?_⟩
                show awp _ _ _ _ _ _ _
                refine awp_cond_t rfl ?_
                refine awp_regs hF ?_
                refine dv (gyes_none rfl) (q_mv (v := .slice (some ⟨bl, 0, none⟩) left.length left.length) rfl) rfl (by decide) (cok1 trivial) ?_
                refine dv (gyes_none rfl) (q_mv (v := .int .i64 z) rfl) rfl (by decide) (cok1 trivial) ?_
                refine dv (gyes_none rfl) (OpQ.cast (v' := .pointer (some ⟨bl, z.toNat, none⟩)) (q_indexI1 (z := z) Try.underlying23 Try.sizeOf3 rfl rfl (by omega) (by omega) (s30.rd (j := 1) rfl)) (by rw [Nat.zero_add])) rfl (by decide) (cok2 trivial trivial) ?_
                refine dv (gyes_none rfl) (q_load (v := intv (nth left z.toNat)) Try.isAgg3 rfl (s30.rd (j := 1) rfl) (get_nth (w := 0) (by omega))) rfl (by decide) (cok1 trivial) ?_
                refine dv (gyes_none rfl) (q_as (v := .int .i64 (nth left z.toNat)) rfl) rfl (by decide) (cok1 trivial) ?_
                refine ⟨_, Wk.refl _ _, ?_⟩
                show awp _ _ _ _ _ _ _
                refine awp_regs hF ?_
                refine dv (gyes_none rfl) (q_mv (v := .int .i64 z) rfl) rfl (by decide) (cok1 trivial) ?_
                refine dv (gyes_none rfl) (OpQ.cast (v' := .int .i64 (z - 1)) (q_int rfl rfl rfl) (congrArg _ (i64_in (by omega)))) rfl (by decide) (cok2 trivial (cconst rfl)) ?_
                refine dv (gyes_none rfl) (q_as (v := .int .i64 (z - 1)) rfl) rfl (by decide) (cok1 trivial) ?_
                have hstep : -1 ≤ z - 1 ∧ z - 1 < left.length ∧ nth left z.toNat = fnd e al left ((z - 1) + 1).toNat := by
                  rw [show ((z - 1) + 1).toNat = z.toNat by omega]
                  refine ⟨by omega, by omega, ?_⟩
                  rw [fnd_yes hzl (by assumption)]
                refine ⟨_, Wk.U [(0, vE), (5, .slice (some ⟨b, 0, none⟩) al.length al.length), (6, .slice (some ⟨bo, 0, none⟩) out.length out.length), (8, .slice (some ⟨bl, 0, none⟩) left.length left.length), (9, .int .i64 (nth left z.toNat)), (10, .int .i64 (z - 1))] ⟨rfl, rfl, rfl, rfl, rfl, rfl, trivial⟩, ((z - 1), (nth left z.toNat)), ⟨_, rfl, s30, hstep⟩, (by omega)⟩
              ·
                refine ⟨_, Wk.refl _ _, ?_⟩
                show awp _ _ _ _ _ _ _
                refine awp_cond_f rfl ?_
                refine awp_skip_wk ?_
                refine ⟨_, Wk.refl _ _, ?_⟩
                show awp _ _ _ _ _ _ _
                refine awp_regs hF ?_
                refine dv (gyes_none rfl) (q_mv (v := .int .i64 z) rfl) rfl (by decide) (cok1 trivial) ?_
                refine dv (gyes_none rfl) (OpQ.cast (v' := .int .i64 (z - 1)) (q_int rfl rfl rfl) (congrArg _ (i64_in (by omega)))) rfl (by decide) (cok2 trivial (cconst rfl)) ?_
                refine dv (gyes_none rfl) (q_as (v := .int .i64 (z - 1)) rfl) rfl (by decide) (cok1 trivial) ?_
                have hstep : -1 ≤ z - 1 ∧ z - 1 < left.length ∧ v = fnd e al left ((z - 1) + 1).toNat := by
                  rw [show ((z - 1) + 1).toNat = z.toNat by omega]
                  refine ⟨by omega, by omega, ?_⟩
                  rw [fnd_no hzl (by assumption), show z.toNat + 1 = (z + 1).toNat by omega]; exact hv.2.2
                refine ⟨_, Wk.U [(0, vE), (5, .slice (some ⟨b, 0, none⟩) al.length al.length), (6, .slice (some ⟨bo, 0, none⟩) out.length out.length), (8, .slice (some ⟨bl, 0, none⟩) left.length left.length), (9, .int .i64 v), (10, .int .i64 (z - 1))] ⟨rfl, rfl, rfl, rfl, rfl, rfl, trivial⟩, ((z - 1), v), ⟨_, rfl, s30, hstep⟩, (by omega)⟩
            ·
              replace c6 := of_decide_eq_false c6
              have hvp : v = pick e al left := by rw [hv.2.2, show (z + 1).toNat = 0 by omega]; exact fnd_pick (ne_nil hpos)
              refine ⟨_, Wk.refl _ _, ?_⟩
              show awp _ _ _ _ _ _ _
              refine awp_cond_f rfl ?_
              refine awp_exit_wk ?_
              refine ⟨_, Wk.refl _ _, ?_⟩
              show awp _ _ _ _ _ _ _
              refine awp_seq ?_
              refine awp_regs hF ?_
              refine dv (gyes_none rfl) (q_mv (v := .slice (some ⟨bo, 0, none⟩) out.length out.length) rfl) rfl (by decide) (cok1 trivial) ?_
              refine dv (gyes_none rfl) (q_mv (v := .int .i64 v) rfl) rfl (by decide) (cok1 trivial) ?_
              refine x_new (fun b => .slice (some ⟨b, 0, none⟩) 1 1) s30 (gyes_none rfl) (q_buildSliceL (ds := [.int .i64 v]) [.int .i64 v] rfl Try.underlying23 Try.sizeOf3 Try.zeroValue3 rfl (by decide) (by decide) ⟨rfl, trivial⟩ (lvsC (by exact trivial) lvs0) rfl rfl) rfl (by decide) (cok1 trivial) (fun b31 H32 hb34 s33 => ?_)
              refine x_append (l := [v]) (f := intv) [] hF s33 (by kernel_rfl) (j := 1) ((out ++ [v]).length) (by simp) (gyes_none rfl) Try.underlying23 Try.underlying23 Try.type3 rfl rfl (by decide) rfl rfl rfl rfl (s33.slj (l := [v]) (f := intv) (j := 0) rfl rfl (Nat.le_refl _)) (fun x => lc_scalar rfl) (by simp) (by show (2 * _ + 1000) * 8 ≤ _; first | omega | (simp only [List.length_append, List.length_cons, List.length_nil, List.length_take, List.length_drop]; omega)) trivial trivial (by decide) rfl rfl (vs' := (out ++ [v]).map intv) (by simp) (fun b35 H36 hb38 s37 => ⟨?_, ?_⟩)
              · exact trivial
              refine dv (gyes_none rfl) (q_as (v := .slice (some ⟨b35, 0, none⟩) ((out ++ [v]).length) ((out ++ [v]).length)) rfl) rfl (by decide) (cok1 trivial) ?_
              refine ⟨_, Wk.refl _ _, ?_⟩
              show awp _ _ _ _ _ _ _
              refine awp_regs hF ?_
              refine dv (gyes_none rfl) (q_mv (v := .slice (some ⟨bl, 0, none⟩) left.length left.length) rfl) rfl (by decide) (cok1 trivial) ?_
              refine dv (gyes_none rfl) (q_mv (v := .int .i64 v) rfl) rfl (by decide) (cok1 trivial) ?_
              refine x_new (fun b => .slice (some ⟨b, 0, none⟩) (without left v).length (without left v).length) s37 (gyes_none rfl) (q_call (Δ := [.cells true ((without left v).map intv) 1]) Try.call22 rfl (by simp [AObj.wr]) (acalls_fresh intv_sc (without_ok left _ (s37.slj (j := 2) rfl (by first | rfl | (simp; done) | omega) (by first | exact Nat.le_refl _ | omega)) (by omega) v))) rfl (by decide) (call_ok rfl) (fun b39 H40 hb42 s41 => ?_)
              refine dv (gyes_none rfl) (q_as (v := .slice (some ⟨b39, 0, none⟩) ((without left v).length) ((without left v).length)) rfl) rfl (by decide) (cok1 trivial) ?_
              have hst := hf.step2 (ne_nil hpos)
              rw [← hvp] at hst
              refine ⟨_, Wk.U [(0, vE), (5, .slice (some ⟨b, 0, none⟩) al.length al.length), (6, .slice (some ⟨b35, 0, none⟩) ((out ++ [v]).length) ((out ++ [v]).length)), (8, .slice (some ⟨b39, 0, none⟩) ((without left v).length) ((without left v).length))] ⟨rfl, rfl, rfl, rfl, trivial⟩, ((without left v), (out ++ [v])), ⟨_, _, _, rfl, ((s41.sub (.cons_cons _ (.cons _ (.cons_cons _ (.cons _ (.cons_cons _ (.refl _))))))).perm ((List.Perm.cons _ (List.Perm.refl _)).trans (List.perm_middle (l₁ := [_])).symm)), hst.1⟩, hst.2⟩
        ·
          replace c5 := of_decide_eq_false c5
          refine ⟨_, Wk.refl _ _, ?_⟩
          show awp _ _ _ _ _ _ _
          refine awp_cond_f rfl ?_
          refine awp_exit_wk ?_
          refine ⟨_, Wk.refl _ _, ?_⟩
          show awp _ _ _ _ _ _ _
          refine awp_seq ?_
          refine awp_regs hF ?_
          refine dv (gyes_none rfl) (q_mv (v := .slice (some ⟨bo, 0, none⟩) out.length out.length) rfl) rfl (by decide) (cok1 trivial) ?_
          refine dv (gyes_none rfl) (q_as (v := .slice (some ⟨bo, 0, none⟩) out.length out.length) rfl) rfl (by decide) (cok1 trivial) ?_
          refine ⟨_, Wk.refl _ _, ?_⟩
          show awp _ _ _ _ _ _ _
          refine awp_ret_wk ?_
          refine ⟨_, Wk.refl _ _, ?_⟩
          repeat (with_reducible first | refine then_ret ?_ | refine blk_ret ?_ | refine then_exit ?_ | refine blk_exit ?_ | refine blk_exit' (by decide) ?_ | refine blk_normal ?_ | refine then_normal ?_ | refine retq_ret ?_ | refine retq_normal ?_ | refine ng_normal ?_ | refine ng_ret ?_ | refine ng_exit ?_)
          refine ret_is (v := .slice (some ⟨bo, 0, none⟩) out.length out.length) rfl (.tmp rfl .nil) rfl ?_
          have hfs := hf.stop (List.length_eq_zero_iff.1 (by omega))
          rw [← hfs]
          exact fresh_of s28 (j := 0) rfl rfl

end Go.Proofs.YtbjlabokijchpaaA
