/-
  Walks of functions of the given program, and what they compute.
-/
import Derived.Test.YtbjlabokijchpaaO8
import Derived.Test.YtbjlabokijchpaaProg
import Derived.KernelRfl
namespace Go.Proofs.YtbjlabokijchpaaA
set_option linter.unusedVariables false
open Go Go.RowKit Go.Shelf Go.Proofs
def idv (v : Value) : Value := v
structure RowsZ (Z : Rs) (us : List Value) (ll : List (List Int)) : Prop where
  len : us.length = ll.length
  at' : ∀ j (h : j < us.length), SlZ intv Z us[j] (nth ll j)
theorem RowsZ.nil (Z : Rs) : RowsZ Z [] [] := ⟨rfl, fun j h => absurd h (Nat.not_lt_zero _)⟩
theorem RowsZ.add {Z Z' : Rs} {us : List Value} {ll : List (List Int)} {u : Value} {r : List Int} (h : RowsZ Z us ll) (hz : ∀ b vs sz, Z b vs sz → Z' b vs sz) (hu : SlZ intv Z' u r) : RowsZ Z' (us ++ [u]) (ll ++ [r]) := by
  refine ⟨by simp [h.len], fun j hj => ?_⟩
  rw [List.length_append, List.length_cons, List.length_nil] at hj
  by_cases e : j < us.length
  · have h1 : nth (ll ++ [r]) j = nth ll j := by
      have h2 := h.len
      rw [nth_eq (by simp; omega), nth_eq (by omega), List.getElem_append_left]
    rw [List.getElem_append_left e, h1]; exact (h.at' j e).mono hz
  · obtain rfl : j = us.length := by omega
    have h1 : nth (ll ++ [r]) us.length = r := by
      have h2 := h.len
      rw [nth_eq (by simp; omega), List.getElem_append_right (by omega)]
      simp [h2]
    rw [List.getElem_append_right (Nat.le_refl _), h1]; simpa using hu
theorem RowsZ.sl2 {Z Z' : Rs} {us : List Value} {ll : List (List Int)} (h : RowsZ Z us ll) (hz : ∀ b vs sz, Z b vs sz → Z' b vs sz) {b n c : Nat} (hb : Z' b (us.map idv) 1) (hn : n = us.length) (hc : n ≤ c) : Sl2Z intv Z' (.slice (some ⟨b, 0, none⟩) n c) ll := by
  subst hn
  refine .inr ⟨b, 0, c, us.map idv, by rw [h.len], hb, by rw [List.length_map, h.len]; omega, by rw [← h.len]; exact hc, fun i hi => ⟨us[i]'(by rw [h.len]; exact hi), ?_, ?_⟩⟩
  · rw [Nat.zero_add, List.getElem?_map, List.getElem?_eq_getElem (by rw [h.len]; exact hi)]; rfl
  · have := (h.at' i (by rw [h.len]; exact hi)).mono hz
    rwa [nth_eq hi] at this
def rows16 (l : List (List Int)) : List (List Int) := (l.take 16).map (·.take 8)
def rowsN (l : List (List Int)) (i : Nat) : List (List Int) := (l.take i).map (·.take 8)
theorem rowsN_succ {l : List (List Int)} {i : Nat} (hi : i < l.length) : rowsN l (i + 1) = rowsN l i ++ [(nth l i).take (min (nth l i).length 8)] := by
  unfold rowsN
  rw [List.take_add_one, List.getElem?_eq_getElem hi, List.map_append, nth_eq hi]
  simp only [Option.toList_some, List.map_cons, List.map_nil]
  congr 2
  rcases Nat.le_total l[i].length 8 with h | h
  · rw [Nat.min_eq_left h, List.take_of_length_le h, List.take_of_length_le (Nat.le_refl _)]
  · rw [Nat.min_eq_right h]
theorem rowsN_end {l : List (List Int)} {i : Nat} (h : i ≤ 16) (hi : i = 16 ∨ l.length ≤ i) : rowsN l i = rows16 l := by
  unfold rowsN rows16
  rcases hi with rfl | hi
  · rfl
  · rw [List.take_of_length_le hi, List.take_of_length_le (by omega)]
theorem rows16_sized (l : List (List Int)) : Sized (rows16 l) := by
  refine ⟨by unfold rows16; rw [List.length_map, List.length_take]; omega, fun r hr => ?_⟩
  obtain ⟨x, _, rfl⟩ := List.mem_map.1 hr
  rw [List.length_take]; omega
set_option maxRecDepth 100000 in
set_option maxHeartbeats 4000000 in
theorem made_ok {H0 : AHeap} (e : List (List Int)) (vE : Value) (hE : Sl2Z intv (Rd H0) vE e) : ACalls Try.prog 8 [vE] H0 (fun v H' => ∃ va vb, v = .tuple #[va, vb] ∧ K0 H0 H' ∧ Sl2Z intv (Rd H') va (rows16 e) ∧ Sl2Z intv (Rd H') vb (rows16 e)) := by
  have hF : Wd Fence.wide := .inl rfl
  have hM : Try.prog.follows .mixedOrders = true := by kernel_rfl
  have s0 := St.begin H0
  refine acalls_st Try.func8 rfl Try.ntmps8 rfl ?_
  refine awp_seq ?_
  refine awp_regs hF ?_
  refine dv (gyes_none rfl) (q_as (v := .slice none 0 0) rfl) rfl (by decide) (cok1 (cconst rfl)) ?_
  refine dv (gyes_none rfl) (q_as (v := .slice none 0 0) rfl) rfl (by decide) (cok1 (cconst rfl)) ?_
  refine ⟨_, Wk.refl _ _, ?_⟩
  show awp _ _ _ _ _ _ _
  refine awp_seq ?_
  refine awp_regs hF ?_
  refine dv (gyes_none rfl) (q_as (v := .slice none 0 0) rfl) rfl (by decide) (cok1 (cconst rfl)) ?_
  refine ⟨_, Wk.refl _ _, ?_⟩
  show awp _ _ _ _ _ _ _
  refine awp_seq ?_
  refine awp_regs hF ?_
  refine dv (gyes_none rfl) (q_as (v := .slice none 0 0) rfl) rfl (by decide) (cok1 (cconst rfl)) ?_
  refine ⟨_, Wk.refl _ _, ?_⟩
  show awp _ _ _ _ _ _ _
  refine awp_seq ?_
  refine awp_seq ?_
  refine awp_regs hF ?_
  refine dv (gyes_none rfl) (q_as (v := .int .i64 0) rfl) rfl (by decide) (cok1 (cconst rfl)) ?_
  refine ⟨_, Wk.refl _ _, ?_⟩
  show awp _ _ _ _ _ _ _
  refine awp_block ?_
  refine awp_nil s0 4 1 rfl (fun b1 H2 hb4 s3 => ?_)
  refine awp_nil s3 5 1 rfl (fun b5 H6 hb8 s7 => ?_)
  refine awp_wk (Wk.U [(0, vE), (4, .slice (some ⟨b1, 0, none⟩) (([] : List Value).length) (([] : List Value).length)), (5, .slice (some ⟨b5, 0, none⟩) (([] : List Value).length) (([] : List Value).length)), (6, .int .i64 0)] ⟨rfl, rfl, rfl, rfl, trivial⟩) ?_
  refine awp_loop (fun ((i, us) : Nat × (List Value)) st => ∃ (H9 : AHeap) (ba : Nat) (bb : Nat) (Z1 : Rs), st = ⟨41, U [(0, vE), (4, .slice (some ⟨ba, 0, none⟩) us.length us.length), (5, .slice (some ⟨bb, 0, none⟩) us.length us.length), (6, .int .i64 ((i : Nat) : Int))], [], H9⟩ ∧ St H0 (none0) (Z1) H9 [(bb, .cells true (us.map idv) 1), (ba, .cells true (us.map idv) 1)] ∧ (Sl2Z intv Z1 vE e ∧ RowsZ Z1 us (rowsN e i) ∧ us.length = i ∧ i ≤ 16)) (fun ((i, us) : Nat × (List Value)) => 16 - i) (x0 := (0, ([] : List Value))) ?h0 ?round
  case h0 =>
    exact ⟨_, _, _, _, rfl, s7, ⟨hE, RowsZ.nil _, rfl, Nat.zero_le _⟩⟩
  case round =>
    rintro ⟨i, us⟩ _ ⟨H9, ba, bb, Z1, rfl, s10, hZ⟩
    dsimp only at *
    refine awp_seq ?_
    refine awp_seq ?_
    refine awp_regs hF ?_
    refine dv (gyes_none rfl) (q_mv (v := .int .i64 ((i : Nat) : Int)) rfl) rfl (by decide) (cok1 trivial) ?_
    refine dv (gyes_none rfl) (q_mv (v := vE) rfl) rfl (by decide) (cok1 trivial) ?_
    refine dv (gyes_none rfl) (q_len_sl2 s10 Try.underlying22 hZ.1 rfl) rfl (by decide) (cok1 trivial) ?_
    refine dvb (gyes_none rfl) (q_int rfl rfl rfl) rfl (by decide) (cok2 trivial trivial) (fun c1 => ?_) (fun c1 => ?_)
    ·
      replace c1 := of_decide_eq_true c1
      refine dv (gyes_none rfl) (q_mv (v := .bool true) rfl) rfl (by decide) (cok1 trivial) ?_
      refine dv (gyes_some rfl rfl) (q_mv (v := .int .i64 ((i : Nat) : Int)) rfl) rfl (by decide) (cok1 trivial) ?_
      refine dvb (gyes_some rfl rfl) (q_int rfl rfl rfl) rfl (by decide) (cok2 trivial (cconst rfl)) (fun c2 => ?_) (fun c2 => ?_)
      ·
        replace c2 := of_decide_eq_true c2
        refine dv (gyes_none rfl) (q_pt (v := .bool true) rfl rfl) rfl (by decide) (call_ok rfl) ?_
        refine ⟨_, Wk.refl _ _, ?_⟩
        show awp _ _ _ _ _ _ _
        refine awp_cond_t rfl ?_
        refine awp_skip_wk ?_
        refine ⟨_, Wk.refl _ _, ?_⟩
        show awp _ _ _ _ _ _ _
        refine awp_seq ?_
        refine awp_block ?_
        refine awp_seq ?_
        refine awp_regt hF hM (by kernel_rfl) (by kernel_rfl) ?_
        refine x_new (fun b => .slice (some ⟨b, 0, none⟩) 0 0) s10 (gyes_none rfl) (q_emptyLit Try.underlying23 Try.sizeOf3) rfl (by decide) (by simp [Op.operands, Call.operands]) (fun b11 H12 hb14 s13 => ?_)
        refine dv (gyes_none rfl) (q_mv (v := vE) rfl) rfl (by decide) (cok1 trivial) ?_
        refine dv (gyes_none rfl) (q_mv (v := .int .i64 ((i : Nat) : Int)) rfl) rfl (by decide) (cok1 trivial) ?_
        refine dv (gyes_none rfl) (q_index_sl2 s13 Try.underlying22 Try.sizeOf23 hZ.1 rfl rfl (by omega)) rfl (by decide) (cok2 trivial trivial) ?_
        obtain ⟨u15, hu15, qu15⟩ := Sl2Z.elem hZ.1 (i := i) (by omega)
        refine dv (gyes_none rfl) (qu15 s13 Try.isAgg23 rfl) rfl (by decide) (cok1 trivial) ?_
        refine dv (gyes_none rfl) (q_mv (v := vE) rfl) rfl (by decide) (cok1 trivial) ?_
        refine dv (gyes_none rfl) (q_mv (v := .int .i64 ((i : Nat) : Int)) rfl) rfl (by decide) (cok1 trivial) ?_
        refine dv (gyes_none rfl) (q_index_sl2 s13 Try.underlying22 Try.sizeOf23 hZ.1 rfl rfl (by omega)) rfl (by decide) (cok2 trivial trivial) ?_
        obtain ⟨u16, hu16, qu16⟩ := Sl2Z.elem hZ.1 (i := i) (by omega)
        refine dv (gyes_none rfl) (qu16 s13 Try.isAgg23 rfl) rfl (by decide) (cok1 trivial) ?_
        refine dv (gyes_none rfl) (q_len_sl (l := nth e i) Try.underlying23 (s13.sl hu16) rfl) rfl (by decide) (cok1 trivial) ?_
        refine dv (gyes_none rfl) (OpQ.cast (v' := .int .i64 ((min ((nth e i).length) 8 : Nat) : Int)) (q_min rfl rfl) (by congr 1; split <;> omega)) rfl (by decide) (cok2 trivial (cconst rfl)) ?_
        obtain ⟨w17, hw17, qw17⟩ := slice_z hu15 (min ((nth e i).length) 8) (by omega)
        refine dv (gyes_none rfl) (qw17 s13 Try.underlying23 Try.sizeOf3 rfl rfl) rfl (by decide) (cok2 trivial trivial) ?_
        refine x_new (fun b => .slice (some ⟨b, 0, none⟩) (((nth e i).take (min ((nth e i).length) 8)).length) (((nth e i).take (min ((nth e i).length) 8)).length)) s13 (gyes_none rfl) (q_append_nullS (l := ((nth e i).take (min ((nth e i).length) 8))) (f := intv) (m' := ((nth e i).take (min ((nth e i).length) 8)).length) (by simp) Try.underlying23 Try.underlying23 Try.type3 rfl rfl (by decide) rfl rfl rfl (s13.getj (j := 0) rfl) (s13.sl hw17) (fun x => lc_scalar rfl) (by show (2 * _ + 1000) * 8 ≤ _; first | omega | (simp only [List.length_append, List.length_cons, List.length_nil, List.length_take, List.length_drop]; omega))) rfl (by decide) (cok2 trivial trivial) (fun b18 H19 hb21 s20 => ?_)
        refine dv (gyes_none rfl) (q_as (v := .slice (some ⟨b18, 0, none⟩) (((nth e i).take (min ((nth e i).length) 8)).length) (((nth e i).take (min ((nth e i).length) 8)).length)) rfl) rfl (by decide) (cok1 trivial) ?_
        refine ⟨_, Wk.refl _ _, ?_⟩
        show awp _ _ _ _ _ _ _
        refine awp_regs hF ?_
        refine dv (gyes_none rfl) (q_mv (v := .slice (some ⟨ba, 0, none⟩) us.length us.length) rfl) rfl (by decide) (cok1 trivial) ?_
        refine dv (gyes_none rfl) (q_mv (v := .slice (some ⟨b18, 0, none⟩) (((nth e i).take (min ((nth e i).length) 8)).length) (((nth e i).take (min ((nth e i).length) 8)).length)) rfl) rfl (by decide) (cok1 trivial) ?_
        refine x_new (fun b => .slice (some ⟨b, 0, none⟩) 1 1) s20 (gyes_none rfl) (q_buildSliceL (ds := [.slice (some ⟨b18, 0, none⟩) (((nth e i).take (min ((nth e i).length) 8)).length) (((nth e i).take (min ((nth e i).length) 8)).length)]) [.slice (some ⟨b18, 0, none⟩) (((nth e i).take (min ((nth e i).length) 8)).length) (((nth e i).take (min ((nth e i).length) 8)).length)] rfl Try.underlying25 Try.sizeOf23 Try.zeroValue23 rfl (by decide) (by decide) ⟨rfl, trivial⟩ (lvsC (s20.live (j := 0) rfl) lvs0) rfl rfl) rfl (by decide) (cok1 trivial) (fun b22 H23 hb25 s24 => ?_)
        refine x_append (l := [()]) (f := fun _ : Unit => Value.slice (some ⟨b18, 0, none⟩) (((nth e i).take (min ((nth e i).length) 8)).length) (((nth e i).take (min ((nth e i).length) 8)).length)) [] hF s24 (by kernel_rfl) (j := 4) ((us ++ [Value.slice (some ⟨b18, 0, none⟩) (((nth e i).take (min ((nth e i).length) 8)).length) (((nth e i).take (min ((nth e i).length) 8)).length)]).length) (by simp) (gyes_none rfl) Try.underlying25 Try.underlying25 Try.type23 rfl rfl (by decide) rfl rfl rfl rfl (s24.slj (l := [()]) (f := fun _ : Unit => Value.slice (some ⟨b18, 0, none⟩) (((nth e i).take (min ((nth e i).length) 8)).length) (((nth e i).take (min ((nth e i).length) 8)).length)) (j := 0) rfl rfl (Nat.le_refl _)) (fun _ => (lc_slice (s24.live (j := 1) rfl))) (by simp) (by rw [List.length_append]; show (2 * (_ + 1) + 1000) * 24 ≤ _; omega) trivial trivial (by decide) rfl rfl (vs' := (us ++ [Value.slice (some ⟨b18, 0, none⟩) (((nth e i).take (min ((nth e i).length) 8)).length) (((nth e i).take (min ((nth e i).length) 8)).length)]).map idv) (by simp [idv]) (fun b26 H27 hb29 s28 => ⟨?_, ?_⟩)
        · exact trivial
        refine dv (gyes_none rfl) (q_mv (v := .slice (some ⟨bb, 0, none⟩) us.length us.length) rfl) rfl (by decide) (cok1 trivial) ?_
        refine dv (gyes_none rfl) (q_mv (v := .slice (some ⟨b18, 0, none⟩) (((nth e i).take (min ((nth e i).length) 8)).length) (((nth e i).take (min ((nth e i).length) 8)).length)) rfl) rfl (by decide) (cok1 trivial) ?_
        refine x_new (fun b => .slice (some ⟨b, 0, none⟩) 1 1) s28 (gyes_none rfl) (q_buildSliceL (ds := [.slice (some ⟨b18, 0, none⟩) (((nth e i).take (min ((nth e i).length) 8)).length) (((nth e i).take (min ((nth e i).length) 8)).length)]) [.slice (some ⟨b18, 0, none⟩) (((nth e i).take (min ((nth e i).length) 8)).length) (((nth e i).take (min ((nth e i).length) 8)).length)] rfl Try.underlying22 Try.sizeOf23 Try.zeroValue23 rfl (by decide) (by decide) ⟨rfl, trivial⟩ (lvsC (s28.live (j := 1) rfl) lvs0) rfl rfl) rfl (by decide) (cok1 trivial) (fun b30 H31 hb33 s32 => ?_)
        refine x_append (l := [()]) (f := fun _ : Unit => Value.slice (some ⟨b18, 0, none⟩) (((nth e i).take (min ((nth e i).length) 8)).length) (((nth e i).take (min ((nth e i).length) 8)).length)) [] hF s32 (by kernel_rfl) (j := 4) ((us ++ [Value.slice (some ⟨b18, 0, none⟩) (((nth e i).take (min ((nth e i).length) 8)).length) (((nth e i).take (min ((nth e i).length) 8)).length)]).length) (by simp) (gyes_none rfl) Try.underlying22 Try.underlying22 Try.type23 rfl rfl (by decide) rfl rfl rfl rfl (s32.slj (l := [()]) (f := fun _ : Unit => Value.slice (some ⟨b18, 0, none⟩) (((nth e i).take (min ((nth e i).length) 8)).length) (((nth e i).take (min ((nth e i).length) 8)).length)) (j := 0) rfl rfl (Nat.le_refl _)) (fun _ => (lc_slice (s32.live (j := 2) rfl))) (by simp) (by rw [List.length_append]; show (2 * (_ + 1) + 1000) * 24 ≤ _; omega) trivial trivial (by decide) rfl rfl (vs' := (us ++ [Value.slice (some ⟨b18, 0, none⟩) (((nth e i).take (min ((nth e i).length) 8)).length) (((nth e i).take (min ((nth e i).length) 8)).length)]).map idv) (by simp [idv]) (fun b34 H35 hb37 s36 => ⟨?_, ?_⟩)
        · exact trivial
        refine dv (gyes_none rfl) (q_as (v := .slice (some ⟨b26, 0, none⟩) ((us ++ [Value.slice (some ⟨b18, 0, none⟩) (((nth e i).take (min ((nth e i).length) 8)).length) (((nth e i).take (min ((nth e i).length) 8)).length)]).length) ((us ++ [Value.slice (some ⟨b18, 0, none⟩) (((nth e i).take (min ((nth e i).length) 8)).length) (((nth e i).take (min ((nth e i).length) 8)).length)]).length)) rfl) rfl (by decide) (cok1 trivial) ?_
        refine dv (gyes_none rfl) (q_as (v := .slice (some ⟨b34, 0, none⟩) ((us ++ [Value.slice (some ⟨b18, 0, none⟩) (((nth e i).take (min ((nth e i).length) 8)).length) (((nth e i).take (min ((nth e i).length) 8)).length)]).length) ((us ++ [Value.slice (some ⟨b18, 0, none⟩) (((nth e i).take (min ((nth e i).length) 8)).length) (((nth e i).take (min ((nth e i).length) 8)).length)]).length)) rfl) rfl (by decide) (cok1 trivial) ?_
        refine ⟨_, Wk.refl _ _, ?_⟩
        show awp _ _ _ _ _ _ _
        refine awp_regs hF ?_
        refine dv (gyes_none rfl) (q_mv (v := .int .i64 ((i : Nat) : Int)) rfl) rfl (by decide) (cok1 trivial) ?_
        refine dv (gyes_none rfl) (OpQ.cast (v' := .int .i64 ((i + 1 : Nat) : Int)) (q_int rfl rfl rfl) (congrArg _ ((i64_in (by omega)).trans (by first | rfl | omega | (push_cast; rfl))))) rfl (by decide) (cok2 trivial (cconst rfl)) ?_
        refine dv (gyes_none rfl) (q_as (v := .int .i64 ((i + 1 : Nat) : Int)) rfl) rfl (by decide) (cok1 trivial) ?_
        have s38 := s36.freeze (j := 2) rfl
        refine ⟨_, Wk.U [(0, vE), (4, .slice (some ⟨b26, 0, none⟩) ((us ++ [Value.slice (some ⟨b18, 0, none⟩) (((nth e i).take (min ((nth e i).length) 8)).length) (((nth e i).take (min ((nth e i).length) 8)).length)]).length) ((us ++ [Value.slice (some ⟨b18, 0, none⟩) (((nth e i).take (min ((nth e i).length) 8)).length) (((nth e i).take (min ((nth e i).length) 8)).length)]).length)), (5, .slice (some ⟨b34, 0, none⟩) ((us ++ [Value.slice (some ⟨b18, 0, none⟩) (((nth e i).take (min ((nth e i).length) 8)).length) (((nth e i).take (min ((nth e i).length) 8)).length)]).length) ((us ++ [Value.slice (some ⟨b18, 0, none⟩) (((nth e i).take (min ((nth e i).length) 8)).length) (((nth e i).take (min ((nth e i).length) 8)).length)]).length)), (6, .int .i64 (((i + 1) : Nat) : Int))] ⟨rfl, rfl, rfl, rfl, trivial⟩, ((i + 1), (us ++ [Value.slice (some ⟨b18, 0, none⟩) (((nth e i).take (min ((nth e i).length) 8)).length) (((nth e i).take (min ((nth e i).length) 8)).length)])), ⟨_, _, _, _, rfl, (s38.sub (.cons _ (.cons _ (.cons _ (.cons_cons _ (.cons_cons _ (.refl _))))))), ⟨hZ.1.mono (fun _ _ _ h => .inl h), by rw [rowsN_succ (by omega)]; exact hZ.2.1.add (fun _ _ _ h => .inl h) (slz_full (.inr ⟨rfl, rfl, rfl⟩) rfl (Nat.le_refl _)), by rw [List.length_append, hZ.2.2.1]; rfl, by dsimp only; omega⟩⟩, (by dsimp only; omega)⟩
      ·
        replace c2 := of_decide_eq_false c2
        refine dv (gyes_none rfl) (q_pt (v := .bool false) rfl rfl) rfl (by decide) (call_ok rfl) ?_
        refine ⟨_, Wk.refl _ _, ?_⟩
        show awp _ _ _ _ _ _ _
        refine awp_cond_f rfl ?_
        refine awp_exit_wk ?_
        refine ⟨_, Wk.refl _ _, ?_⟩
        show awp _ _ _ _ _ _ _
        refine awp_seq ?_
        refine awp_regs hF ?_
        refine dv (gyes_none rfl) (q_mv (v := .slice (some ⟨ba, 0, none⟩) us.length us.length) rfl) rfl (by decide) (cok1 trivial) ?_
        refine dv (gyes_none rfl) (q_mv (v := .slice (some ⟨bb, 0, none⟩) us.length us.length) rfl) rfl (by decide) (cok1 trivial) ?_
        refine dv (gyes_none rfl) (q_as (v := .slice (some ⟨ba, 0, none⟩) us.length us.length) rfl) rfl (by decide) (cok1 trivial) ?_
        refine dv (gyes_none rfl) (q_as (v := .slice (some ⟨bb, 0, none⟩) us.length us.length) rfl) rfl (by decide) (cok1 trivial) ?_
        refine ⟨_, Wk.refl _ _, ?_⟩
        show awp _ _ _ _ _ _ _
        refine awp_ret_wk ?_
        refine ⟨_, Wk.refl _ _, ?_⟩
        repeat (with_reducible first | refine then_ret ?_ | refine blk_ret ?_ | refine then_exit ?_ | refine blk_exit ?_ | refine blk_exit' (by decide) ?_ | refine blk_normal ?_ | refine then_normal ?_ | refine retq_ret ?_ | refine retq_normal ?_ | refine ng_normal ?_ | refine ng_ret ?_ | refine ng_exit ?_)
        refine ret_is (v := .tuple #[.slice (some ⟨ba, 0, none⟩) us.length us.length, .slice (some ⟨bb, 0, none⟩) us.length us.length]) rfl (.tmp rfl (.tmp rfl .nil)) rfl ?_
        have hre : rowsN e i = rows16 e := rowsN_end hZ.2.2.2 (by omega)
        have hrz := hZ.2.1
        rw [hre] at hrz
        exact ⟨_, _, rfl, s10.kp, hrz.sl2 (fun b vs sz h => s10.zrd h) (s10.rd (j := 1) rfl) rfl (Nat.le_refl _), hrz.sl2 (fun b vs sz h => s10.zrd h) (s10.rd (j := 0) rfl) rfl (Nat.le_refl _)⟩
    ·
      replace c1 := of_decide_eq_false c1
      refine dv (gyes_none rfl) (q_mv (v := .bool false) rfl) rfl (by decide) (cok1 trivial) ?_
      refine dno rfl (.inl rfl) rfl (by decide) ?_
      refine dno rfl (.inl rfl) rfl (by decide) ?_
      refine dv (gyes_none rfl) (q_pf (v := .bool false) rfl rfl) rfl (by decide) (call_ok rfl) ?_
      refine ⟨_, Wk.refl _ _, ?_⟩
      show awp _ _ _ _ _ _ _
      refine awp_cond_f rfl ?_
      refine awp_exit_wk ?_
      refine ⟨_, Wk.refl _ _, ?_⟩
      show awp _ _ _ _ _ _ _
      refine awp_seq ?_
      refine awp_regs hF ?_
      refine dv (gyes_none rfl) (q_mv (v := .slice (some ⟨ba, 0, none⟩) us.length us.length) rfl) rfl (by decide) (cok1 trivial) ?_
      refine dv (gyes_none rfl) (q_mv (v := .slice (some ⟨bb, 0, none⟩) us.length us.length) rfl) rfl (by decide) (cok1 trivial) ?_
      refine dv (gyes_none rfl) (q_as (v := .slice (some ⟨ba, 0, none⟩) us.length us.length) rfl) rfl (by decide) (cok1 trivial) ?_
      refine dv (gyes_none rfl) (q_as (v := .slice (some ⟨bb, 0, none⟩) us.length us.length) rfl) rfl (by decide) (cok1 trivial) ?_
      refine ⟨_, Wk.refl _ _, ?_⟩
      show awp _ _ _ _ _ _ _
      refine awp_ret_wk ?_
      refine ⟨_, Wk.refl _ _, ?_⟩
      repeat (with_reducible first | refine then_ret ?_ | refine blk_ret ?_ | refine then_exit ?_ | refine blk_exit ?_ | refine blk_exit' (by decide) ?_ | refine blk_normal ?_ | refine then_normal ?_ | refine retq_ret ?_ | refine retq_normal ?_ | refine ng_normal ?_ | refine ng_ret ?_ | refine ng_exit ?_)
      refine ret_is (v := .tuple #[.slice (some ⟨ba, 0, none⟩) us.length us.length, .slice (some ⟨bb, 0, none⟩) us.length us.length]) rfl (.tmp rfl (.tmp rfl .nil)) rfl ?_
      have hre : rowsN e i = rows16 e := rowsN_end hZ.2.2.2 (by omega)
      have hrz := hZ.2.1
      rw [hre] at hrz
      exact ⟨_, _, rfl, s10.kp, hrz.sl2 (fun b vs sz h => s10.zrd h) (s10.rd (j := 1) rfl) rfl (Nat.le_refl _), hrz.sl2 (fun b vs sz h => s10.zrd h) (s10.rd (j := 0) rfl) rfl (Nat.le_refl _)⟩

end Go.Proofs.YtbjlabokijchpaaA
