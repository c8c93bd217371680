/-
  Walks of functions of the given program, and what they compute.
-/
import Derived.Test.YtbjlabokijchpaaO6
import Derived.Test.YtbjlabokijchpaaProg
import Derived.KernelRfl
namespace Go.Proofs.YtbjlabokijchpaaA
set_option linter.unusedVariables false
open Go Go.RowKit Go.Shelf Go.Proofs
def kfI (a : Int) : Value := .int .i64 a
structure BT (e : List (List Int)) (al : List Int) (Z : Rs) (ml : List (Ent Int)) (i : Nat) : Prop where
  at' : ∀ j, j < i → ∃ u l, mlook ml (nth al j) (.slice none 0 0) = u ∧ SlZ intv Z u l ∧ l.length ≤ 1000000 ∧ ∀ n, n ∈ l ↔ Rch e al (nth al j) n
theorem BT.start (e : List (List Int)) (al : List Int) (Z : Rs) : BT e al Z [] 0 := ⟨fun j h => absurd h (Nat.not_lt_zero _)⟩
theorem BT.put {e : List (List Int)} {al : List Int} {Z Z' : Rs} {ml : List (Ent Int)} {i c : Nat} {u : Value} {l : List Int} (h : BT e al Z ml i) (hz : ∀ b vs sz, Z b vs sz → Z' b vs sz) (hu : SlZ intv Z' u l) (hl : l.length ≤ 1000000) (hm : ∀ n, n ∈ l ↔ Rch e al (nth al i) n) : BT e al Z' (mput ml (nth al i) u c) (i + 1) := ⟨fun j hj => by
  rw [mlook_put]
  by_cases h1 : nth al j = nth al i
  · rw [if_pos h1, h1]; exact ⟨_, _, rfl, hu, hl, hm⟩
  · rw [if_neg h1]
    have hji : j ≠ i := fun e => h1 (by rw [e])
    obtain ⟨u', l', h2, h3, h4⟩ := h.at' j (by omega)
    exact ⟨u', l', h2, h3.mono hz, h4⟩⟩
theorem BT.get {e : List (List Int)} {al : List Int} {Z : Rs} {ml : List (Ent Int)} {i : Nat} (h : BT e al Z ml i) (hi : ¬ i < al.length) {k : Int} (hk : k ∈ al) : ∃ u l, mlook ml k (.slice none 0 0) = u ∧ SlZ intv Z u l ∧ l.length ≤ 1000000 ∧ ∀ n, decide (n ∈ l) = rch e al k n := by
  obtain ⟨j, hj, rfl⟩ := nth_of_mem hk
  obtain ⟨u, l, h1, h2, h3, h4⟩ := h.at' j (by omega)
  refine ⟨u, l, h1, h2, h3, fun n => ?_⟩
  by_cases h5 : n ∈ l
  · rw [decide_eq_true h5, rch_iff.2 ((h4 n).1 h5)]
  · rw [decide_eq_false h5, rch_no.2 fun h => h5 ((h4 n).2 h)]
theorem below_len {e : List (List Int)} {al l : List Int} {k : Int} (hn : l.Nodup) (h : ∀ n, n ∈ l ↔ Rch e al k n) : l.length ≤ al.length := nodup_len hn fun x hx => ((h x).1 hx).mem
structure FInv (e : List (List Int)) (al left out : List Int) : Prop where
  nd : left.Nodup
  sub : ∀ x ∈ left, x ∈ al
  eq : out ++ fin e al left.length left = fin e al al.length al
  len : out.length + left.length = al.length
theorem FInv.start {e : List (List Int)} {al : List Int} (h : al.Nodup) : FInv e al al [] := ⟨h, fun _ h => h, rfl, by simp⟩
theorem FInv.step {e : List (List Int)} {al left out : List Int} {i : Nat} (h : FInv e al left out) (hi : i < left.length) (hok : ok' e al left (nth left i) = true) (hn : ∀ j, j < i → ok' e al left (nth left j) = false) : FInv e al (left.eraseIdx i) (out ++ [nth left i]) := by
  have h1 : (left.eraseIdx i).length = left.length - 1 := List.length_eraseIdx_of_lt hi
  have h2 := fin_step h.nd hi (pick_at hi hok hn)
  refine ⟨h.nd.eraseIdx i, fun x hx => h.sub x (List.mem_of_mem_eraseIdx hx), ?_, by have := h.len; simp; omega⟩
  rw [← h.eq, h2, List.append_assoc]; rfl
theorem FInv.stop {e : List (List Int)} {al left out : List Int} (h : FInv e al left out) (hl : left = []) : out = fin e al al.length al := by
  have := h.eq; subst hl; rw [← this]; simp [fin]
theorem FInv.stuck {e : List (List Int)} {al left : List Int} {i : Nat} (h0 : 0 < left.length) (hi : ¬ i < left.length) (hn : ∀ j, j < i → ok' e al left (nth left j) = false) : False := by
  obtain ⟨k, hk, h1⟩ := ok_ex e al left (fun h => by rw [h] at h0; exact absurd h0 (Nat.lt_irrefl 0))
  obtain ⟨j, hj, rfl⟩ := nth_of_mem hk
  rw [hn j (by omega)] at h1; cases h1
theorem ok_all {e : List (List Int)} {al left : List Int} {k : Int} {j : Nat} (hj : ¬ j < left.length) (h : (left.take j).all (nx e al k) = true) : ok' e al left k = true := all_end hj h
theorem ok_no {e : List (List Int)} {al left : List Int} {k : Int} {j : Nat} (hj : j < left.length) (h : nx e al k (nth left j) = false) : ok' e al left k = false := all_no hj h
theorem lt_succ_cases {p : Nat → Prop} {i : Nat} (h : ∀ j, j < i → p j) (hi : p i) : ∀ j, j < i + 1 → p j := fun j hj => by
  by_cases e : j = i
  · subst e; exact hi
  · exact h j (by omega)
set_option maxRecDepth 100000 in
set_option maxHeartbeats 4000000 in
theorem first0_ok {H0 : AHeap} (e : List (List Int)) (vE : Value) (hE : Sl2Z intv (Rd H0) vE e) (hr : Sized e) (l : List Int) (vL : Value) (hL : Sl intv H0 vL l) (hl : l.length ≤ 1000000) (al : List Int) (hae : onceL e l = al) : ACalls Try.prog 10 [vE, vL] H0 (Fresh intv (fin e al al.length al) H0) := by
  have hF : Wd Fence.wide := .inl rfl
  have hM : Try.prog.follows .mixedOrders = true := by kernel_rfl
  have hnd : al.Nodup := hae ▸ onceL_nodup
  have hsv : ∀ x ∈ al, Valid e x := hae ▸ onceL_valid
  have hal : al.length ≤ 1000000 := hae ▸ Nat.le_trans (onceL_len e l) hl
  have s0 := St.begin H0
  refine acalls_st Try.func10 rfl Try.ntmps10 rfl ?_
  refine awp_seq ?_
  refine awp_regs hF ?_
  refine dv (gyes_none rfl) (q_as (v := .slice none 0 0) rfl) rfl (by decide) (cok1 (cconst rfl)) ?_
  refine ⟨_, Wk.refl _ _, ?_⟩
  show awp _ _ _ _ _ _ _
  refine awp_scope ?_
  refine awp_seq ?_
  refine awp_regs hF ?_
  refine dv (gyes_none rfl) (q_mv (v := vE) rfl) rfl (by decide) (cok1 trivial) ?_
  refine dv (gyes_none rfl) (q_mv (v := vL) rfl) rfl (by decide) (cok1 trivial) ?_
  refine x_new (fun b => .slice (some ⟨b, 0, none⟩) (al).length (al).length) s0 (gyes_none rfl) (q_call (Δ := [.cells true ((al).map intv) 1]) Try.call16 rfl (by simp [AObj.wr]) (acalls_fresh intv_sc (hae ▸ once_ok e _ (hE.of s0) hr l _ (s0.sl hL) hl))) rfl (by decide) (call_ok rfl) (fun b1 H2 hb4 s3 => ?_)
  refine dv (gyes_none rfl) (q_as (v := .slice (some ⟨b1, 0, none⟩) ((al).length) ((al).length)) rfl) rfl (by decide) (cok1 trivial) ?_
  refine ⟨_, Wk.refl _ _, ?_⟩
  show awp _ _ _ _ _ _ _
  refine awp_seq ?_
  refine awp_regs hF ?_
  refine x_new (fun b => .map (some b)) s3 (gyes_none rfl) (q_makeMap (kf := (fun a : Int => .int .i64 a)) rfl) rfl (by decide) (by simp [Op.operands, Call.operands]) (fun b5 H6 hb8 s7 => ?_)
  refine dv (gyes_none rfl) (q_as (v := .map (some b5)) rfl) rfl (by decide) (cok1 trivial) ?_
  refine ⟨_, Wk.refl _ _, ?_⟩
  show awp _ _ _ _ _ _ _
  refine awp_seq ?_
  refine awp_seq ?_
  refine awp_regs hF ?_
  refine dv (gyes_none rfl) (q_mv (v := .slice (some ⟨b1, 0, none⟩) ((al).length) ((al).length)) rfl) rfl (by decide) (cok1 trivial) ?_
  refine dv (gyes_none rfl) (q_len_slice Try.underlying23 rfl (s7.rd (j := 1) rfl)) rfl (by decide) (cok1 trivial) ?_
  refine dv (gyes_none rfl) (q_mv (v := .int .i64 0) rfl) rfl (by decide) (cok1 (cconst rfl)) ?_
  refine ⟨_, Wk.refl _ _, ?_⟩
  show awp _ _ _ _ _ _ _
  refine awp_block ?_
  refine awp_wk (Wk.U [(0, vE), (5, .slice (some ⟨b1, 0, none⟩) ((al).length) ((al).length)), (6, .map (some b5)), (19, .slice (some ⟨b1, 0, none⟩) ((al).length) ((al).length)), (20, .int .i64 ((al.length : Nat) : Int)), (21, .int .i64 0)] ⟨rfl, rfl, rfl, rfl, rfl, rfl, trivial⟩) ?_
  refine awp_loop (fun ((i, ml, c) : Nat × (List (Ent Int)) × Nat) st => ∃ (H9 : AHeap) (Z1 : Rs), st = ⟨80, U [(0, vE), (5, .slice (some ⟨b1, 0, none⟩) ((al).length) ((al).length)), (6, .map (some b5)), (19, .slice (some ⟨b1, 0, none⟩) ((al).length) ((al).length)), (20, .int .i64 ((al.length : Nat) : Int)), (21, .int .i64 ((i : Nat) : Int))], [], H9⟩ ∧ St H0 (none0) (Z1) H9 [(b5, .map (mk (fun a : Int => .int .i64 a) ml) c), (b1, .cells true (al.map intv) 1)] ∧ (Sl2Z intv Z1 vE e ∧ BT e al Z1 ml i)) (fun ((i, ml, c) : Nat × (List (Ent Int)) × Nat) => al.length - i) (x0 := (0, ([] : List (Ent Int)), 0)) ?h0 ?round
  case h0 =>
    exact ⟨_, _, rfl, s7, ⟨hE, BT.start _ _ _⟩⟩
  case round =>
    rintro ⟨i, ml, c⟩ _ ⟨H9, Z1, rfl, s10, hZ⟩
    dsimp only at *
    refine awp_seq ?_
    refine awp_regs hF ?_
    refine dvb (gyes_none rfl) (q_int rfl rfl rfl) rfl (by decide) (cok2 trivial trivial) (fun c1 => ?_) (fun c1 => ?_)
    ·
      replace c1 := of_decide_eq_true c1
      refine ⟨_, Wk.refl _ _, ?_⟩
      show awp _ _ _ _ _ _ _
      refine awp_seq ?_
      refine awp_cond_t rfl ?_
      refine awp_skip_wk ?_
      refine ⟨_, Wk.refl _ _, ?_⟩
      show awp _ _ _ _ _ _ _
      refine awp_seq ?_
      refine awp_block ?_
      refine awp_seq ?_
      refine awp_regs hF ?_
      refine dv (gyes_none rfl) (OpQ.cast (v' := .pointer (some ⟨b1, i, none⟩)) (q_index1 (i := i) Try.underlying23 Try.sizeOf3 rfl rfl (by omega) (s10.rd (j := 1) rfl)) (by rw [Nat.zero_add])) rfl (by decide) (cok2 trivial trivial) ?_
      refine dv (gyes_none rfl) (q_load (v := intv (nth al i)) Try.isAgg3 rfl (s10.rd (j := 1) rfl) (get_nth (w := 0) (by omega))) rfl (by decide) (cok1 trivial) ?_
      refine dv (gyes_none rfl) (q_as (v := .int .i64 (nth al i)) rfl) rfl (by decide) (cok1 trivial) ?_
      refine ⟨_, Wk.refl _ _, ?_⟩
      show awp _ _ _ _ _ _ _
      refine awp_regs hF ?_
      refine dv (gyes_none rfl) (q_mv (v := .map (some b5)) rfl) rfl (by decide) (cok1 trivial) ?_
      refine dv (gyes_none rfl) (q_mv (v := .int .i64 (nth al i)) rfl) rfl (by decide) (cok1 trivial) ?_
      refine dv (gyes_none rfl) (q_mv (v := vE) rfl) rfl (by decide) (cok1 trivial) ?_
      refine dv (gyes_none rfl) (q_mv (v := .int .i64 (nth al i)) rfl) rfl (by decide) (cok1 trivial) ?_
      refine dv (gyes_none rfl) (q_mv (v := .slice (some ⟨b1, 0, none⟩) ((al).length) ((al).length)) rfl) rfl (by decide) (cok1 trivial) ?_
      refine x_call [] hF (by kernel_rfl) (gyes_none rfl) Try.call17 rfl (args := [vE, .int .i64 (nth al i), .slice (some ⟨b1, 0, none⟩) ((al).length) ((al).length)]) rfl (below_ok e _ (hZ.1.of s10) hr al _ (s10.slj (j := 1) rfl (by first | rfl | (simp; done) | omega) (by first | exact Nat.le_refl _ | omega)) hal (nth al i) (hsv _ (nthI_mem (by omega))) hsv) (show _ < _ by decide) (call_ok rfl) rfl rfl (fun _ _ _ _ hd => by cases hd) ?_
      rintro _ H11 ⟨lb, ⟨hk13, b14, rfl, hb15, ho16⟩, hbn, hbl⟩
      have s17 := s10.callN hk13 hb15 ho16
      refine ⟨trivial, ?_⟩
      show dList _ _ _ _ _ _ _ _ _ _
      refine x_mapUpdate [] hF s17 (by kernel_rfl) (j := 1) (a := (nth al i)) (v := .slice (some ⟨b14, 0, none⟩) lb.length lb.length) (gyes_none rfl) Try.underlying38 (key_int Try.underlying3) rfl rfl rfl rfl trivial trivial trivial rfl rfl rfl rfl (fun H18 s19 => ⟨?_, ?_⟩)
      · exact trivial
      refine ⟨_, Wk.refl _ _, ?_⟩
      show awp _ _ _ _ _ _ _
      refine awp_regs hF ?_
      refine dv (gyes_none rfl) (OpQ.cast (v' := .int .i64 ((i + 1 : Nat) : Int)) (q_int rfl rfl rfl) (congrArg _ ((i64_in (by omega)).trans (by first | rfl | omega | (push_cast; rfl))))) rfl (by decide) (cok2 trivial (cconst rfl)) ?_
      refine dv (gyes_none rfl) (q_mv (v := .int .i64 ((i + 1 : Nat) : Int)) rfl) rfl (by decide) (cok1 trivial) ?_
      have s20 := s19.freeze (j := 0) rfl
      refine ⟨_, Wk.U [(0, vE), (5, .slice (some ⟨b1, 0, none⟩) ((al).length) ((al).length)), (6, .map (some b5)), (19, .slice (some ⟨b1, 0, none⟩) ((al).length) ((al).length)), (20, .int .i64 ((al.length : Nat) : Int)), (21, .int .i64 (((i + 1) : Nat) : Int))] ⟨rfl, rfl, rfl, rfl, rfl, rfl, trivial⟩, ((i + 1), (mput ml (nth al i) (.slice (some ⟨b14, 0, none⟩) lb.length lb.length) c), (mclk ml (nth al i) c)), ⟨_, _, rfl, s20, ⟨hZ.1.mono (fun _ _ _ h => .inl h), hZ.2.put (fun _ _ _ h => .inl h) (slz_full (.inr ⟨rfl, rfl, rfl⟩) rfl (Nat.le_refl _)) (by have := below_len hbn hbl; omega) hbl⟩⟩, (by omega)⟩
    ·
      replace c1 := of_decide_eq_false c1
      refine ⟨_, Wk.refl _ _, ?_⟩
      show awp _ _ _ _ _ _ _
      refine awp_seq ?_
      refine awp_cond_f rfl ?_
      refine awp_exit_wk ?_
      refine ⟨_, Wk.refl _ _, ?_⟩
      show awp _ _ _ _ _ _ _
      refine awp_seq ?_
      refine awp_regs hF ?_
      refine dv (gyes_none rfl) (q_mv (v := .slice (some ⟨b1, 0, none⟩) ((al).length) ((al).length)) rfl) rfl (by decide) (cok1 trivial) ?_
      refine x_new (fun b => .slice (some ⟨b, 0, none⟩) (al).length (al).length) s10 (gyes_none rfl) (q_call (Δ := [.cells true ((al).map intv) 1]) Try.call18 rfl (by simp [AObj.wr]) (acalls_fresh intv_sc (clone_ok al _ (s10.slj (j := 1) rfl (by first | rfl | (simp; done) | omega) (by first | exact Nat.le_refl _ | omega)) hal))) rfl (by decide) (cok2 trivial trivial) (fun b21 H22 hb24 s23 => ?_)
      refine dv (gyes_none rfl) (q_as (v := .slice (some ⟨b21, 0, none⟩) ((al).length) ((al).length)) rfl) rfl (by decide) (cok1 trivial) ?_
      refine ⟨_, Wk.refl _ _, ?_⟩
      show awp _ _ _ _ _ _ _
      refine awp_seq ?_
      refine awp_regs hF ?_
      refine dv (gyes_none rfl) (q_as (v := .slice none 0 0) rfl) rfl (by decide) (cok1 (cconst rfl)) ?_
      refine ⟨_, Wk.refl _ _, ?_⟩
      show awp _ _ _ _ _ _ _
      refine awp_seq ?_
      refine awp_label_wk ?_
      refine ⟨_, Wk.refl _ _, ?_⟩
      show awp _ _ _ _ _ _ _
      refine awp_seq ?_
      refine awp_block ?_
      refine awp_nil s23 10 1 rfl (fun b25 H26 hb28 s27 => ?_)
      refine awp_wk (Wk.U [(0, vE), (5, .slice (some ⟨b1, 0, none⟩) ((al).length) ((al).length)), (6, .map (some b5)), (9, .slice (some ⟨b21, 0, none⟩) al.length al.length), (10, .slice (some ⟨b25, 0, none⟩) (([] : List Int).length) (([] : List Int).length))] ⟨rfl, rfl, rfl, rfl, rfl, trivial⟩) ?_
      refine awp_loop (fun ((left, out) : (List Int) × (List Int)) st => ∃ (H29 : AHeap) (bl : Nat) (bo : Nat), st = ⟨80, U [(0, vE), (5, .slice (some ⟨b1, 0, none⟩) ((al).length) ((al).length)), (6, .map (some b5)), (9, .slice (some ⟨bl, 0, none⟩) left.length left.length), (10, .slice (some ⟨bo, 0, none⟩) out.length out.length)], [], H29⟩ ∧ St H0 (none0) (Z1) H29 [(bo, .cells true (out.map intv) 1), (bl, .cells true (left.map intv) 1), (b5, .map (mk (fun a : Int => .int .i64 a) ml) c), (b1, .cells true (al.map intv) 1)] ∧ (FInv e al left out)) (fun ((left, out) : (List Int) × (List Int)) => left.length) (x0 := (al, ([] : List Int))) ?h0 ?round
      case h0 =>
        exact ⟨_, _, _, rfl, s27, FInv.start hnd⟩
      case round =>
        rintro ⟨left, out⟩ _ ⟨H29, bl, bo, rfl, s30, hf⟩
        dsimp only at *
        refine awp_seq ?_
        refine awp_seq ?_
        refine awp_regs hF ?_
        refine dv (gyes_none rfl) (q_mv (v := .slice (some ⟨bl, 0, none⟩) left.length left.length) rfl) rfl (by decide) (cok1 trivial) ?_
        refine dv (gyes_none rfl) (q_len_slice Try.underlying23 rfl (s30.rd (j := 1) rfl)) rfl (by decide) (cok1 trivial) ?_
        refine dvb (gyes_none rfl) (q_int rfl rfl rfl) rfl (by decide) (cok2 trivial (cconst rfl)) (fun c2 => ?_) (fun c2 => ?_)
        ·
          replace c2 := of_decide_eq_true c2
          have hpos : 0 < left.length := by omega
          have hfl := hf.len
          refine ⟨_, Wk.refl _ _, ?_⟩
          show awp _ _ _ _ _ _ _
          refine awp_cond_t rfl ?_
          refine awp_skip_wk ?_
          refine ⟨_, Wk.refl _ _, ?_⟩
          show awp _ _ _ _ _ _ _
          refine awp_block ?_
          refine awp_scope ?_
          refine awp_seq ?_
          refine awp_label_wk ?_
          refine ⟨_, Wk.refl _ _, ?_⟩
          show awp _ _ _ _ _ _ _
          refine awp_seq ?_
          refine awp_regs hF ?_
          refine dv (gyes_none rfl) (q_mv (v := .slice (some ⟨bl, 0, none⟩) left.length left.length) rfl) rfl (by decide) (cok1 trivial) ?_
          refine dv (gyes_none rfl) (q_len_slice Try.underlying23 rfl (s30.rd (j := 1) rfl)) rfl (by decide) (cok1 trivial) ?_
          refine dv (gyes_none rfl) (q_mv (v := .int .i64 0) rfl) rfl (by decide) (cok1 (cconst rfl)) ?_
          refine ⟨_, Wk.refl _ _, ?_⟩
          show awp _ _ _ _ _ _ _
          refine awp_block ?_
          refine awp_wk (Wk.U [(0, vE), (5, .slice (some ⟨b1, 0, none⟩) ((al).length) ((al).length)), (6, .map (some b5)), (9, .slice (some ⟨bl, 0, none⟩) left.length left.length), (10, .slice (some ⟨bo, 0, none⟩) out.length out.length), (37, .slice (some ⟨bl, 0, none⟩) left.length left.length), (38, .int .i64 ((left.length : Nat) : Int)), (39, .int .i64 0)] ⟨rfl, rfl, rfl, rfl, rfl, rfl, rfl, rfl, trivial⟩) ?_
          refine awp_loop (fun (i : Nat) st => ∃ (H31 : AHeap), st = ⟨80, U [(0, vE), (5, .slice (some ⟨b1, 0, none⟩) ((al).length) ((al).length)), (6, .map (some b5)), (9, .slice (some ⟨bl, 0, none⟩) left.length left.length), (10, .slice (some ⟨bo, 0, none⟩) out.length out.length), (37, .slice (some ⟨bl, 0, none⟩) left.length left.length), (38, .int .i64 ((left.length : Nat) : Int)), (39, .int .i64 ((i : Nat) : Int))], [], H31⟩ ∧ St H0 (none0) (Z1) H31 [(bo, .cells true (out.map intv) 1), (bl, .cells true (left.map intv) 1), (b5, .map (mk (fun a : Int => .int .i64 a) ml) c), (b1, .cells true (al.map intv) 1)] ∧ (∀ j, j < i → ok' e al left (nth left j) = false)) (fun (i : Nat) => left.length - i) (x0 := (0)) ?h0 ?round
          case h0 =>
            exact ⟨_, rfl, s30, fun j h => absurd h (Nat.not_lt_zero _)⟩
          case round =>
            rintro i _ ⟨H31, rfl, s32, hno⟩
            refine awp_seq ?_
            refine awp_regs hF ?_
            refine dvb (gyes_none rfl) (q_int rfl rfl rfl) rfl (by decide) (cok2 trivial trivial) (fun c3 => ?_) (fun c3 => ?_)
            ·
              replace c3 := of_decide_eq_true c3
              have hki : nth left i ∈ al := hf.sub _ (nthI_mem (by omega))
              obtain ⟨uk, lk, hk1, hk2, hk3, hlk⟩ := hZ.2.get (by omega) hki
              refine ⟨_, Wk.refl _ _, ?_⟩
              show awp _ _ _ _ _ _ _
              refine awp_seq ?_
              refine awp_cond_t rfl ?_
              refine awp_skip_wk ?_
              refine ⟨_, Wk.refl _ _, ?_⟩
              show awp _ _ _ _ _ _ _
              refine awp_seq ?_
              refine awp_block ?_
              refine awp_seq ?_
              refine awp_regs hF ?_
              refine dv (gyes_none rfl) (q_mv (v := .int .i64 ((i : Nat) : Int)) rfl) rfl (by decide) (cok1 trivial) ?_
              refine dv (gyes_none rfl) (OpQ.cast (v' := .pointer (some ⟨bl, i, none⟩)) (q_index1 (i := i) Try.underlying23 Try.sizeOf3 rfl rfl (by omega) (s32.rd (j := 1) rfl)) (by rw [Nat.zero_add])) rfl (by decide) (cok2 trivial trivial) ?_
              refine dv (gyes_none rfl) (q_load (v := intv (nth left i)) Try.isAgg3 rfl (s32.rd (j := 1) rfl) (get_nth (w := 0) (by omega))) rfl (by decide) (cok1 trivial) ?_
              refine dv (gyes_none rfl) (q_as (v := .int .i64 ((i : Nat) : Int)) rfl) rfl (by decide) (cok1 trivial) ?_
              refine dv (gyes_none rfl) (q_as (v := .int .i64 (nth left i)) rfl) rfl (by decide) (cok1 trivial) ?_
              refine ⟨_, Wk.refl _ _, ?_⟩
              show awp _ _ _ _ _ _ _
              refine awp_seq ?_
              refine awp_seq ?_
              refine awp_regs hF ?_
              refine dv (gyes_none rfl) (q_mv (v := .slice (some ⟨bl, 0, none⟩) left.length left.length) rfl) rfl (by decide) (cok1 trivial) ?_
              refine dv (gyes_none rfl) (q_len_slice Try.underlying23 rfl (s32.rd (j := 1) rfl)) rfl (by decide) (cok1 trivial) ?_
              refine dv (gyes_none rfl) (q_mv (v := .int .i64 0) rfl) rfl (by decide) (cok1 (cconst rfl)) ?_
              refine ⟨_, Wk.refl _ _, ?_⟩
              show awp _ _ _ _ _ _ _
              refine awp_block ?_
              refine awp_wk (Wk.U [(0, vE), (5, .slice (some ⟨b1, 0, none⟩) ((al).length) ((al).length)), (6, .map (some b5)), (9, .slice (some ⟨bl, 0, none⟩) left.length left.length), (10, .slice (some ⟨bo, 0, none⟩) out.length out.length), (11, .int .i64 ((i : Nat) : Int)), (12, .int .i64 (nth left i)), (37, .slice (some ⟨bl, 0, none⟩) left.length left.length), (38, .int .i64 ((left.length : Nat) : Int)), (39, .int .i64 ((i : Nat) : Int)), (44, .slice (some ⟨bl, 0, none⟩) left.length left.length), (45, .int .i64 ((left.length : Nat) : Int)), (46, .int .i64 0)] ⟨rfl, rfl, rfl, rfl, rfl, rfl, rfl, rfl, rfl, rfl, rfl, rfl, rfl, trivial⟩) ?_
              refine awp_loop (fun (j : Nat) st => ∃ (H33 : AHeap), st = ⟨80, U [(0, vE), (5, .slice (some ⟨b1, 0, none⟩) ((al).length) ((al).length)), (6, .map (some b5)), (9, .slice (some ⟨bl, 0, none⟩) left.length left.length), (10, .slice (some ⟨bo, 0, none⟩) out.length out.length), (11, .int .i64 ((i : Nat) : Int)), (12, .int .i64 (nth left i)), (37, .slice (some ⟨bl, 0, none⟩) left.length left.length), (38, .int .i64 ((left.length : Nat) : Int)), (39, .int .i64 ((i : Nat) : Int)), (44, .slice (some ⟨bl, 0, none⟩) left.length left.length), (45, .int .i64 ((left.length : Nat) : Int)), (46, .int .i64 ((j : Nat) : Int))], [], H33⟩ ∧ St H0 (none0) (Z1) H33 [(bo, .cells true (out.map intv) 1), (bl, .cells true (left.map intv) 1), (b5, .map (mk (fun a : Int => .int .i64 a) ml) c), (b1, .cells true (al.map intv) 1)] ∧ ((left.take j).all (nx e al (nth left i)) = true)) (fun (j : Nat) => left.length - j) (x0 := (0)) ?h0 ?round
              case h0 =>
                exact ⟨_, rfl, s32, by simp⟩
              case round =>
                rintro j _ ⟨H33, rfl, s34, hj⟩
                refine awp_seq ?_
                refine awp_regs hF ?_
                refine dvb (gyes_none rfl) (q_int rfl rfl rfl) rfl (by decide) (cok2 trivial trivial) (fun c4 => ?_) (fun c4 => ?_)
                ·
                  replace c4 := of_decide_eq_true c4
                  have hnj : nth left j ∈ al := hf.sub _ (nthI_mem (by omega))
                  obtain ⟨un, ln, hn1, hn2, hn3, hln⟩ := hZ.2.get (by omega) hnj
                  refine ⟨_, Wk.refl _ _, ?_⟩
                  show awp _ _ _ _ _ _ _
                  refine awp_seq ?_
                  refine awp_cond_t rfl ?_
                  refine awp_skip_wk ?_
                  refine ⟨_, Wk.refl _ _, ?_⟩
                  show awp _ _ _ _ _ _ _
                  refine awp_seq ?_
                  refine awp_block ?_
                  refine awp_seq ?_
                  refine awp_regs hF ?_
                  refine dv (gyes_none rfl) (OpQ.cast (v' := .pointer (some ⟨bl, j, none⟩)) (q_index1 (i := j) Try.underlying23 Try.sizeOf3 rfl rfl (by omega) (s34.rd (j := 1) rfl)) (by rw [Nat.zero_add])) rfl (by decide) (cok2 trivial trivial) ?_
                  refine dv (gyes_none rfl) (q_load (v := intv (nth left j)) Try.isAgg3 rfl (s34.rd (j := 1) rfl) (get_nth (w := 0) (by omega))) rfl (by decide) (cok1 trivial) ?_
                  refine dv (gyes_none rfl) (q_as (v := .int .i64 (nth left j)) rfl) rfl (by decide) (cok1 trivial) ?_
                  refine ⟨_, Wk.refl _ _, ?_⟩
                  show awp _ _ _ _ _ _ _
                  refine awp_seq ?_
                  refine awp_regs hF ?_
                  refine dv (gyes_none rfl) (q_mv (v := .int .i64 (nth left j)) rfl) rfl (by decide) (cok1 trivial) ?_
                  refine dv (gyes_none rfl) (q_mv (v := .int .i64 (nth left i)) rfl) rfl (by decide) (cok1 trivial) ?_
                  refine dvb (gyes_none rfl) (q_int rfl rfl rfl) rfl (by decide) (cok2 trivial trivial) (fun c5 => ?_) (fun c5 => ?_)
                  ·
                    replace c5 := bne_iff_ne.1 c5
                    refine dv (gyes_none rfl) (q_mv (v := .bool true) rfl) rfl (by decide) (cok1 trivial) ?_
                    refine dv (gyes_some rfl rfl) (q_mv (v := .map (some b5)) rfl) rfl (by decide) (cok1 trivial) ?_
                    refine dv (gyes_some rfl rfl) (q_mv (v := .int .i64 (nth left i)) rfl) rfl (by decide) (cok1 trivial) ?_
                    refine dv (gyes_some rfl rfl) (q_lookup (kf := (fun a : Int => .int .i64 a)) (a := (nth left i)) (z := .slice none 0 0) Try.underlying38 (key_int Try.underlying3) Try.zeroValue23 rfl rfl rfl (s34.getj (j := 2) rfl) hk1) rfl (by decide) (cok2 trivial trivial) ?_
                    refine dv (gyes_some rfl rfl) (q_mv (v := .int .i64 (nth left j)) rfl) rfl (by decide) (cok1 trivial) ?_
                    refine dvb (gyes_some rfl rfl) (q_call0 Try.call19 rfl (contains_ok lk _ (s34.sl hk2) (by omega) (nth left j))) rfl (by decide) (call_ok rfl) (fun c6 => ?_) (fun c6 => ?_)
                    ·
                      replace c6 := of_decide_eq_true c6
                      refine dv (gyes_none rfl) (q_pt (v := .bool true) rfl rfl) rfl (by decide) (call_ok rfl) ?_
                      refine dv (gyes_none rfl) (q_mv (v := .bool true) rfl) rfl (by decide) (cok1 trivial) ?_
                      refine dv (gyes_some rfl rfl) (q_mv (v := .map (some b5)) rfl) rfl (by decide) (cok1 trivial) ?_
                      refine dv (gyes_some rfl rfl) (q_mv (v := .int .i64 (nth left j)) rfl) rfl (by decide) (cok1 trivial) ?_
                      refine dv (gyes_some rfl rfl) (q_lookup (kf := (fun a : Int => .int .i64 a)) (a := (nth left j)) (z := .slice none 0 0) Try.underlying38 (key_int Try.underlying3) Try.zeroValue23 rfl rfl rfl (s34.getj (j := 2) rfl) hn1) rfl (by decide) (cok2 trivial trivial) ?_
                      refine dv (gyes_some rfl rfl) (q_mv (v := .int .i64 (nth left i)) rfl) rfl (by decide) (cok1 trivial) ?_
                      refine dvb (gyes_some rfl rfl) (q_call0 Try.call19 rfl (contains_ok ln _ (s34.sl hn2) (by omega) (nth left i))) rfl (by decide) (call_ok rfl) (fun c7 => ?_) (fun c7 => ?_)
                      ·
                        replace c7 := of_decide_eq_true c7
                        refine dv (gyes_some rfl rfl) (q_not (b := true) rfl) rfl (by decide) (cok1 trivial) ?_
                        refine dv (gyes_none rfl) (q_pt (v := .bool false) rfl rfl) rfl (by decide) (call_ok rfl) ?_
                        refine ⟨_, Wk.refl _ _, ?_⟩
                        show awp _ _ _ _ _ _ _
                        refine awp_cond_f rfl ?_
                        refine awp_skip_wk ?_
                        refine ⟨_, Wk.refl _ _, ?_⟩
                        show awp _ _ _ _ _ _ _
                        refine awp_regs hF ?_
                        refine dv (gyes_none rfl) (OpQ.cast (v' := .int .i64 ((j + 1 : Nat) : Int)) (q_int rfl rfl rfl) (congrArg _ ((i64_in (by omega)).trans (by first | rfl | omega | (push_cast; rfl))))) rfl (by decide) (cok2 trivial (cconst rfl)) ?_
                        refine dv (gyes_none rfl) (q_mv (v := .int .i64 ((j + 1 : Nat) : Int)) rfl) rfl (by decide) (cok1 trivial) ?_
                        refine ⟨_, Wk.U [(0, vE), (5, .slice (some ⟨b1, 0, none⟩) ((al).length) ((al).length)), (6, .map (some b5)), (9, .slice (some ⟨bl, 0, none⟩) left.length left.length), (10, .slice (some ⟨bo, 0, none⟩) out.length out.length), (11, .int .i64 ((i : Nat) : Int)), (12, .int .i64 (nth left i)), (37, .slice (some ⟨bl, 0, none⟩) left.length left.length), (38, .int .i64 ((left.length : Nat) : Int)), (39, .int .i64 ((i : Nat) : Int)), (44, .slice (some ⟨bl, 0, none⟩) left.length left.length), (45, .int .i64 ((left.length : Nat) : Int)), (46, .int .i64 (((j + 1) : Nat) : Int))] ⟨rfl, rfl, rfl, rfl, rfl, rfl, rfl, rfl, rfl, rfl, rfl, rfl, rfl, trivial⟩, (j + 1), ⟨_, rfl, s34, all_take (by omega) hj (nx_t (by first | exact .inl (by assumption) | exact .inr (.inl ((hlk _).symm.trans (decide_eq_false (by assumption)))) | exact .inr (.inr ((hln _).symm.trans (decide_eq_true (by assumption))))))⟩, (by omega)⟩
                      ·
                        replace c7 := of_decide_eq_false c7
                        refine dv (gyes_some rfl rfl) (q_not (b := false) rfl) rfl (by decide) (cok1 trivial) ?_
                        refine dv (gyes_none rfl) (q_pt (v := .bool true) rfl rfl) rfl (by decide) (call_ok rfl) ?_
                        refine ⟨_, Wk.refl _ _, ?_⟩
                        show awp _ _ _ _ _ _ _
                        refine awp_cond_t rfl ?_
                        refine awp_exit_wk ?_
                        refine ⟨_, Wk.refl _ _, ?_⟩
                        show awp _ _ _ _ _ _ _
                        refine awp_regs hF ?_
                        refine dv (gyes_none rfl) (OpQ.cast (v' := .int .i64 ((i + 1 : Nat) : Int)) (q_int rfl rfl rfl) (congrArg _ ((i64_in (by omega)).trans (by first | rfl | omega | (push_cast; rfl))))) rfl (by decide) (cok2 trivial (cconst rfl)) ?_
                        refine dv (gyes_none rfl) (q_mv (v := .int .i64 ((i + 1 : Nat) : Int)) rfl) rfl (by decide) (cok1 trivial) ?_
                        refine ⟨_, Wk.U [(0, vE), (5, .slice (some ⟨b1, 0, none⟩) ((al).length) ((al).length)), (6, .map (some b5)), (9, .slice (some ⟨bl, 0, none⟩) left.length left.length), (10, .slice (some ⟨bo, 0, none⟩) out.length out.length), (37, .slice (some ⟨bl, 0, none⟩) left.length left.length), (38, .int .i64 ((left.length : Nat) : Int)), (39, .int .i64 (((i + 1) : Nat) : Int))] ⟨rfl, rfl, rfl, rfl, rfl, rfl, rfl, rfl, trivial⟩, (i + 1), ⟨_, rfl, s34, lt_succ_cases hno (ok_no (j := j) (by omega) (nx_f (by assumption) ((hlk _).symm.trans (decide_eq_true (by assumption))) ((hln _).symm.trans (decide_eq_false (by assumption)))))⟩, (by omega)⟩
                    ·
                      replace c6 := of_decide_eq_false c6
                      refine dv (gyes_none rfl) (q_pt (v := .bool false) rfl rfl) rfl (by decide) (call_ok rfl) ?_
                      refine dv (gyes_none rfl) (q_mv (v := .bool false) rfl) rfl (by decide) (cok1 trivial) ?_
                      refine dno rfl (.inl rfl) rfl (by decide) ?_
                      refine dno rfl (.inl rfl) rfl (by decide) ?_
                      refine dno rfl (.inl rfl) rfl (by decide) ?_
                      refine dno rfl (.inl rfl) rfl (by decide) ?_
                      refine dno rfl (.inl rfl) rfl (by decide) ?_
                      refine dno rfl (.inl rfl) rfl (by decide) ?_
                      refine dv (gyes_none rfl) (q_pf (v := .bool false) rfl rfl) rfl (by decide) (call_ok rfl) ?_
                      refine ⟨_, Wk.refl _ _, ?_⟩
                      show awp _ _ _ _ _ _ _
                      refine awp_cond_f rfl ?_
                      refine awp_skip_wk ?_
                      refine ⟨_, Wk.refl _ _, ?_⟩
                      show awp _ _ _ _ _ _ _
                      refine awp_regs hF ?_
                      refine dv (gyes_none rfl) (OpQ.cast (v' := .int .i64 ((j + 1 : Nat) : Int)) (q_int rfl rfl rfl) (congrArg _ ((i64_in (by omega)).trans (by first | rfl | omega | (push_cast; rfl))))) rfl (by decide) (cok2 trivial (cconst rfl)) ?_
                      refine dv (gyes_none rfl) (q_mv (v := .int .i64 ((j + 1 : Nat) : Int)) rfl) rfl (by decide) (cok1 trivial) ?_
                      refine ⟨_, Wk.U [(0, vE), (5, .slice (some ⟨b1, 0, none⟩) ((al).length) ((al).length)), (6, .map (some b5)), (9, .slice (some ⟨bl, 0, none⟩) left.length left.length), (10, .slice (some ⟨bo, 0, none⟩) out.length out.length), (11, .int .i64 ((i : Nat) : Int)), (12, .int .i64 (nth left i)), (37, .slice (some ⟨bl, 0, none⟩) left.length left.length), (38, .int .i64 ((left.length : Nat) : Int)), (39, .int .i64 ((i : Nat) : Int)), (44, .slice (some ⟨bl, 0, none⟩) left.length left.length), (45, .int .i64 ((left.length : Nat) : Int)), (46, .int .i64 (((j + 1) : Nat) : Int))] ⟨rfl, rfl, rfl, rfl, rfl, rfl, rfl, rfl, rfl, rfl, rfl, rfl, rfl, trivial⟩, (j + 1), ⟨_, rfl, s34, all_take (by omega) hj (nx_t (by first | exact .inl (by assumption) | exact .inr (.inl ((hlk _).symm.trans (decide_eq_false (by assumption)))) | exact .inr (.inr ((hln _).symm.trans (decide_eq_true (by assumption))))))⟩, (by omega)⟩
                  ·
                    replace c5 := bne_eq_false_iff_eq.1 c5
                    refine dv (gyes_none rfl) (q_mv (v := .bool false) rfl) rfl (by decide) (cok1 trivial) ?_
                    refine dno rfl (.inl rfl) rfl (by decide) ?_
                    refine dno rfl (.inl rfl) rfl (by decide) ?_
                    refine dno rfl (.inl rfl) rfl (by decide) ?_
                    refine dno rfl (.inl rfl) rfl (by decide) ?_
                    refine dno rfl (.inl rfl) rfl (by decide) ?_
                    refine dv (gyes_none rfl) (q_pf (v := .bool false) rfl rfl) rfl (by decide) (call_ok rfl) ?_
                    refine dv (gyes_none rfl) (q_mv (v := .bool false) rfl) rfl (by decide) (cok1 trivial) ?_
                    refine dno rfl (.inl rfl) rfl (by decide) ?_
                    refine dno rfl (.inl rfl) rfl (by decide) ?_
                    refine dno rfl (.inl rfl) rfl (by decide) ?_
                    refine dno rfl (.inl rfl) rfl (by decide) ?_
                    refine dno rfl (.inl rfl) rfl (by decide) ?_
                    refine dno rfl (.inl rfl) rfl (by decide) ?_
                    refine dv (gyes_none rfl) (q_pf (v := .bool false) rfl rfl) rfl (by decide) (call_ok rfl) ?_
                    refine ⟨_, Wk.refl _ _, ?_⟩
                    show awp _ _ _ _ _ _ _
                    refine awp_cond_f rfl ?_
                    refine awp_skip_wk ?_
                    refine ⟨_, Wk.refl _ _, ?_⟩
                    show awp _ _ _ _ _ _ _
                    refine awp_regs hF ?_
                    refine dv (gyes_none rfl) (OpQ.cast (v' := .int .i64 ((j + 1 : Nat) : Int)) (q_int rfl rfl rfl) (congrArg _ ((i64_in (by omega)).trans (by first | rfl | omega | (push_cast; rfl))))) rfl (by decide) (cok2 trivial (cconst rfl)) ?_
                    refine dv (gyes_none rfl) (q_mv (v := .int .i64 ((j + 1 : Nat) : Int)) rfl) rfl (by decide) (cok1 trivial) ?_
                    refine ⟨_, Wk.U [(0, vE), (5, .slice (some ⟨b1, 0, none⟩) ((al).length) ((al).length)), (6, .map (some b5)), (9, .slice (some ⟨bl, 0, none⟩) left.length left.length), (10, .slice (some ⟨bo, 0, none⟩) out.length out.length), (11, .int .i64 ((i : Nat) : Int)), (12, .int .i64 (nth left i)), (37, .slice (some ⟨bl, 0, none⟩) left.length left.length), (38, .int .i64 ((left.length : Nat) : Int)), (39, .int .i64 ((i : Nat) : Int)), (44, .slice (some ⟨bl, 0, none⟩) left.length left.length), (45, .int .i64 ((left.length : Nat) : Int)), (46, .int .i64 (((j + 1) : Nat) : Int))] ⟨rfl, rfl, rfl, rfl, rfl, rfl, rfl, rfl, rfl, rfl, rfl, rfl, rfl, trivial⟩, (j + 1), ⟨_, rfl, s34, all_take (by omega) hj (nx_t (by first | exact .inl (by assumption) | exact .inr (.inl ((hlk _).symm.trans (decide_eq_false (by assumption)))) | exact .inr (.inr ((hln _).symm.trans (decide_eq_true (by assumption))))))⟩, (by omega)⟩
                ·
                  replace c4 := of_decide_eq_false c4
                  have hok := ok_all (by omega) hj
                  refine ⟨_, Wk.refl _ _, ?_⟩
                  show awp _ _ _ _ _ _ _
                  refine awp_seq ?_
                  refine awp_cond_f rfl ?_
                  refine awp_exit_wk ?_
                  refine ⟨_, Wk.refl _ _, ?_⟩
                  show awp _ _ _ _ _ _ _
                  refine awp_seq ?_
                  refine awp_regs hF ?_
                  refine dv (gyes_none rfl) (q_mv (v := .slice (some ⟨bo, 0, none⟩) out.length out.length) rfl) rfl (by decide) (cok1 trivial) ?_
                  refine dv (gyes_none rfl) (q_mv (v := .int .i64 (nth left i)) rfl) rfl (by decide) (cok1 trivial) ?_
                  refine x_new (fun b => .slice (some ⟨b, 0, none⟩) 1 1) s34 (gyes_none rfl) (q_buildSliceL (ds := [.int .i64 (nth left i)]) [.int .i64 (nth left i)] rfl Try.underlying23 Try.sizeOf3 Try.zeroValue3 rfl (by decide) (by decide) ⟨rfl, trivial⟩ (lvsC (by exact trivial) lvs0) rfl rfl) rfl (by decide) (cok1 trivial) (fun b35 H36 hb38 s37 => ?_)
                  refine x_append (l := [(nth left i)]) (f := intv) [] hF s37 (by kernel_rfl) (j := 1) ((out ++ [(nth left i)]).length) (by simp) (gyes_none rfl) Try.underlying23 Try.underlying23 Try.type3 rfl rfl (by decide) rfl rfl rfl rfl (s37.slj (l := [(nth left i)]) (f := intv) (j := 0) rfl rfl (Nat.le_refl _)) (fun x => lc_scalar rfl) (by simp) (by show (2 * _ + 1000) * 8 ≤ _; first | omega | (simp only [List.length_append, List.length_cons, List.length_nil, List.length_take, List.length_drop]; omega)) trivial trivial (by decide) rfl rfl (vs' := (out ++ [(nth left i)]).map intv) (by simp) (fun b39 H40 hb42 s41 => ⟨?_, ?_⟩)
                  · exact trivial
                  refine dv (gyes_none rfl) (q_as (v := .slice (some ⟨b39, 0, none⟩) ((out ++ [(nth left i)]).length) ((out ++ [(nth left i)]).length)) rfl) rfl (by decide) (cok1 trivial) ?_
                  refine ⟨_, Wk.refl _ _, ?_⟩
                  show awp _ _ _ _ _ _ _
                  refine awp_seq ?_
                  refine awp_regs hF ?_
                  refine dv (gyes_none rfl) (q_mv (v := .slice (some ⟨bl, 0, none⟩) left.length left.length) rfl) rfl (by decide) (cok1 trivial) ?_
                  refine dv (gyes_none rfl) (q_mv (v := .int .i64 ((i : Nat) : Int)) rfl) rfl (by decide) (cok1 trivial) ?_
                  refine dv (gyes_none rfl) (q_mv (v := .int .i64 ((i : Nat) : Int)) rfl) rfl (by decide) (cok1 trivial) ?_
                  refine dv (gyes_none rfl) (OpQ.cast (v' := .int .i64 ((i + 1 : Nat) : Int)) (q_int rfl rfl rfl) (congrArg _ ((i64_in (by omega)).trans (by first | rfl | omega | (push_cast; rfl))))) rfl (by decide) (cok2 trivial (cconst rfl)) ?_
                  refine x_call [] hF (by kernel_rfl) (gyes_none rfl) Try.call20 rfl (args := [.slice (some ⟨bl, 0, none⟩) left.length left.length, .int .i64 ((i : Nat) : Int), .int .i64 ((i + 1 : Nat) : Int)]) rfl (delete_ok left i bl (s41.getj (j := 2) rfl) (by omega) (by omega)) (show _ < _ by decide) (call_ok rfl) rfl rfl (fun _ _ _ _ hd => by cases hd) ?_
                  rintro _ H43 ⟨rfl, hk44, ha45⟩
                  have s46 := s41.turnS hk44 [(b35, .cells true [.int .i64 (nth left i)] 1), (b39, .cells true ((out ++ [(nth left i)]).map intv) 1), (bl, .cells true ((left.eraseIdx i).map intv) 1), (b5, .map (mk (fun a : Int => .int .i64 a) ml) c), (b1, .cells true (al.map intv) 1)] rfl ⟨(s41.kept hk44 (j := 0) rfl (s41.nej (i := 0) (j := 2) rfl rfl (by decide))), (s41.kept hk44 (j := 1) rfl (s41.nej (i := 1) (j := 2) rfl rfl (by decide))), ha45, (s41.kept hk44 (j := 3) rfl (s41.nej (i := 3) (j := 2) rfl rfl (by decide))), (s41.kept hk44 (j := 4) rfl (s41.nej (i := 4) (j := 2) rfl rfl (by decide))), trivial⟩ (by rintro _ rfl; simp)
                  refine ⟨trivial, ?_⟩
                  show dList _ _ _ _ _ _ _ _ _ _
                  refine dv (gyes_none rfl) (q_as (v := .slice (some ⟨bl, 0, none⟩) ((left.eraseIdx i).length) ((left.eraseIdx i).length)) rfl) rfl (by decide) (cok1 trivial) ?_
                  refine ⟨_, Wk.refl _ _, ?_⟩
                  show awp _ _ _ _ _ _ _
                  refine awp_exit_wk ?_
                  refine ⟨_, Wk.U [(0, vE), (5, .slice (some ⟨b1, 0, none⟩) ((al).length) ((al).length)), (6, .map (some b5)), (9, .slice (some ⟨bl, 0, none⟩) ((left.eraseIdx i).length) ((left.eraseIdx i).length)), (10, .slice (some ⟨b39, 0, none⟩) ((out ++ [nth left i]).length) ((out ++ [nth left i]).length))] ⟨rfl, rfl, rfl, rfl, rfl, trivial⟩, ((left.eraseIdx i), (out ++ [nth left i])), ⟨_, _, _, rfl, (s46.sub (.cons _ (.cons_cons _ (.cons_cons _ (.cons_cons _ (.cons_cons _ (.refl _))))))), hf.step (by omega) hok hno⟩, (by rw [List.length_eraseIdx_of_lt (by omega)]; omega)⟩
            ·
              replace c3 := of_decide_eq_false c3
              exact (FInv.stuck hpos (by omega) hno).elim --closed
        ·
          replace c2 := of_decide_eq_false c2
          refine ⟨_, Wk.refl _ _, ?_⟩
          show awp _ _ _ _ _ _ _
          refine awp_cond_f rfl ?_
          refine awp_exit_wk ?_
          refine ⟨_, Wk.refl _ _, ?_⟩
          show awp _ _ _ _ _ _ _
          refine awp_seq ?_
          refine awp_regs hF ?_
          refine dv (gyes_none rfl) (q_mv (v := .slice (some ⟨bo, 0, none⟩) out.length out.length) rfl) rfl (by decide) (cok1 trivial) ?_
          refine dv (gyes_none rfl) (q_as (v := .slice (some ⟨bo, 0, none⟩) out.length out.length) rfl) rfl (by decide) (cok1 trivial) ?_
          refine ⟨_, Wk.refl _ _, ?_⟩
          show awp _ _ _ _ _ _ _
          refine awp_ret_wk ?_
          refine ⟨_, Wk.refl _ _, ?_⟩
          repeat (with_reducible first | refine then_ret ?_ | refine blk_ret ?_ | refine then_exit ?_ | refine blk_exit ?_ | refine blk_exit' (by decide) ?_ | refine blk_normal ?_ | refine then_normal ?_ | refine retq_ret ?_ | refine retq_normal ?_ | refine ng_normal ?_ | refine ng_ret ?_ | refine ng_exit ?_)
          refine ret_is (v := .slice (some ⟨bo, 0, none⟩) out.length out.length) rfl (.tmp rfl .nil) rfl ?_
          have hfs := hf.stop (List.length_eq_zero_iff.1 (by omega))
          rw [← hfs]
          exact fresh_of s30 (j := 0) rfl rfl

end Go.Proofs.YtbjlabokijchpaaA
