/-
  Walks over abstract states: texts of one claim, merged.
-/
import Derived.Test.YtnafdgcikaifmaaGreatM3
import Derived.Test.YtnafdgcikaifmaaGreatProg
import Derived.KernelRfl
/-
  Walks of functions of the given program, and what they compute.
-/
namespace Go.Proofs.YtnafdgcikaifmaaGreatA
set_option linter.unusedVariables false
open Go Go.RowKit Go.Shelf Go.Proofs
set_option maxRecDepth 100000 in
set_option maxHeartbeats 4000000 in
theorem plays_ok {H0 : AHeap} (vl : Value) (l : List Fl) (hl : SlS filc 2 H0 vl l) (hlw : ∀ x ∈ l, FlW x) (va : Value) (o : List ByteArray) (ha : Sl strv H0 va o) : ACalls Tryz.prog 4 [vl, va] H0 (Rets (.bool true) H0) := by
  have hF : Wd Fence.wide := .inl rfl
  have hM : Tryz.prog.follows .mixedOrders = true := by kernel_rfl
  have s0 := St.begin H0
  refine acalls_st Tryz.func4 rfl Tryz.ntmps4 rfl ?_
  refine awp_seq ?_
  refine awp_regs hF ?_
  refine dv (gyes_none rfl) (q_as (v := .bool false) rfl) rfl (by decide) (cok1 (cconst rfl)) ?_
  refine ⟨_, Wk.refl _ _, ?_⟩
  show awp _ _ _ _ _ _ _
  refine awp_seq ?_
  refine awp_seq ?_
  refine awp_regs hF ?_
  refine dv (gyes_none rfl) (q_call0 Tryz.call5 rfl (speaks_ok)) rfl (by decide) (cok1 trivial) ?_
  refine dv (gyes_none rfl) (q_not (b := true) rfl) rfl (by decide) (cok1 trivial) ?_
  refine ⟨_, Wk.refl _ _, ?_⟩
  show awp _ _ _ _ _ _ _
  refine awp_cond_f rfl ?_
  refine awp_skip_wk ?_
  refine ⟨_, Wk.refl _ _, ?_⟩
  show awp _ _ _ _ _ _ _
  refine awp_seq ?_
  refine awp_regs hF ?_
  refine x_new (fun b => .pointer (some ⟨b, 0, none⟩)) s0 (gyes_none rfl) (q_alloc (vs := [.slice none 0 0]) 1 Tryz.zeroValue26 (by first | exact flat_scalar rfl | exact flat_agg rfl) rfl) rfl (by decide) (by simp [Op.operands, Call.operands]) (fun b1 H2 hb4 s3 => ?_)
  refine ⟨_, Wk.refl _ _, ?_⟩
  show awp _ _ _ _ _ _ _
  refine awp_seq ?_
  refine awp_regs hF ?_
  refine x_new (fun b => .pointer (some ⟨b, 0, none⟩)) s3 (gyes_none rfl) (q_alloc (vs := [.slice none 0 0]) 1 Tryz.zeroValue36 (by first | exact flat_scalar rfl | exact flat_agg rfl) rfl) rfl (by decide) (by simp [Op.operands, Call.operands]) (fun b5 H6 hb8 s7 => ?_)
  refine ⟨_, Wk.refl _ _, ?_⟩
  show awp _ _ _ _ _ _ _
  refine awp_seq ?_
  refine awp_seq ?_
  refine awp_regs hF ?_
  refine dv (gyes_none rfl) (q_as (v := .int .i64 0) rfl) rfl (by decide) (cok1 (cconst rfl)) ?_
  refine ⟨_, Wk.refl _ _, ?_⟩
  show awp _ _ _ _ _ _ _
  refine awp_block ?_
  refine awp_nilc s7 (j := 0) (o := 0) (sz' := 2) rfl rfl (fun b9 H10 hb12 s11 => ?_)
  refine awp_nilc s11 (j := 2) (o := 0) (sz' := 1) rfl rfl (fun b13 H14 hb16 s15 => ?_)
  refine awp_wk (Wk.U [(0, vl), (1, va), (5, .pointer (some ⟨b1, 0, none⟩)), (6, .pointer (some ⟨b5, 0, none⟩)), (7, .int .i64 0)] ⟨rfl, rfl, rfl, rfl, rfl, trivial⟩) ?_
  refine awp_loop (fun ((i, m, ps) : Nat × (List Fl) × (List Nat)) st => ∃ (H17 : AHeap) (ys : Nat) (yw : Nat) (Z1 : Rs), st = ⟨115, U [(0, vl), (1, va), (5, .pointer (some ⟨b1, 0, none⟩)), (6, .pointer (some ⟨b5, 0, none⟩)), (7, .int .i64 ((i : Nat) : Int))], [], H17⟩ ∧ St H0 (none0) (Z1) H17 [(ys, .cells true (ps.map ptv) 1), (yw, .cells true (fl filc m) 2), (b5, .cells true [.slice (some ⟨yw, 0, none⟩) m.length m.length] 1), (b1, .cells true [.slice (some ⟨ys, 0, none⟩) ps.length ps.length] 1)] ∧ (m.length ≤ 16 ∧ i ≤ l.length ∧ i ≤ 30) ∧ (FZ Z1 ps m) ∧ (∀ b vs sz, Rd H0 b vs sz → Z1 b vs sz)) (fun ((i, m, ps) : Nat × (List Fl) × (List Nat)) => 30 - i) (x0 := (0, ([] : List Fl), ([] : List Nat))) ?h0 ?round
  case h0 =>
    exact ⟨_, _, _, _, rfl, s15, ⟨Nat.zero_le _, Nat.zero_le _, Nat.zero_le _⟩, ⟨rfl, fun i hi => absurd hi (Nat.not_lt_zero _)⟩, fun _ _ _ h => h⟩
  case round =>
    rintro ⟨i, m, ps⟩ _ ⟨H17, ys, yw, Z1, rfl, s18, hm, hz, hZ⟩
    dsimp only at *
    have hl1 : SlSZ filc 2 Z1 vl l := hl.mono hZ
    have ha1 : SlZ strv Z1 va o := SlZ.mono (Z := Rd H0) ha hZ
    have hpl := hz.len
    refine awp_seq ?_
    refine awp_seq ?_
    refine awp_regs hF ?_
    refine dv (gyes_none rfl) (q_mv (v := .int .i64 ((i : Nat) : Int)) rfl) rfl (by decide) (cok1 trivial) ?_
    refine dv (gyes_none rfl) (q_mv (v := vl) rfl) rfl (by decide) (cok1 trivial) ?_
    refine dv (gyes_none rfl) (q_len_sls (l := l) Tryz.underlying22 (s18.sls hl1) rfl) rfl (by decide) (cok1 trivial) ?_
    refine dvb (gyes_none rfl) (q_int rfl rfl rfl) rfl (by decide) (cok2 trivial trivial) (fun c1 => ?_) (fun c1 => ?_)
    ·
      replace c1 := of_decide_eq_true c1
      refine dv (gyes_none rfl) (q_mv (v := .bool true) rfl) rfl (by decide) (cok1 trivial) ?_
      refine dv (gyes_some rfl rfl) (q_mv (v := .int .i64 ((i : Nat) : Int)) rfl) rfl (by decide) (cok1 trivial) ?_
      refine dvb (gyes_some rfl rfl) (q_int rfl rfl rfl) rfl (by decide) (cok2 trivial (cconst rfl)) (fun c2 => ?_) (fun c2 => ?_)
      ·
        replace c2 := of_decide_eq_true c2
        refine dv (gyes_none rfl) (q_pt (v := .bool true) rfl rfl) rfl (by decide) (call_ok rfl) ?_
        refine ⟨_, Wk.refl _ _, ?_⟩
        show awp _ _ _ _ _ _ _
        refine awp_cond_t rfl ?_
        refine awp_skip_wk ?_
        refine ⟨_, Wk.refl _ _, ?_⟩
        show awp _ _ _ _ _ _ _
        refine awp_seq ?_
        refine awp_block ?_
        refine awp_seq ?_
        refine awp_regt hF hM (by kernel_rfl) (by kernel_rfl) ?_
        refine dv (gyes_none rfl) (q_load (v := .slice (some ⟨yw, 0, none⟩) m.length m.length) Tryz.isAgg36 rfl (s18.rd (j := 2) rfl) rfl) rfl (by decide) (cok1 trivial) ?_
        refine dv (gyes_none rfl) (q_mv (v := vl) rfl) rfl (by decide) (cok1 trivial) ?_
        refine dv (gyes_none rfl) (q_mv (v := .int .i64 ((i : Nat) : Int)) rfl) rfl (by decide) (cok1 trivial) ?_
        refine dv (gyes_none rfl) (q_index_sls (l := l) (i := i) Tryz.underlying22 Tryz.sizeOf31 (s18.sls hl1) filc_w rfl rfl (by omega)) rfl (by decide) (cok2 trivial trivial) ?_
        refine dv (gyes_none rfl) (q_field_sls (l := l) (i := i) Tryz.underlying31 rfl Tryz.sizeOf9 (s18.sls hl1) filc_w rfl (by omega)) rfl (by decide) (cok1 trivial) ?_
        refine dv (gyes_none rfl) (q_load_sls0 (l := l) (i := i) (u := .string ((nth l i).1)) Tryz.isAgg9 (s18.sls hl1) filc_w rfl (by omega) (by decide) rfl) rfl (by decide) (cok1 trivial) ?_
        refine dv (gyes_none rfl) (q_mv (v := vl) rfl) rfl (by decide) (cok1 trivial) ?_
        refine dv (gyes_none rfl) (q_mv (v := .int .i64 ((i : Nat) : Int)) rfl) rfl (by decide) (cok1 trivial) ?_
        refine dv (gyes_none rfl) (q_index_sls (l := l) (i := i) Tryz.underlying22 Tryz.sizeOf31 (s18.sls hl1) filc_w rfl rfl (by omega)) rfl (by decide) (cok2 trivial trivial) ?_
        refine dv (gyes_none rfl) (q_field_sls (l := l) (i := i) Tryz.underlying31 rfl Tryz.sizeOf9 (s18.sls hl1) filc_w rfl (by omega)) rfl (by decide) (cok1 trivial) ?_
        refine dv (gyes_none rfl) (q_load_sls (l := l) (i := i) (u := .string ((nth l i).2)) Tryz.isAgg9 (s18.sls hl1) filc_w rfl (by omega) (by decide) rfl) rfl (by decide) (cok1 trivial) ?_
        refine x_call [] hF (by kernel_rfl) (gyes_none rfl) Tryz.call9 rfl (args := [.slice (some ⟨yw, 0, none⟩) m.length m.length, .string ((nth l i).1), .string ((nth l i).2)]) rfl (raddb_ok yw m (s18.getj (j := 1) rfl) (by omega) ((nth l i).1) ((nth l i).2) (Nat.le_trans (hlw _ (nthS_mem (by omega))).1 (by decide)) (Nat.le_trans (hlw _ (nthS_mem (by omega))).2 (by decide))) (show _ < _ by decide) (call_ok rfl) rfl rfl (fun _ _ _ _ hd => by cases hd) ?_
        rintro _ H20 ⟨b19, hk21, rfl, h22, h23⟩
        have s24 := s18.moveB (j := 3) (jl := 1) rfl rfl (by decide) hk21 h22 h23
        refine ⟨trivial, ?_⟩
        show dList _ _ _ _ _ _ _ _ _ _
        refine dv (gyes_none rfl) (q_mv (v := .tuple #[.slice (some ⟨b19, 0, none⟩) ((addS m (nth l i)).length) ((addS m (nth l i)).length), .int .i64 ((addV m ((nth l i).1) ((nth l i).2) : Nat) : Int)]) rfl) rfl (by decide) (cok1 trivial) ?_
        refine dv (gyes_none rfl) (q_extract (v := .slice (some ⟨b19, 0, none⟩) ((addS m (nth l i)).length) ((addS m (nth l i)).length)) rfl rfl) rfl (by decide) (cok1 trivial) ?_
        refine dv (gyes_none rfl) (q_extract (v := .int .i64 ((addV m ((nth l i).1) ((nth l i).2) : Nat) : Int)) rfl rfl) rfl (by decide) (cok1 trivial) ?_
        refine dv (gyes_none rfl) (q_as (v := .slice (some ⟨b19, 0, none⟩) ((addS m (nth l i)).length) ((addS m (nth l i)).length)) rfl) rfl (by decide) (cok1 trivial) ?_
        refine dv (gyes_none rfl) (q_as (v := .int .i64 ((addV m ((nth l i).1) ((nth l i).2) : Nat) : Int)) rfl) rfl (by decide) (cok1 trivial) ?_
        refine ⟨_, Wk.refl _ _, ?_⟩
        show awp _ _ _ _ _ _ _
        refine awp_seq ?_
        refine awp_seq ?_
        refine awp_regp hF hM [0, 1, 2, 3, 4, 5, 6, 7, 8, 9, 11, 10, 12] [0, 1, 2, 3, 4, 5, 6, 7, 8, 9, 11, 10, 12] (by kernel_rfl) (by kernel_rfl) (by kernel_rfl) ?_
        refine dv (gyes_none rfl) (q_mv (v := vl) rfl) rfl (by decide) (cok1 trivial) ?_
        refine dv (gyes_none rfl) (q_mv (v := .int .i64 ((i : Nat) : Int)) rfl) rfl (by decide) (cok1 trivial) ?_
        refine dv (gyes_none rfl) (q_index_sls (l := l) (i := i) Tryz.underlying22 Tryz.sizeOf31 (s24.sls hl1) filc_w rfl rfl (by omega)) rfl (by decide) (cok2 trivial trivial) ?_
        refine dv (gyes_none rfl) (q_field_sls (l := l) (i := i) Tryz.underlying31 rfl Tryz.sizeOf9 (s24.sls hl1) filc_w rfl (by omega)) rfl (by decide) (cok1 trivial) ?_
        refine dv (gyes_none rfl) (q_load_sls0 (l := l) (i := i) (u := .string ((nth l i).1)) Tryz.isAgg9 (s24.sls hl1) filc_w rfl (by omega) (by decide) rfl) rfl (by decide) (cok1 trivial) ?_
        refine dv (gyes_none rfl) (q_mv (v := vl) rfl) rfl (by decide) (cok1 trivial) ?_
        refine dv (gyes_none rfl) (q_mv (v := .int .i64 ((i : Nat) : Int)) rfl) rfl (by decide) (cok1 trivial) ?_
        refine dv (gyes_none rfl) (q_index_sls (l := l) (i := i) Tryz.underlying22 Tryz.sizeOf31 (s24.sls hl1) filc_w rfl rfl (by omega)) rfl (by decide) (cok2 trivial trivial) ?_
        refine dv (gyes_none rfl) (q_field_sls (l := l) (i := i) Tryz.underlying31 rfl Tryz.sizeOf9 (s24.sls hl1) filc_w rfl (by omega)) rfl (by decide) (cok1 trivial) ?_
        refine dv (gyes_none rfl) (q_load_sls (l := l) (i := i) (u := .string ((nth l i).2)) Tryz.isAgg9 (s24.sls hl1) filc_w rfl (by omega) (by decide) rfl) rfl (by decide) (cok1 trivial) ?_
        refine dv (gyes_none rfl) (q_mv (v := .int .i64 ((addV m ((nth l i).1) ((nth l i).2) : Nat) : Int)) rfl) rfl (by decide) (cok1 trivial) ?_
        refine x_call [10] hF (by kernel_rfl) (gyes_none rfl) Tryz.call6 rfl (args := [.pointer (some ⟨b1, 0, none⟩), .string ((nth l i).1), .string ((nth l i).2)]) rfl (add_ok b1 ys ps m (by omega) (s24.nej (i := 3) (j := 0) rfl rfl (by decide)) (s24.getj (j := 3) rfl) (s24.getj (j := 0) rfl) (hz.off2 s24 (j := 3) (k := 0) rfl rfl) ((nth l i).1) ((nth l i).2) (Nat.le_trans (hlw _ (nthS_mem (by omega))).1 (by decide)) (Nat.le_trans (hlw _ (nthS_mem (by omega))).2 (by decide))) (show _ < _ by decide) (call_ok rfl) rfl rfl (fun _ _ _ _ hd => by cases hd) ?_
        rintro _ H25 ⟨rfl, hk26, b27, ps28, h29, h30, h31, h32, hg33⟩
        have s34 := s24.turn2F (j9 := 3) (jl := 0) rfl rfl (by decide) hk26 h29 h30 h31 h32
        have hz35 := hz.grown (x := nth l i) hg33
        have hl36 : SlSZ filc 2 (fun b vs sz => Z1 b vs sz ∨ (Rd H25 b vs sz ∧ List.length H20 ≤ b ∧ b ≠ b27)) vl l := hl1.mono fun _ _ _ h => .inl h
        refine ⟨⟨pend_yes rfl (gyes_none rfl) (q_mv (v := .int .i64 ((addV m ((nth l i).1) ((nth l i).2) : Nat) : Int)) rfl) rfl (by decide) (cok1 trivial) rfl, trivial⟩, ?_⟩
        show dList _ _ _ _ _ _ _ _ _ _
        refine dv (gyes_none rfl) (OpQ.cast (v' := .bool false) (q_int rfl rfl rfl) (congrArg Value.bool (bne_self_eq_false _))) rfl (by decide) (cok2 trivial trivial) ?_
        refine ⟨_, Wk.refl _ _, ?_⟩
        show awp _ _ _ _ _ _ _
        refine awp_cond_f rfl ?_
        refine awp_skip_wk ?_
        refine ⟨_, Wk.refl _ _, ?_⟩
        show awp _ _ _ _ _ _ _
        refine awp_regs hF ?_
        refine dv (gyes_none rfl) (q_mv (v := .slice (some ⟨b19, 0, none⟩) ((addS m (nth l i)).length) ((addS m (nth l i)).length)) rfl) rfl (by decide) (cok1 trivial) ?_
        refine x_store1 [] hF s34 (by kernel_rfl) (gyes_none rfl) (j := 2) (v := .slice (some ⟨b19, 0, none⟩) ((addS m (nth l i)).length) ((addS m (nth l i)).length)) rfl Tryz.sizeOf36 rfl rfl rfl (lc_slice (s34.live (j := 1) rfl)) (Nat.le_of_ble_eq_true rfl) trivial trivial rfl rfl (F' := [(b27, .cells true (ps28.map ptv) 1), (b19, .cells true (fl filc (addS m (nth l i))) 2), (b5, .cells true [.slice (some ⟨b19, 0, none⟩) ((addS m (nth l i)).length) ((addS m (nth l i)).length)] 1), (b1, .cells true [.slice (some ⟨b27, 0, none⟩) ps28.length ps28.length] 1)]) rfl (fun H37 s38 => ⟨?_, ?_⟩)
        · exact trivial
        refine ⟨_, Wk.refl _ _, ?_⟩
        show awp _ _ _ _ _ _ _
        refine awp_regs hF ?_
        refine dv (gyes_none rfl) (q_mv (v := .int .i64 ((i : Nat) : Int)) rfl) rfl (by decide) (cok1 trivial) ?_
        refine dv (gyes_none rfl) (OpQ.cast (v' := .int .i64 ((i + 1 : Nat) : Int)) (q_int rfl rfl rfl) (congrArg _ ((i64_in (by omega)).trans (by first | rfl | omega | (push_cast; rfl))))) rfl (by decide) (cok2 trivial (cconst rfl)) ?_
        refine dv (gyes_none rfl) (q_as (v := .int .i64 ((i + 1 : Nat) : Int)) rfl) rfl (by decide) (cok1 trivial) ?_
        refine ⟨_, Wk.U [(0, vl), (1, va), (5, .pointer (some ⟨b1, 0, none⟩)), (6, .pointer (some ⟨b5, 0, none⟩)), (7, .int .i64 (((i + 1) : Nat) : Int))] ⟨rfl, rfl, rfl, rfl, rfl, trivial⟩, ((i + 1), (addS m (nth l i)), ps28), ⟨_, _, _, _, rfl, s38, ⟨addS_len hm.1, by dsimp only; omega, by dsimp only; omega⟩, hz35, fun _ _ _ h => .inl (hZ _ _ _ h)⟩, (by omega)⟩
      ·
        replace c2 := of_decide_eq_false c2
        refine dv (gyes_none rfl) (q_pt (v := .bool false) rfl rfl) rfl (by decide) (call_ok rfl) ?_
        refine ⟨_, Wk.refl _ _, ?_⟩
        show awp _ _ _ _ _ _ _
        refine awp_cond_f rfl ?_
        refine awp_exit_wk ?_
        refine ⟨_, Wk.refl _ _, ?_⟩
        show awp _ _ _ _ _ _ _
        refine awp_seq ?_
        refine awp_seq ?_
        refine awp_regs hF ?_
        refine dv (gyes_none rfl) (q_as (v := .int .i64 0) rfl) rfl (by decide) (cok1 (cconst rfl)) ?_
        refine ⟨_, Wk.refl _ _, ?_⟩
        show awp _ _ _ _ _ _ _
        refine awp_block ?_
        refine awp_wk (Wk.U [(1, va), (5, .pointer (some ⟨b1, 0, none⟩)), (6, .pointer (some ⟨b5, 0, none⟩)), (10, .int .i64 0)] ⟨rfl, rfl, rfl, rfl, trivial⟩) ?_
        refine awp_loop (fun (q : Nat) st => ∃ (H39 : AHeap), st = ⟨115, U [(1, va), (5, .pointer (some ⟨b1, 0, none⟩)), (6, .pointer (some ⟨b5, 0, none⟩)), (10, .int .i64 ((q : Nat) : Int))], [], H39⟩ ∧ St H0 (none0) (Z1) H39 [(ys, .cells true (ps.map ptv) 1), (yw, .cells true (fl filc m) 2), (b5, .cells true [.slice (some ⟨yw, 0, none⟩) m.length m.length] 1), (b1, .cells true [.slice (some ⟨ys, 0, none⟩) ps.length ps.length] 1)] ∧ (q ≤ o.length)) (fun (q : Nat) => o.length - q) (x0 := (0)) ?h0 ?round
        case h0 =>
          exact ⟨_, rfl, s18, Nat.zero_le _⟩
        case round =>
          rintro q _ ⟨H39, rfl, s40, hq⟩
          refine awp_seq ?_
          refine awp_seq ?_
          refine awp_regs hF ?_
          refine dv (gyes_none rfl) (q_mv (v := .int .i64 ((q : Nat) : Int)) rfl) rfl (by decide) (cok1 trivial) ?_
          refine dv (gyes_none rfl) (q_mv (v := va) rfl) rfl (by decide) (cok1 trivial) ?_
          refine dv (gyes_none rfl) (q_len_sl (l := o) Tryz.underlying27 (s40.sl ha1) rfl) rfl (by decide) (cok1 trivial) ?_
          refine dvb (gyes_none rfl) (q_int rfl rfl rfl) rfl (by decide) (cok2 trivial trivial) (fun c3 => ?_) (fun c3 => ?_)
          ·
            replace c3 := of_decide_eq_true c3
            refine dv (gyes_none rfl) (q_mv (v := .bool true) rfl) rfl (by decide) (cok1 trivial) ?_
            refine dv (gyes_some rfl rfl) (q_mv (v := .int .i64 ((q : Nat) : Int)) rfl) rfl (by decide) (cok1 trivial) ?_
            refine dvb (gyes_some rfl rfl) (q_int rfl rfl rfl) rfl (by decide) (cok2 trivial (cconst rfl)) (fun c4 => ?_) (fun c4 => ?_)
            ·
              replace c4 := of_decide_eq_true c4
              refine dv (gyes_none rfl) (q_pt (v := .bool true) rfl rfl) rfl (by decide) (call_ok rfl) ?_
              refine ⟨_, Wk.refl _ _, ?_⟩
              show awp _ _ _ _ _ _ _
              refine awp_cond_t rfl ?_
              refine awp_skip_wk ?_
              refine ⟨_, Wk.refl _ _, ?_⟩
              show awp _ _ _ _ _ _ _
              refine awp_seq ?_
              refine awp_block ?_
              refine awp_seq ?_
              refine awp_regs hF ?_
              refine dv (gyes_none rfl) (q_mv (v := va) rfl) rfl (by decide) (cok1 trivial) ?_
              refine dv (gyes_none rfl) (q_mv (v := .int .i64 ((q : Nat) : Int)) rfl) rfl (by decide) (cok1 trivial) ?_
              refine dv (gyes_none rfl) (q_index_sl (l := o) (i := q) Tryz.underlying27 Tryz.sizeOf9 (s40.sl ha1) rfl rfl (by omega)) rfl (by decide) (cok2 trivial trivial) ?_
              refine dv (gyes_none rfl) (q_load_sl (l := o) (i := q) Tryz.isAgg9 (s40.sl ha1) rfl (by omega)) rfl (by decide) (cok1 trivial) ?_
              refine dv (gyes_none rfl) (q_call0 Tryz.call10 rfl (bytes_ok b1 _ ps m (by omega) (s40.rd (j := 3) rfl) (s40.slj (j := 0) rfl rfl (Nat.le_refl _)) (hz.mono fun _ _ _ h => s40.zrd h) (nth o q))) rfl (by decide) (call_ok rfl) ?_
              refine dv (gyes_none rfl) (q_mv (v := .tuple #[.string (bsV m (nth o q)), .bool (decide (fI m (nth o q) < m.length))]) rfl) rfl (by decide) (cok1 trivial) ?_
              refine dv (gyes_none rfl) (q_extract (v := .string (bsV m (nth o q))) rfl rfl) rfl (by decide) (cok1 trivial) ?_
              refine dvb (gyes_none rfl) (q_extract (v := .bool (decide (fI m (nth o q) < m.length))) rfl rfl) rfl (by decide) (cok1 trivial) (fun c5 => ?_) (fun c5 => ?_)
              ·
                replace c5 := of_decide_eq_true c5
                refine dv (gyes_none rfl) (q_as (v := .string (bsV m (nth o q))) rfl) rfl (by decide) (cok1 trivial) ?_
                refine dv (gyes_none rfl) (q_as (v := .bool true) rfl) rfl (by decide) (cok1 trivial) ?_
                refine ⟨_, Wk.refl _ _, ?_⟩
                show awp _ _ _ _ _ _ _
                refine awp_seq ?_
                refine awp_regt hF hM (by kernel_rfl) (by kernel_rfl) ?_
                refine dv (gyes_none rfl) (q_load (v := .slice (some ⟨yw, 0, none⟩) m.length m.length) Tryz.isAgg36 rfl (s40.rd (j := 2) rfl) rfl) rfl (by decide) (cok1 trivial) ?_
                refine dv (gyes_none rfl) (q_mv (v := va) rfl) rfl (by decide) (cok1 trivial) ?_
                refine dv (gyes_none rfl) (q_mv (v := .int .i64 ((q : Nat) : Int)) rfl) rfl (by decide) (cok1 trivial) ?_
                refine dv (gyes_none rfl) (q_index_sl (l := o) (i := q) Tryz.underlying27 Tryz.sizeOf9 (s40.sl ha1) rfl rfl (by omega)) rfl (by decide) (cok2 trivial trivial) ?_
                refine dv (gyes_none rfl) (q_load_sl (l := o) (i := q) Tryz.isAgg9 (s40.sl ha1) rfl (by omega)) rfl (by decide) (cok1 trivial) ?_
                refine dv (gyes_none rfl) (q_call0 Tryz.call11 rfl (rfind_ok _ m (s40.slsj filc_w (j := 1) rfl rfl (Nat.le_refl _)) (by omega) (nth o q))) rfl (by decide) (call_ok rfl) ?_
                refine dv (gyes_none rfl) (q_as (v := .int .i64 (ixF m (nth o q))) rfl) rfl (by decide) (cok1 trivial) ?_
                refine ⟨_, Wk.refl _ _, ?_⟩
                show awp _ _ _ _ _ _ _
                refine awp_seq ?_
                refine awp_regs hF ?_
                refine dv (gyes_none rfl) (q_mv (v := .bool true) rfl) rfl (by decide) (cok1 trivial) ?_
                refine dv (gyes_none rfl) (q_mv (v := .int .i64 (ixF m (nth o q))) rfl) rfl (by decide) (cok1 trivial) ?_
                refine dv (gyes_none rfl) (q_int rfl rfl rfl) rfl (by decide) (cok2 trivial (cconst rfl)) ?_
                refine dv (gyes_none rfl) (OpQ.cast (v' := .bool false) (q_boolne Tryz.underlying4 rfl rfl) (congrArg Value.bool (by first | (rw [decide_eq_true (show (0 : Int) ≤ ixF m (nth o q) by have := ixF_of (l := m) (s := nth o q) (by omega); omega)]; rfl) | (rw [decide_eq_false (show ¬ (0 : Int) ≤ ixF m (nth o q) by have := ixF_no (l := m) (s := nth o q) (by omega); omega)]; rfl)))) rfl (by decide) (cok2 trivial trivial) ?_
                refine dv (gyes_none rfl) (q_mv (v := .bool false) rfl) rfl (by decide) (cok1 trivial) ?_
                refine dv (gyes_some rfl rfl) (q_mv (v := .bool true) rfl) rfl (by decide) (cok1 trivial) ?_
                refine dv (gyes_some rfl rfl) (q_mv (v := .bool true) rfl) rfl (by decide) (cok1 trivial) ?_
                refine dv (gyes_some rfl rfl) (q_mv (v := .string (bsV m (nth o q))) rfl) rfl (by decide) (cok1 trivial) ?_
                refine dv (gyes_some rfl rfl) (q_load (v := .slice (some ⟨yw, 0, none⟩) m.length m.length) Tryz.isAgg36 rfl (s40.rd (j := 2) rfl) rfl) rfl (by decide) (cok1 trivial) ?_
                refine dv (gyes_some rfl rfl) (OpQ.cast (v' := .int .i64 ((fI m (nth o q) : Nat) : Int)) (q_mv (v := .int .i64 (ixF m (nth o q))) rfl) (congrArg _ (ixF_of (by omega)))) rfl (by decide) (cok1 trivial) ?_
                refine dv (gyes_some rfl rfl) (OpQ.cast (v' := .pointer (some ⟨yw, (fI m (nth o q)) * 2, none⟩)) (q_index (u := 0) (i := (fI m (nth o q))) Tryz.underlying36 Tryz.sizeOf42 rfl rfl (by omega) (s40.rd (j := 1) rfl)) (by rw [Nat.zero_add])) rfl (by decide) (cok2 trivial trivial) ?_
                refine dv (gyes_some rfl rfl) (q_field Tryz.underlying42 rfl Tryz.sizeOf9 rfl (s40.rd (j := 1) rfl)) rfl (by decide) (cok1 trivial) ?_
                refine dv (gyes_some rfl rfl) (q_load (v := .string ((nth m (fI m (nth o q))).2)) Tryz.isAgg9 rfl (s40.rd (j := 1) rfl) ((fl_get filc_w (by omega) (by decide)).trans rfl)) rfl (by decide) (cok1 trivial) ?_
                refine dv (gyes_some rfl rfl) (OpQ.cast (v' := .bool false) (q_strne rfl rfl) (congrArg Value.bool (by unfold bsV; rw [if_pos (by omega)]; simp))) rfl (by decide) (cok2 trivial trivial) ?_
                refine dv (gyes_some rfl rfl) (q_pt (v := .bool false) rfl rfl) rfl (by decide) (call_ok rfl) ?_
                refine dv (gyes_none rfl) (q_pf (v := .bool false) rfl rfl) rfl (by decide) (call_ok rfl) ?_
                refine dv (gyes_none rfl) (q_mv (v := .bool false) rfl) rfl (by decide) (cok1 trivial) ?_
                refine dv (gyes_some rfl rfl) (q_mv (v := .bool true) rfl) rfl (by decide) (cok1 trivial) ?_
                refine dv (gyes_some rfl rfl) (q_not (b := true) rfl) rfl (by decide) (cok1 trivial) ?_
                refine dv (gyes_some rfl rfl) (q_mv (v := .bool false) rfl) rfl (by decide) (cok1 trivial) ?_
                refine dno rfl (.inl rfl) rfl (by decide) ?_
                refine dno rfl (.inl rfl) rfl (by decide) ?_
                refine dv (gyes_some rfl rfl) (q_pf (v := .bool false) rfl rfl) rfl (by decide) (call_ok rfl) ?_
                refine dv (gyes_none rfl) (q_pf (v := .bool false) rfl rfl) rfl (by decide) (call_ok rfl) ?_
                refine ⟨_, Wk.refl _ _, ?_⟩
                show awp _ _ _ _ _ _ _
                refine awp_cond_f rfl ?_
                refine awp_skip_wk ?_
                refine ⟨_, Wk.refl _ _, ?_⟩
                show awp _ _ _ _ _ _ _
                refine awp_regs hF ?_
                refine dv (gyes_none rfl) (q_mv (v := .int .i64 ((q : Nat) : Int)) rfl) rfl (by decide) (cok1 trivial) ?_
                refine dv (gyes_none rfl) (OpQ.cast (v' := .int .i64 ((q + 1 : Nat) : Int)) (q_int rfl rfl rfl) (congrArg _ ((i64_in (by omega)).trans (by first | rfl | omega | (push_cast; rfl))))) rfl (by decide) (cok2 trivial (cconst rfl)) ?_
                refine dv (gyes_none rfl) (q_as (v := .int .i64 ((q + 1 : Nat) : Int)) rfl) rfl (by decide) (cok1 trivial) ?_
                refine ⟨_, Wk.U [(1, va), (5, .pointer (some ⟨b1, 0, none⟩)), (6, .pointer (some ⟨b5, 0, none⟩)), (10, .int .i64 (((q + 1) : Nat) : Int))] ⟨rfl, rfl, rfl, rfl, trivial⟩, (q + 1), ⟨_, rfl, s40, (by omega)⟩, (by omega)⟩
              ·
                replace c5 := of_decide_eq_false c5
                refine dv (gyes_none rfl) (q_as (v := .string (bsV m (nth o q))) rfl) rfl (by decide) (cok1 trivial) ?_
                refine dv (gyes_none rfl) (q_as (v := .bool false) rfl) rfl (by decide) (cok1 trivial) ?_
                refine ⟨_, Wk.refl _ _, ?_⟩
                show awp _ _ _ _ _ _ _
                refine awp_seq ?_
                refine awp_regt hF hM (by kernel_rfl) (by kernel_rfl) ?_
                refine dv (gyes_none rfl) (q_load (v := .slice (some ⟨yw, 0, none⟩) m.length m.length) Tryz.isAgg36 rfl (s40.rd (j := 2) rfl) rfl) rfl (by decide) (cok1 trivial) ?_
                refine dv (gyes_none rfl) (q_mv (v := va) rfl) rfl (by decide) (cok1 trivial) ?_
                refine dv (gyes_none rfl) (q_mv (v := .int .i64 ((q : Nat) : Int)) rfl) rfl (by decide) (cok1 trivial) ?_
                refine dv (gyes_none rfl) (q_index_sl (l := o) (i := q) Tryz.underlying27 Tryz.sizeOf9 (s40.sl ha1) rfl rfl (by omega)) rfl (by decide) (cok2 trivial trivial) ?_
                refine dv (gyes_none rfl) (q_load_sl (l := o) (i := q) Tryz.isAgg9 (s40.sl ha1) rfl (by omega)) rfl (by decide) (cok1 trivial) ?_
                refine dv (gyes_none rfl) (q_call0 Tryz.call11 rfl (rfind_ok _ m (s40.slsj filc_w (j := 1) rfl rfl (Nat.le_refl _)) (by omega) (nth o q))) rfl (by decide) (call_ok rfl) ?_
                refine dv (gyes_none rfl) (q_as (v := .int .i64 (ixF m (nth o q))) rfl) rfl (by decide) (cok1 trivial) ?_
                refine ⟨_, Wk.refl _ _, ?_⟩
                show awp _ _ _ _ _ _ _
                refine awp_seq ?_
                refine awp_regs hF ?_
                refine dv (gyes_none rfl) (q_mv (v := .bool false) rfl) rfl (by decide) (cok1 trivial) ?_
                refine dv (gyes_none rfl) (q_mv (v := .int .i64 (ixF m (nth o q))) rfl) rfl (by decide) (cok1 trivial) ?_
                refine dv (gyes_none rfl) (q_int rfl rfl rfl) rfl (by decide) (cok2 trivial (cconst rfl)) ?_
                refine dv (gyes_none rfl) (OpQ.cast (v' := .bool false) (q_boolne Tryz.underlying4 rfl rfl) (congrArg Value.bool (by first | (rw [decide_eq_true (show (0 : Int) ≤ ixF m (nth o q) by have := ixF_of (l := m) (s := nth o q) (by omega); omega)]; rfl) | (rw [decide_eq_false (show ¬ (0 : Int) ≤ ixF m (nth o q) by have := ixF_no (l := m) (s := nth o q) (by omega); omega)]; rfl)))) rfl (by decide) (cok2 trivial trivial) ?_
                refine dv (gyes_none rfl) (q_mv (v := .bool false) rfl) rfl (by decide) (cok1 trivial) ?_
                refine dv (gyes_some rfl rfl) (q_mv (v := .bool false) rfl) rfl (by decide) (cok1 trivial) ?_
                refine dv (gyes_some rfl rfl) (q_mv (v := .bool false) rfl) rfl (by decide) (cok1 trivial) ?_
                refine dno rfl (.inl rfl) rfl (by decide) ?_
                refine dno rfl (.inl rfl) rfl (by decide) ?_
                refine dno rfl (.inl rfl) rfl (by decide) ?_
                refine dno rfl (.inl rfl) rfl (by decide) ?_
                refine dno rfl (.inl rfl) rfl (by decide) ?_
                refine dno rfl (.inl rfl) rfl (by decide) ?_
                refine dno rfl (.inl rfl) rfl (by decide) ?_
                refine dv (gyes_some rfl rfl) (q_pf (v := .bool false) rfl rfl) rfl (by decide) (call_ok rfl) ?_
                refine dv (gyes_none rfl) (q_pf (v := .bool false) rfl rfl) rfl (by decide) (call_ok rfl) ?_
                refine dv (gyes_none rfl) (q_mv (v := .bool false) rfl) rfl (by decide) (cok1 trivial) ?_
                refine dv (gyes_some rfl rfl) (q_mv (v := .bool false) rfl) rfl (by decide) (cok1 trivial) ?_
                refine dv (gyes_some rfl rfl) (q_not (b := false) rfl) rfl (by decide) (cok1 trivial) ?_
                refine dv (gyes_some rfl rfl) (q_mv (v := .bool true) rfl) rfl (by decide) (cok1 trivial) ?_
                refine dv (gyes_some rfl rfl) (q_mv (v := .string (bsV m (nth o q))) rfl) rfl (by decide) (cok1 trivial) ?_
                refine dv (gyes_some rfl rfl) (OpQ.cast (v' := .bool false) (q_strne rfl rfl) (congrArg Value.bool (by unfold bsV; rw [if_neg (by omega)]; simp))) rfl (by decide) (cok2 trivial (cconst rfl)) ?_
                refine dv (gyes_some rfl rfl) (q_pt (v := .bool false) rfl rfl) rfl (by decide) (call_ok rfl) ?_
                refine dv (gyes_none rfl) (q_pf (v := .bool false) rfl rfl) rfl (by decide) (call_ok rfl) ?_
                refine ⟨_, Wk.refl _ _, ?_⟩
                show awp _ _ _ _ _ _ _
                refine awp_cond_f rfl ?_
                refine awp_skip_wk ?_
                refine ⟨_, Wk.refl _ _, ?_⟩
                show awp _ _ _ _ _ _ _
                refine awp_regs hF ?_
                refine dv (gyes_none rfl) (q_mv (v := .int .i64 ((q : Nat) : Int)) rfl) rfl (by decide) (cok1 trivial) ?_
                refine dv (gyes_none rfl) (OpQ.cast (v' := .int .i64 ((q + 1 : Nat) : Int)) (q_int rfl rfl rfl) (congrArg _ ((i64_in (by omega)).trans (by first | rfl | omega | (push_cast; rfl))))) rfl (by decide) (cok2 trivial (cconst rfl)) ?_
                refine dv (gyes_none rfl) (q_as (v := .int .i64 ((q + 1 : Nat) : Int)) rfl) rfl (by decide) (cok1 trivial) ?_
                refine ⟨_, Wk.U [(1, va), (5, .pointer (some ⟨b1, 0, none⟩)), (6, .pointer (some ⟨b5, 0, none⟩)), (10, .int .i64 (((q + 1) : Nat) : Int))] ⟨rfl, rfl, rfl, rfl, trivial⟩, (q + 1), ⟨_, rfl, s40, (by omega)⟩, (by omega)⟩
            ·
              replace c4 := of_decide_eq_false c4
              refine dv (gyes_none rfl) (q_pt (v := .bool false) rfl rfl) rfl (by decide) (call_ok rfl) ?_
              refine ⟨_, Wk.refl _ _, ?_⟩
              show awp _ _ _ _ _ _ _
              refine awp_cond_f rfl ?_
              refine awp_exit_wk ?_
              refine ⟨_, Wk.refl _ _, ?_⟩
              show awp _ _ _ _ _ _ _
              refine awp_seq ?_
              refine awp_regs hF ?_
              refine x_new (fun b => .pointer (some ⟨b, 0, none⟩)) s40 (gyes_none rfl) (q_alloc (vs := [.int .i64 0]) 1 Tryz.zeroValue3 (by first | exact flat_scalar rfl | exact flat_agg rfl) rfl) rfl (by decide) (by simp [Op.operands, Call.operands]) (fun b41 H42 hb44 s43 => ?_)
              refine x_store1 [] hF s43 (by kernel_rfl) (gyes_none rfl) (j := 0) (v := .int .i64 0) rfl Tryz.sizeOf3 rfl rfl rfl (lc_scalar rfl) (Nat.le_of_ble_eq_true rfl) trivial (cconst rfl) rfl rfl (F' := [(b41, .cells true [.int .i64 0] 1), (ys, .cells true (ps.map ptv) 1), (yw, .cells true (fl filc m) 2), (b5, .cells true [.slice (some ⟨yw, 0, none⟩) m.length m.length] 1), (b1, .cells true [.slice (some ⟨ys, 0, none⟩) ps.length ps.length] 1)]) rfl (fun H45 s46 => ⟨?_, ?_⟩)
              · exact trivial
              refine ⟨_, Wk.refl _ _, ?_⟩
              show awp _ _ _ _ _ _ _
              refine awp_seq ?_
              refine awp_regs hF ?_
              refine x_new (fun b => .pointer (some ⟨b, 0, none⟩)) s46 (gyes_none rfl) (q_alloc (vs := [.bool false]) 1 Tryz.zeroValue4 (by first | exact flat_scalar rfl | exact flat_agg rfl) rfl) rfl (by decide) (by simp [Op.operands, Call.operands]) (fun b47 H48 hb50 s49 => ?_)
              refine x_store1 [] hF s49 (by kernel_rfl) (gyes_none rfl) (j := 0) (v := .bool true) rfl Tryz.sizeOf4 rfl rfl rfl (lc_scalar rfl) (Nat.le_of_ble_eq_true rfl) trivial (cconst rfl) rfl rfl (F' := [(b47, .cells true [.bool true] 1), (b41, .cells true [.int .i64 0] 1), (ys, .cells true (ps.map ptv) 1), (yw, .cells true (fl filc m) 2), (b5, .cells true [.slice (some ⟨yw, 0, none⟩) m.length m.length] 1), (b1, .cells true [.slice (some ⟨ys, 0, none⟩) ps.length ps.length] 1)]) rfl (fun H51 s52 => ⟨?_, ?_⟩)
              · exact trivial
              refine ⟨_, Wk.refl _ _, ?_⟩
              show awp _ _ _ _ _ _ _
              refine awp_seq ?_
              refine awp_regs hF ?_
              refine x_call [] hF (by kernel_rfl) (gyes_none rfl) Tryz.call7 rfl (args := [.pointer (some ⟨b1, 0, none⟩)]) rfl (all_ok b1 _ (s52.rd (j := 5) rfl)) (show _ < _ by decide) (call_ok rfl) rfl rfl (fun _ _ _ _ hd => by cases hd) ?_
              rintro _ H54 ⟨b53, rfl, hn55⟩
              have s56 := s52.callL hn55
              refine ⟨trivial, ?_⟩
              show dList _ _ _ _ _ _ _ _ _ _
              refine dv (gyes_none rfl) (q_makeFuncL [.pointer (some ⟨b47, 0, none⟩), .pointer (some ⟨b41, 0, none⟩), .pointer (some ⟨b5, 0, none⟩)] ⟨rfl, rfl, rfl, trivial⟩) rfl (by decide) (call_ok rfl) ?_
              refine x_call [] hF (by kernel_rfl) (gyes_none rfl) Tryz.call16 rfl (args := [.func (.func 12) #[] #[.pointer (some ⟨b47, 0, none⟩), .pointer (some ⟨b41, 0, none⟩), .pointer (some ⟨b5, 0, none⟩)], .pointer (some ⟨b53, 0, none⟩)]) rfl (prun_ok s56 b1 b53 _ _ ps m (by omega) b41 b47 b5 2 1 rfl rfl (by decide) (nin2 (s56.nej (i := 5) (j := 2) rfl rfl (by decide)) (s56.nej (i := 5) (j := 1) rfl rfl (by decide))) (nin2 (s56.nej (i := 0) (j := 2) rfl rfl (by decide)) (s56.nej (i := 0) (j := 1) rfl rfl (by decide))) (nin2 (s56.nej (i := 6) (j := 2) rfl rfl (by decide)) (s56.nej (i := 6) (j := 1) rfl rfl (by decide))) (s56.rd (j := 5) rfl) (s56.rd (j := 0) rfl) (s56.rd (j := 6) rfl) (slsz_full filc_w ⟨(s56.rd (j := 4) rfl), (nin2 (s56.nej (i := 4) (j := 2) rfl rfl (by decide)) (s56.nej (i := 4) (j := 1) rfl rfl (by decide)))⟩ rfl (Nat.le_refl _)) (s56.offj (j := 3) rfl (nin2 (s56.nej (i := 3) (j := 2) rfl rfl (by decide)) (s56.nej (i := 3) (j := 1) rfl rfl (by decide))) rfl (Nat.le_refl _)) (hz.off2 s56 (j := 2) (k := 1) rfl rfl)) (show _ < _ by decide) (call_ok rfl) rfl rfl (fun _ _ _ _ hd => by cases hd) ?_
              rintro _ H57 ⟨rfl, hk58, h59, h60⟩
              have s61 := s56.turn2 (j9 := 2) (jl := 1) rfl rfl (by decide) hk58 (.inr (by simp)) (s56.nej (i := 1) (j := 2) rfl rfl (by decide)) h59 h60
              refine ⟨trivial, ?_⟩
              show dList _ _ _ _ _ _ _ _ _ _
              refine ⟨_, Wk.refl _ _, ?_⟩
              show awp _ _ _ _ _ _ _
              refine awp_seq ?_
              refine awp_regs hF ?_
              refine dv (gyes_none rfl) (q_load (v := .bool true) Tryz.isAgg4 rfl (s61.rd (j := 1) rfl) rfl) rfl (by decide) (cok1 trivial) ?_
              refine dv (gyes_none rfl) (q_mv (v := .bool true) rfl) rfl (by decide) (cok1 trivial) ?_
              refine dv (gyes_some rfl rfl) (q_load (v := .int .i64 ((m.length : Nat) : Int)) Tryz.isAgg3 rfl (s61.rd (j := 2) rfl) rfl) rfl (by decide) (cok1 trivial) ?_
              refine dv (gyes_some rfl rfl) (q_load (v := .slice (some ⟨yw, 0, none⟩) m.length m.length) Tryz.isAgg36 rfl (s61.rd (j := 5) rfl) rfl) rfl (by decide) (cok1 trivial) ?_
              refine dv (gyes_some rfl rfl) (q_len_slice Tryz.underlying36 rfl (s61.rd (j := 4) rfl)) rfl (by decide) (cok1 trivial) ?_
              refine dv (gyes_some rfl rfl) (OpQ.cast (v' := .bool true) (q_int rfl rfl rfl) (congrArg Value.bool (beq_self_eq_true _))) rfl (by decide) (cok2 trivial trivial) ?_
              refine dv (gyes_none rfl) (q_pt (v := .bool true) rfl rfl) rfl (by decide) (call_ok rfl) ?_
              refine dv (gyes_none rfl) (q_as (v := .bool true) rfl) rfl (by decide) (cok1 trivial) ?_
              refine ⟨_, Wk.refl _ _, ?_⟩
              show awp _ _ _ _ _ _ _
              refine awp_ret_wk ?_
              refine ⟨_, Wk.refl _ _, ?_⟩
              repeat (with_reducible first | refine then_ret ?_ | refine blk_ret ?_ | refine then_exit ?_ | refine blk_exit ?_ | refine blk_exit' (by decide) ?_ | refine blk_normal ?_ | refine then_normal ?_ | refine retq_ret ?_ | refine retq_normal ?_ | refine ng_normal ?_ | refine ng_ret ?_ | refine ng_exit ?_)
              exact ret_none (v := .bool true) rfl s61.kp (.tmp rfl .nil) rfl rfl ⟨rfl, rfl⟩
          ·
            replace c3 := of_decide_eq_false c3
            refine dv (gyes_none rfl) (q_mv (v := .bool false) rfl) rfl (by decide) (cok1 trivial) ?_
            refine dno rfl (.inl rfl) rfl (by decide) ?_
            refine dno rfl (.inl rfl) rfl (by decide) ?_
            refine dv (gyes_none rfl) (q_pf (v := .bool false) rfl rfl) rfl (by decide) (call_ok rfl) ?_
            refine ⟨_, Wk.refl _ _, ?_⟩
            show awp _ _ _ _ _ _ _
            refine awp_cond_f rfl ?_
            refine awp_exit_wk ?_
            refine ⟨_, Wk.refl _ _, ?_⟩
            show awp _ _ _ _ _ _ _
            refine awp_seq ?_
            refine awp_regs hF ?_
            refine x_new (fun b => .pointer (some ⟨b, 0, none⟩)) s40 (gyes_none rfl) (q_alloc (vs := [.int .i64 0]) 1 Tryz.zeroValue3 (by first | exact flat_scalar rfl | exact flat_agg rfl) rfl) rfl (by decide) (by simp [Op.operands, Call.operands]) (fun b62 H63 hb65 s64 => ?_)
            refine x_store1 [] hF s64 (by kernel_rfl) (gyes_none rfl) (j := 0) (v := .int .i64 0) rfl Tryz.sizeOf3 rfl rfl rfl (lc_scalar rfl) (Nat.le_of_ble_eq_true rfl) trivial (cconst rfl) rfl rfl (F' := [(b62, .cells true [.int .i64 0] 1), (ys, .cells true (ps.map ptv) 1), (yw, .cells true (fl filc m) 2), (b5, .cells true [.slice (some ⟨yw, 0, none⟩) m.length m.length] 1), (b1, .cells true [.slice (some ⟨ys, 0, none⟩) ps.length ps.length] 1)]) rfl (fun H66 s67 => ⟨?_, ?_⟩)
            · exact trivial
            refine ⟨_, Wk.refl _ _, ?_⟩
            show awp _ _ _ _ _ _ _
            refine awp_seq ?_
            refine awp_regs hF ?_
            refine x_new (fun b => .pointer (some ⟨b, 0, none⟩)) s67 (gyes_none rfl) (q_alloc (vs := [.bool false]) 1 Tryz.zeroValue4 (by first | exact flat_scalar rfl | exact flat_agg rfl) rfl) rfl (by decide) (by simp [Op.operands, Call.operands]) (fun b68 H69 hb71 s70 => ?_)
            refine x_store1 [] hF s70 (by kernel_rfl) (gyes_none rfl) (j := 0) (v := .bool true) rfl Tryz.sizeOf4 rfl rfl rfl (lc_scalar rfl) (Nat.le_of_ble_eq_true rfl) trivial (cconst rfl) rfl rfl (F' := [(b68, .cells true [.bool true] 1), (b62, .cells true [.int .i64 0] 1), (ys, .cells true (ps.map ptv) 1), (yw, .cells true (fl filc m) 2), (b5, .cells true [.slice (some ⟨yw, 0, none⟩) m.length m.length] 1), (b1, .cells true [.slice (some ⟨ys, 0, none⟩) ps.length ps.length] 1)]) rfl (fun H72 s73 => ⟨?_, ?_⟩)
            · exact trivial
            refine ⟨_, Wk.refl _ _, ?_⟩
            show awp _ _ _ _ _ _ _
            refine awp_seq ?_
            refine awp_regs hF ?_
            refine x_call [] hF (by kernel_rfl) (gyes_none rfl) Tryz.call7 rfl (args := [.pointer (some ⟨b1, 0, none⟩)]) rfl (all_ok b1 _ (s73.rd (j := 5) rfl)) (show _ < _ by decide) (call_ok rfl) rfl rfl (fun _ _ _ _ hd => by cases hd) ?_
            rintro _ H75 ⟨b74, rfl, hn76⟩
            have s77 := s73.callL hn76
            refine ⟨trivial, ?_⟩
            show dList _ _ _ _ _ _ _ _ _ _
            refine dv (gyes_none rfl) (q_makeFuncL [.pointer (some ⟨b68, 0, none⟩), .pointer (some ⟨b62, 0, none⟩), .pointer (some ⟨b5, 0, none⟩)] ⟨rfl, rfl, rfl, trivial⟩) rfl (by decide) (call_ok rfl) ?_
            refine x_call [] hF (by kernel_rfl) (gyes_none rfl) Tryz.call16 rfl (args := [.func (.func 12) #[] #[.pointer (some ⟨b68, 0, none⟩), .pointer (some ⟨b62, 0, none⟩), .pointer (some ⟨b5, 0, none⟩)], .pointer (some ⟨b74, 0, none⟩)]) rfl (prun_ok s77 b1 b74 _ _ ps m (by omega) b62 b68 b5 2 1 rfl rfl (by decide) (nin2 (s77.nej (i := 5) (j := 2) rfl rfl (by decide)) (s77.nej (i := 5) (j := 1) rfl rfl (by decide))) (nin2 (s77.nej (i := 0) (j := 2) rfl rfl (by decide)) (s77.nej (i := 0) (j := 1) rfl rfl (by decide))) (nin2 (s77.nej (i := 6) (j := 2) rfl rfl (by decide)) (s77.nej (i := 6) (j := 1) rfl rfl (by decide))) (s77.rd (j := 5) rfl) (s77.rd (j := 0) rfl) (s77.rd (j := 6) rfl) (slsz_full filc_w ⟨(s77.rd (j := 4) rfl), (nin2 (s77.nej (i := 4) (j := 2) rfl rfl (by decide)) (s77.nej (i := 4) (j := 1) rfl rfl (by decide)))⟩ rfl (Nat.le_refl _)) (s77.offj (j := 3) rfl (nin2 (s77.nej (i := 3) (j := 2) rfl rfl (by decide)) (s77.nej (i := 3) (j := 1) rfl rfl (by decide))) rfl (Nat.le_refl _)) (hz.off2 s77 (j := 2) (k := 1) rfl rfl)) (show _ < _ by decide) (call_ok rfl) rfl rfl (fun _ _ _ _ hd => by cases hd) ?_
            rintro _ H78 ⟨rfl, hk79, h80, h81⟩
            have s82 := s77.turn2 (j9 := 2) (jl := 1) rfl rfl (by decide) hk79 (.inr (by simp)) (s77.nej (i := 1) (j := 2) rfl rfl (by decide)) h80 h81
            refine ⟨trivial, ?_⟩
            show dList _ _ _ _ _ _ _ _ _ _
            refine ⟨_, Wk.refl _ _, ?_⟩
            show awp _ _ _ _ _ _ _
            refine awp_seq ?_
            refine awp_regs hF ?_
            refine dv (gyes_none rfl) (q_load (v := .bool true) Tryz.isAgg4 rfl (s82.rd (j := 1) rfl) rfl) rfl (by decide) (cok1 trivial) ?_
            refine dv (gyes_none rfl) (q_mv (v := .bool true) rfl) rfl (by decide) (cok1 trivial) ?_
            refine dv (gyes_some rfl rfl) (q_load (v := .int .i64 ((m.length : Nat) : Int)) Tryz.isAgg3 rfl (s82.rd (j := 2) rfl) rfl) rfl (by decide) (cok1 trivial) ?_
            refine dv (gyes_some rfl rfl) (q_load (v := .slice (some ⟨yw, 0, none⟩) m.length m.length) Tryz.isAgg36 rfl (s82.rd (j := 5) rfl) rfl) rfl (by decide) (cok1 trivial) ?_
            refine dv (gyes_some rfl rfl) (q_len_slice Tryz.underlying36 rfl (s82.rd (j := 4) rfl)) rfl (by decide) (cok1 trivial) ?_
            refine dv (gyes_some rfl rfl) (OpQ.cast (v' := .bool true) (q_int rfl rfl rfl) (congrArg Value.bool (beq_self_eq_true _))) rfl (by decide) (cok2 trivial trivial) ?_
            refine dv (gyes_none rfl) (q_pt (v := .bool true) rfl rfl) rfl (by decide) (call_ok rfl) ?_
            refine dv (gyes_none rfl) (q_as (v := .bool true) rfl) rfl (by decide) (cok1 trivial) ?_
            refine ⟨_, Wk.refl _ _, ?_⟩
            show awp _ _ _ _ _ _ _
            refine awp_ret_wk ?_
            refine ⟨_, Wk.refl _ _, ?_⟩
            repeat (with_reducible first | refine then_ret ?_ | refine blk_ret ?_ | refine then_exit ?_ | refine blk_exit ?_ | refine blk_exit' (by decide) ?_ | refine blk_normal ?_ | refine then_normal ?_ | refine retq_ret ?_ | refine retq_normal ?_ | refine ng_normal ?_ | refine ng_ret ?_ | refine ng_exit ?_)
            exact ret_none (v := .bool true) rfl s82.kp (.tmp rfl .nil) rfl rfl ⟨rfl, rfl⟩
    ·
      replace c1 := of_decide_eq_false c1
      refine dv (gyes_none rfl) (q_mv (v := .bool false) rfl) rfl (by decide) (cok1 trivial) ?_
      refine dno rfl (.inl rfl) rfl (by decide) ?_
      refine dno rfl (.inl rfl) rfl (by decide) ?_
      refine dv (gyes_none rfl) (q_pf (v := .bool false) rfl rfl) rfl (by decide) (call_ok rfl) ?_
      refine ⟨_, Wk.refl _ _, ?_⟩
      show awp _ _ _ _ _ _ _
      refine awp_cond_f rfl ?_
      refine awp_exit_wk ?_
      refine ⟨_, Wk.refl _ _, ?_⟩
      show awp _ _ _ _ _ _ _
      refine awp_seq ?_
      refine awp_seq ?_
      refine awp_regs hF ?_
      refine dv (gyes_none rfl) (q_as (v := .int .i64 0) rfl) rfl (by decide) (cok1 (cconst rfl)) ?_
      refine ⟨_, Wk.refl _ _, ?_⟩
      show awp _ _ _ _ _ _ _
      refine awp_block ?_
      refine awp_wk (Wk.U [(1, va), (5, .pointer (some ⟨b1, 0, none⟩)), (6, .pointer (some ⟨b5, 0, none⟩)), (10, .int .i64 0)] ⟨rfl, rfl, rfl, rfl, trivial⟩) ?_
      refine awp_loop (fun (q : Nat) st => ∃ (H83 : AHeap), st = ⟨115, U [(1, va), (5, .pointer (some ⟨b1, 0, none⟩)), (6, .pointer (some ⟨b5, 0, none⟩)), (10, .int .i64 ((q : Nat) : Int))], [], H83⟩ ∧ St H0 (none0) (Z1) H83 [(ys, .cells true (ps.map ptv) 1), (yw, .cells true (fl filc m) 2), (b5, .cells true [.slice (some ⟨yw, 0, none⟩) m.length m.length] 1), (b1, .cells true [.slice (some ⟨ys, 0, none⟩) ps.length ps.length] 1)] ∧ (q ≤ o.length)) (fun (q : Nat) => o.length - q) (x0 := (0)) ?h0 ?round
      case h0 =>
        exact ⟨_, rfl, s18, Nat.zero_le _⟩
      case round =>
        rintro q _ ⟨H83, rfl, s84, hq⟩
        refine awp_seq ?_
        refine awp_seq ?_
        refine awp_regs hF ?_
        refine dv (gyes_none rfl) (q_mv (v := .int .i64 ((q : Nat) : Int)) rfl) rfl (by decide) (cok1 trivial) ?_
        refine dv (gyes_none rfl) (q_mv (v := va) rfl) rfl (by decide) (cok1 trivial) ?_
        refine dv (gyes_none rfl) (q_len_sl (l := o) Tryz.underlying27 (s84.sl ha1) rfl) rfl (by decide) (cok1 trivial) ?_
        refine dvb (gyes_none rfl) (q_int rfl rfl rfl) rfl (by decide) (cok2 trivial trivial) (fun c6 => ?_) (fun c6 => ?_)
        ·
          replace c6 := of_decide_eq_true c6
          refine dv (gyes_none rfl) (q_mv (v := .bool true) rfl) rfl (by decide) (cok1 trivial) ?_
          refine dv (gyes_some rfl rfl) (q_mv (v := .int .i64 ((q : Nat) : Int)) rfl) rfl (by decide) (cok1 trivial) ?_
          refine dvb (gyes_some rfl rfl) (q_int rfl rfl rfl) rfl (by decide) (cok2 trivial (cconst rfl)) (fun c7 => ?_) (fun c7 => ?_)
          ·
            replace c7 := of_decide_eq_true c7
            refine dv (gyes_none rfl) (q_pt (v := .bool true) rfl rfl) rfl (by decide) (call_ok rfl) ?_
            refine ⟨_, Wk.refl _ _, ?_⟩
            show awp _ _ _ _ _ _ _
            refine awp_cond_t rfl ?_
            refine awp_skip_wk ?_
            refine ⟨_, Wk.refl _ _, ?_⟩
            show awp _ _ _ _ _ _ _
            refine awp_seq ?_
            refine awp_block ?_
            refine awp_seq ?_
            refine awp_regs hF ?_
            refine dv (gyes_none rfl) (q_mv (v := va) rfl) rfl (by decide) (cok1 trivial) ?_
            refine dv (gyes_none rfl) (q_mv (v := .int .i64 ((q : Nat) : Int)) rfl) rfl (by decide) (cok1 trivial) ?_
            refine dv (gyes_none rfl) (q_index_sl (l := o) (i := q) Tryz.underlying27 Tryz.sizeOf9 (s84.sl ha1) rfl rfl (by omega)) rfl (by decide) (cok2 trivial trivial) ?_
            refine dv (gyes_none rfl) (q_load_sl (l := o) (i := q) Tryz.isAgg9 (s84.sl ha1) rfl (by omega)) rfl (by decide) (cok1 trivial) ?_
            refine dv (gyes_none rfl) (q_call0 Tryz.call10 rfl (bytes_ok b1 _ ps m (by omega) (s84.rd (j := 3) rfl) (s84.slj (j := 0) rfl rfl (Nat.le_refl _)) (hz.mono fun _ _ _ h => s84.zrd h) (nth o q))) rfl (by decide) (call_ok rfl) ?_
            refine dv (gyes_none rfl) (q_mv (v := .tuple #[.string (bsV m (nth o q)), .bool (decide (fI m (nth o q) < m.length))]) rfl) rfl (by decide) (cok1 trivial) ?_
            refine dv (gyes_none rfl) (q_extract (v := .string (bsV m (nth o q))) rfl rfl) rfl (by decide) (cok1 trivial) ?_
            refine dvb (gyes_none rfl) (q_extract (v := .bool (decide (fI m (nth o q) < m.length))) rfl rfl) rfl (by decide) (cok1 trivial) (fun c8 => ?_) (fun c8 => ?_)
            ·
              replace c8 := of_decide_eq_true c8
              refine dv (gyes_none rfl) (q_as (v := .string (bsV m (nth o q))) rfl) rfl (by decide) (cok1 trivial) ?_
              refine dv (gyes_none rfl) (q_as (v := .bool true) rfl) rfl (by decide) (cok1 trivial) ?_
              refine ⟨_, Wk.refl _ _, ?_⟩
              show awp _ _ _ _ _ _ _
              refine awp_seq ?_
              refine awp_regt hF hM (by kernel_rfl) (by kernel_rfl) ?_
              refine dv (gyes_none rfl) (q_load (v := .slice (some ⟨yw, 0, none⟩) m.length m.length) Tryz.isAgg36 rfl (s84.rd (j := 2) rfl) rfl) rfl (by decide) (cok1 trivial) ?_
              refine dv (gyes_none rfl) (q_mv (v := va) rfl) rfl (by decide) (cok1 trivial) ?_
              refine dv (gyes_none rfl) (q_mv (v := .int .i64 ((q : Nat) : Int)) rfl) rfl (by decide) (cok1 trivial) ?_
              refine dv (gyes_none rfl) (q_index_sl (l := o) (i := q) Tryz.underlying27 Tryz.sizeOf9 (s84.sl ha1) rfl rfl (by omega)) rfl (by decide) (cok2 trivial trivial) ?_
              refine dv (gyes_none rfl) (q_load_sl (l := o) (i := q) Tryz.isAgg9 (s84.sl ha1) rfl (by omega)) rfl (by decide) (cok1 trivial) ?_
              refine dv (gyes_none rfl) (q_call0 Tryz.call11 rfl (rfind_ok _ m (s84.slsj filc_w (j := 1) rfl rfl (Nat.le_refl _)) (by omega) (nth o q))) rfl (by decide) (call_ok rfl) ?_
              refine dv (gyes_none rfl) (q_as (v := .int .i64 (ixF m (nth o q))) rfl) rfl (by decide) (cok1 trivial) ?_
              refine ⟨_, Wk.refl _ _, ?_⟩
              show awp _ _ _ _ _ _ _
              refine awp_seq ?_
              refine awp_regs hF ?_
              refine dv (gyes_none rfl) (q_mv (v := .bool true) rfl) rfl (by decide) (cok1 trivial) ?_
              refine dv (gyes_none rfl) (q_mv (v := .int .i64 (ixF m (nth o q))) rfl) rfl (by decide) (cok1 trivial) ?_
              refine dv (gyes_none rfl) (q_int rfl rfl rfl) rfl (by decide) (cok2 trivial (cconst rfl)) ?_
              refine dv (gyes_none rfl) (OpQ.cast (v' := .bool false) (q_boolne Tryz.underlying4 rfl rfl) (congrArg Value.bool (by first | (rw [decide_eq_true (show (0 : Int) ≤ ixF m (nth o q) by have := ixF_of (l := m) (s := nth o q) (by omega); omega)]; rfl) | (rw [decide_eq_false (show ¬ (0 : Int) ≤ ixF m (nth o q) by have := ixF_no (l := m) (s := nth o q) (by omega); omega)]; rfl)))) rfl (by decide) (cok2 trivial trivial) ?_
              refine dv (gyes_none rfl) (q_mv (v := .bool false) rfl) rfl (by decide) (cok1 trivial) ?_
              refine dv (gyes_some rfl rfl) (q_mv (v := .bool true) rfl) rfl (by decide) (cok1 trivial) ?_
              refine dv (gyes_some rfl rfl) (q_mv (v := .bool true) rfl) rfl (by decide) (cok1 trivial) ?_
              refine dv (gyes_some rfl rfl) (q_mv (v := .string (bsV m (nth o q))) rfl) rfl (by decide) (cok1 trivial) ?_
              refine dv (gyes_some rfl rfl) (q_load (v := .slice (some ⟨yw, 0, none⟩) m.length m.length) Tryz.isAgg36 rfl (s84.rd (j := 2) rfl) rfl) rfl (by decide) (cok1 trivial) ?_
              refine dv (gyes_some rfl rfl) (OpQ.cast (v' := .int .i64 ((fI m (nth o q) : Nat) : Int)) (q_mv (v := .int .i64 (ixF m (nth o q))) rfl) (congrArg _ (ixF_of (by omega)))) rfl (by decide) (cok1 trivial) ?_
              refine dv (gyes_some rfl rfl) (OpQ.cast (v' := .pointer (some ⟨yw, (fI m (nth o q)) * 2, none⟩)) (q_index (u := 0) (i := (fI m (nth o q))) Tryz.underlying36 Tryz.sizeOf42 rfl rfl (by omega) (s84.rd (j := 1) rfl)) (by rw [Nat.zero_add])) rfl (by decide) (cok2 trivial trivial) ?_
              refine dv (gyes_some rfl rfl) (q_field Tryz.underlying42 rfl Tryz.sizeOf9 rfl (s84.rd (j := 1) rfl)) rfl (by decide) (cok1 trivial) ?_
              refine dv (gyes_some rfl rfl) (q_load (v := .string ((nth m (fI m (nth o q))).2)) Tryz.isAgg9 rfl (s84.rd (j := 1) rfl) ((fl_get filc_w (by omega) (by decide)).trans rfl)) rfl (by decide) (cok1 trivial) ?_
              refine dv (gyes_some rfl rfl) (OpQ.cast (v' := .bool false) (q_strne rfl rfl) (congrArg Value.bool (by unfold bsV; rw [if_pos (by omega)]; simp))) rfl (by decide) (cok2 trivial trivial) ?_
              refine dv (gyes_some rfl rfl) (q_pt (v := .bool false) rfl rfl) rfl (by decide) (call_ok rfl) ?_
              refine dv (gyes_none rfl) (q_pf (v := .bool false) rfl rfl) rfl (by decide) (call_ok rfl) ?_
              refine dv (gyes_none rfl) (q_mv (v := .bool false) rfl) rfl (by decide) (cok1 trivial) ?_
              refine dv (gyes_some rfl rfl) (q_mv (v := .bool true) rfl) rfl (by decide) (cok1 trivial) ?_
              refine dv (gyes_some rfl rfl) (q_not (b := true) rfl) rfl (by decide) (cok1 trivial) ?_
              refine dv (gyes_some rfl rfl) (q_mv (v := .bool false) rfl) rfl (by decide) (cok1 trivial) ?_
              refine dno rfl (.inl rfl) rfl (by decide) ?_
              refine dno rfl (.inl rfl) rfl (by decide) ?_
              refine dv (gyes_some rfl rfl) (q_pf (v := .bool false) rfl rfl) rfl (by decide) (call_ok rfl) ?_
              refine dv (gyes_none rfl) (q_pf (v := .bool false) rfl rfl) rfl (by decide) (call_ok rfl) ?_
              refine ⟨_, Wk.refl _ _, ?_⟩
              show awp _ _ _ _ _ _ _
              refine awp_cond_f rfl ?_
              refine awp_skip_wk ?_
              refine ⟨_, Wk.refl _ _, ?_⟩
              show awp _ _ _ _ _ _ _
              refine awp_regs hF ?_
              refine dv (gyes_none rfl) (q_mv (v := .int .i64 ((q : Nat) : Int)) rfl) rfl (by decide) (cok1 trivial) ?_
              refine dv (gyes_none rfl) (OpQ.cast (v' := .int .i64 ((q + 1 : Nat) : Int)) (q_int rfl rfl rfl) (congrArg _ ((i64_in (by omega)).trans (by first | rfl | omega | (push_cast; rfl))))) rfl (by decide) (cok2 trivial (cconst rfl)) ?_
              refine dv (gyes_none rfl) (q_as (v := .int .i64 ((q + 1 : Nat) : Int)) rfl) rfl (by decide) (cok1 trivial) ?_
              refine ⟨_, Wk.U [(1, va), (5, .pointer (some ⟨b1, 0, none⟩)), (6, .pointer (some ⟨b5, 0, none⟩)), (10, .int .i64 (((q + 1) : Nat) : Int))] ⟨rfl, rfl, rfl, rfl, trivial⟩, (q + 1), ⟨_, rfl, s84, (by omega)⟩, (by omega)⟩
            ·
              replace c8 := of_decide_eq_false c8
              refine dv (gyes_none rfl) (q_as (v := .string (bsV m (nth o q))) rfl) rfl (by decide) (cok1 trivial) ?_
              refine dv (gyes_none rfl) (q_as (v := .bool false) rfl) rfl (by decide) (cok1 trivial) ?_
              refine ⟨_, Wk.refl _ _, ?_⟩
              show awp _ _ _ _ _ _ _
              refine awp_seq ?_
              refine awp_regt hF hM (by kernel_rfl) (by kernel_rfl) ?_
              refine dv (gyes_none rfl) (q_load (v := .slice (some ⟨yw, 0, none⟩) m.length m.length) Tryz.isAgg36 rfl (s84.rd (j := 2) rfl) rfl) rfl (by decide) (cok1 trivial) ?_
              refine dv (gyes_none rfl) (q_mv (v := va) rfl) rfl (by decide) (cok1 trivial) ?_
              refine dv (gyes_none rfl) (q_mv (v := .int .i64 ((q : Nat) : Int)) rfl) rfl (by decide) (cok1 trivial) ?_
              refine dv (gyes_none rfl) (q_index_sl (l := o) (i := q) Tryz.underlying27 Tryz.sizeOf9 (s84.sl ha1) rfl rfl (by omega)) rfl (by decide) (cok2 trivial trivial) ?_
              refine dv (gyes_none rfl) (q_load_sl (l := o) (i := q) Tryz.isAgg9 (s84.sl ha1) rfl (by omega)) rfl (by decide) (cok1 trivial) ?_
              refine dv (gyes_none rfl) (q_call0 Tryz.call11 rfl (rfind_ok _ m (s84.slsj filc_w (j := 1) rfl rfl (Nat.le_refl _)) (by omega) (nth o q))) rfl (by decide) (call_ok rfl) ?_
              refine dv (gyes_none rfl) (q_as (v := .int .i64 (ixF m (nth o q))) rfl) rfl (by decide) (cok1 trivial) ?_
              refine ⟨_, Wk.refl _ _, ?_⟩
              show awp _ _ _ _ _ _ _
              refine awp_seq ?_
              refine awp_regs hF ?_
              refine dv (gyes_none rfl) (q_mv (v := .bool false) rfl) rfl (by decide) (cok1 trivial) ?_
              refine dv (gyes_none rfl) (q_mv (v := .int .i64 (ixF m (nth o q))) rfl) rfl (by decide) (cok1 trivial) ?_
              refine dv (gyes_none rfl) (q_int rfl rfl rfl) rfl (by decide) (cok2 trivial (cconst rfl)) ?_
              refine dv (gyes_none rfl) (OpQ.cast (v' := .bool false) (q_boolne Tryz.underlying4 rfl rfl) (congrArg Value.bool (by first | (rw [decide_eq_true (show (0 : Int) ≤ ixF m (nth o q) by have := ixF_of (l := m) (s := nth o q) (by omega); omega)]; rfl) | (rw [decide_eq_false (show ¬ (0 : Int) ≤ ixF m (nth o q) by have := ixF_no (l := m) (s := nth o q) (by omega); omega)]; rfl)))) rfl (by decide) (cok2 trivial trivial) ?_
              refine dv (gyes_none rfl) (q_mv (v := .bool false) rfl) rfl (by decide) (cok1 trivial) ?_
              refine dv (gyes_some rfl rfl) (q_mv (v := .bool false) rfl) rfl (by decide) (cok1 trivial) ?_
              refine dv (gyes_some rfl rfl) (q_mv (v := .bool false) rfl) rfl (by decide) (cok1 trivial) ?_
              refine dno rfl (.inl rfl) rfl (by decide) ?_
              refine dno rfl (.inl rfl) rfl (by decide) ?_
              refine dno rfl (.inl rfl) rfl (by decide) ?_
              refine dno rfl (.inl rfl) rfl (by decide) ?_
              refine dno rfl (.inl rfl) rfl (by decide) ?_
              refine dno rfl (.inl rfl) rfl (by decide) ?_
              refine dno rfl (.inl rfl) rfl (by decide) ?_
              refine dv (gyes_some rfl rfl) (q_pf (v := .bool false) rfl rfl) rfl (by decide) (call_ok rfl) ?_
              refine dv (gyes_none rfl) (q_pf (v := .bool false) rfl rfl) rfl (by decide) (call_ok rfl) ?_
              refine dv (gyes_none rfl) (q_mv (v := .bool false) rfl) rfl (by decide) (cok1 trivial) ?_
              refine dv (gyes_some rfl rfl) (q_mv (v := .bool false) rfl) rfl (by decide) (cok1 trivial) ?_
              refine dv (gyes_some rfl rfl) (q_not (b := false) rfl) rfl (by decide) (cok1 trivial) ?_
              refine dv (gyes_some rfl rfl) (q_mv (v := .bool true) rfl) rfl (by decide) (cok1 trivial) ?_
              refine dv (gyes_some rfl rfl) (q_mv (v := .string (bsV m (nth o q))) rfl) rfl (by decide) (cok1 trivial) ?_
              refine dv (gyes_some rfl rfl) (OpQ.cast (v' := .bool false) (q_strne rfl rfl) (congrArg Value.bool (by unfold bsV; rw [if_neg (by omega)]; simp))) rfl (by decide) (cok2 trivial (cconst rfl)) ?_
              refine dv (gyes_some rfl rfl) (q_pt (v := .bool false) rfl rfl) rfl (by decide) (call_ok rfl) ?_
              refine dv (gyes_none rfl) (q_pf (v := .bool false) rfl rfl) rfl (by decide) (call_ok rfl) ?_
              refine ⟨_, Wk.refl _ _, ?_⟩
              show awp _ _ _ _ _ _ _
              refine awp_cond_f rfl ?_
              refine awp_skip_wk ?_
              refine ⟨_, Wk.refl _ _, ?_⟩
              show awp _ _ _ _ _ _ _
              refine awp_regs hF ?_
              refine dv (gyes_none rfl) (q_mv (v := .int .i64 ((q : Nat) : Int)) rfl) rfl (by decide) (cok1 trivial) ?_
              refine dv (gyes_none rfl) (OpQ.cast (v' := .int .i64 ((q + 1 : Nat) : Int)) (q_int rfl rfl rfl) (congrArg _ ((i64_in (by omega)).trans (by first | rfl | omega | (push_cast; rfl))))) rfl (by decide) (cok2 trivial (cconst rfl)) ?_
              refine dv (gyes_none rfl) (q_as (v := .int .i64 ((q + 1 : Nat) : Int)) rfl) rfl (by decide) (cok1 trivial) ?_
              refine ⟨_, Wk.U [(1, va), (5, .pointer (some ⟨b1, 0, none⟩)), (6, .pointer (some ⟨b5, 0, none⟩)), (10, .int .i64 (((q + 1) : Nat) : Int))] ⟨rfl, rfl, rfl, rfl, trivial⟩, (q + 1), ⟨_, rfl, s84, (by omega)⟩, (by omega)⟩
          ·
            replace c7 := of_decide_eq_false c7
            refine dv (gyes_none rfl) (q_pt (v := .bool false) rfl rfl) rfl (by decide) (call_ok rfl) ?_
            refine ⟨_, Wk.refl _ _, ?_⟩
            show awp _ _ _ _ _ _ _
            refine awp_cond_f rfl ?_
            refine awp_exit_wk ?_
            refine ⟨_, Wk.refl _ _, ?_⟩
            show awp _ _ _ _ _ _ _
            refine awp_seq ?_
            refine awp_regs hF ?_
            refine x_new (fun b => .pointer (some ⟨b, 0, none⟩)) s84 (gyes_none rfl) (q_alloc (vs := [.int .i64 0]) 1 Tryz.zeroValue3 (by first | exact flat_scalar rfl | exact flat_agg rfl) rfl) rfl (by decide) (by simp [Op.operands, Call.operands]) (fun b85 H86 hb88 s87 => ?_)
            refine x_store1 [] hF s87 (by kernel_rfl) (gyes_none rfl) (j := 0) (v := .int .i64 0) rfl Tryz.sizeOf3 rfl rfl rfl (lc_scalar rfl) (Nat.le_of_ble_eq_true rfl) trivial (cconst rfl) rfl rfl (F' := [(b85, .cells true [.int .i64 0] 1), (ys, .cells true (ps.map ptv) 1), (yw, .cells true (fl filc m) 2), (b5, .cells true [.slice (some ⟨yw, 0, none⟩) m.length m.length] 1), (b1, .cells true [.slice (some ⟨ys, 0, none⟩) ps.length ps.length] 1)]) rfl (fun H89 s90 => ⟨?_, ?_⟩)
            · exact trivial
            refine ⟨_, Wk.refl _ _, ?_⟩
            show awp _ _ _ _ _ _ _
            refine awp_seq ?_
            refine awp_regs hF ?_
            refine x_new (fun b => .pointer (some ⟨b, 0, none⟩)) s90 (gyes_none rfl) (q_alloc (vs := [.bool false]) 1 Tryz.zeroValue4 (by first | exact flat_scalar rfl | exact flat_agg rfl) rfl) rfl (by decide) (by simp [Op.operands, Call.operands]) (fun b91 H92 hb94 s93 => ?_)
            refine x_store1 [] hF s93 (by kernel_rfl) (gyes_none rfl) (j := 0) (v := .bool true) rfl Tryz.sizeOf4 rfl rfl rfl (lc_scalar rfl) (Nat.le_of_ble_eq_true rfl) trivial (cconst rfl) rfl rfl (F' := [(b91, .cells true [.bool true] 1), (b85, .cells true [.int .i64 0] 1), (ys, .cells true (ps.map ptv) 1), (yw, .cells true (fl filc m) 2), (b5, .cells true [.slice (some ⟨yw, 0, none⟩) m.length m.length] 1), (b1, .cells true [.slice (some ⟨ys, 0, none⟩) ps.length ps.length] 1)]) rfl (fun H95 s96 => ⟨?_, ?_⟩)
            · exact trivial
            refine ⟨_, Wk.refl _ _, ?_⟩
            show awp _ _ _ _ _ _ _
            refine awp_seq ?_
            refine awp_regs hF ?_
            refine x_call [] hF (by kernel_rfl) (gyes_none rfl) Tryz.call7 rfl (args := [.pointer (some ⟨b1, 0, none⟩)]) rfl (all_ok b1 _ (s96.rd (j := 5) rfl)) (show _ < _ by decide) (call_ok rfl) rfl rfl (fun _ _ _ _ hd => by cases hd) ?_
            rintro _ H98 ⟨b97, rfl, hn99⟩
            have s100 := s96.callL hn99
            refine ⟨trivial, ?_⟩
            show dList _ _ _ _ _ _ _ _ _ _
            refine dv (gyes_none rfl) (q_makeFuncL [.pointer (some ⟨b91, 0, none⟩), .pointer (some ⟨b85, 0, none⟩), .pointer (some ⟨b5, 0, none⟩)] ⟨rfl, rfl, rfl, trivial⟩) rfl (by decide) (call_ok rfl) ?_
            refine x_call [] hF (by kernel_rfl) (gyes_none rfl) Tryz.call16 rfl (args := [.func (.func 12) #[] #[.pointer (some ⟨b91, 0, none⟩), .pointer (some ⟨b85, 0, none⟩), .pointer (some ⟨b5, 0, none⟩)], .pointer (some ⟨b97, 0, none⟩)]) rfl (prun_ok s100 b1 b97 _ _ ps m (by omega) b85 b91 b5 2 1 rfl rfl (by decide) (nin2 (s100.nej (i := 5) (j := 2) rfl rfl (by decide)) (s100.nej (i := 5) (j := 1) rfl rfl (by decide))) (nin2 (s100.nej (i := 0) (j := 2) rfl rfl (by decide)) (s100.nej (i := 0) (j := 1) rfl rfl (by decide))) (nin2 (s100.nej (i := 6) (j := 2) rfl rfl (by decide)) (s100.nej (i := 6) (j := 1) rfl rfl (by decide))) (s100.rd (j := 5) rfl) (s100.rd (j := 0) rfl) (s100.rd (j := 6) rfl) (slsz_full filc_w ⟨(s100.rd (j := 4) rfl), (nin2 (s100.nej (i := 4) (j := 2) rfl rfl (by decide)) (s100.nej (i := 4) (j := 1) rfl rfl (by decide)))⟩ rfl (Nat.le_refl _)) (s100.offj (j := 3) rfl (nin2 (s100.nej (i := 3) (j := 2) rfl rfl (by decide)) (s100.nej (i := 3) (j := 1) rfl rfl (by decide))) rfl (Nat.le_refl _)) (hz.off2 s100 (j := 2) (k := 1) rfl rfl)) (show _ < _ by decide) (call_ok rfl) rfl rfl (fun _ _ _ _ hd => by cases hd) ?_
            rintro _ H101 ⟨rfl, hk102, h103, h104⟩
            have s105 := s100.turn2 (j9 := 2) (jl := 1) rfl rfl (by decide) hk102 (.inr (by simp)) (s100.nej (i := 1) (j := 2) rfl rfl (by decide)) h103 h104
            refine ⟨trivial, ?_⟩
            show dList _ _ _ _ _ _ _ _ _ _
            refine ⟨_, Wk.refl _ _, ?_⟩
            show awp _ _ _ _ _ _ _
            refine awp_seq ?_
            refine awp_regs hF ?_
            refine dv (gyes_none rfl) (q_load (v := .bool true) Tryz.isAgg4 rfl (s105.rd (j := 1) rfl) rfl) rfl (by decide) (cok1 trivial) ?_
            refine dv (gyes_none rfl) (q_mv (v := .bool true) rfl) rfl (by decide) (cok1 trivial) ?_
            refine dv (gyes_some rfl rfl) (q_load (v := .int .i64 ((m.length : Nat) : Int)) Tryz.isAgg3 rfl (s105.rd (j := 2) rfl) rfl) rfl (by decide) (cok1 trivial) ?_
            refine dv (gyes_some rfl rfl) (q_load (v := .slice (some ⟨yw, 0, none⟩) m.length m.length) Tryz.isAgg36 rfl (s105.rd (j := 5) rfl) rfl) rfl (by decide) (cok1 trivial) ?_
            refine dv (gyes_some rfl rfl) (q_len_slice Tryz.underlying36 rfl (s105.rd (j := 4) rfl)) rfl (by decide) (cok1 trivial) ?_
            refine dv (gyes_some rfl rfl) (OpQ.cast (v' := .bool true) (q_int rfl rfl rfl) (congrArg Value.bool (beq_self_eq_true _))) rfl (by decide) (cok2 trivial trivial) ?_
            refine dv (gyes_none rfl) (q_pt (v := .bool true) rfl rfl) rfl (by decide) (call_ok rfl) ?_
            refine dv (gyes_none rfl) (q_as (v := .bool true) rfl) rfl (by decide) (cok1 trivial) ?_
            refine ⟨_, Wk.refl _ _, ?_⟩
            show awp _ _ _ _ _ _ _
            refine awp_ret_wk ?_
            refine ⟨_, Wk.refl _ _, ?_⟩
            repeat (with_reducible first | refine then_ret ?_ | refine blk_ret ?_ | refine then_exit ?_ | refine blk_exit ?_ | refine blk_exit' (by decide) ?_ | refine blk_normal ?_ | refine then_normal ?_ | refine retq_ret ?_ | refine retq_normal ?_ | refine ng_normal ?_ | refine ng_ret ?_ | refine ng_exit ?_)
            exact ret_none (v := .bool true) rfl s105.kp (.tmp rfl .nil) rfl rfl ⟨rfl, rfl⟩
        ·
          replace c6 := of_decide_eq_false c6
          refine dv (gyes_none rfl) (q_mv (v := .bool false) rfl) rfl (by decide) (cok1 trivial) ?_
          refine dno rfl (.inl rfl) rfl (by decide) ?_
          refine dno rfl (.inl rfl) rfl (by decide) ?_
          refine dv (gyes_none rfl) (q_pf (v := .bool false) rfl rfl) rfl (by decide) (call_ok rfl) ?_
          refine ⟨_, Wk.refl _ _, ?_⟩
          show awp _ _ _ _ _ _ _
          refine awp_cond_f rfl ?_
          refine awp_exit_wk ?_
          refine ⟨_, Wk.refl _ _, ?_⟩
          show awp _ _ _ _ _ _ _
          refine awp_seq ?_
          refine awp_regs hF ?_
          refine x_new (fun b => .pointer (some ⟨b, 0, none⟩)) s84 (gyes_none rfl) (q_alloc (vs := [.int .i64 0]) 1 Tryz.zeroValue3 (by first | exact flat_scalar rfl | exact flat_agg rfl) rfl) rfl (by decide) (by simp [Op.operands, Call.operands]) (fun b106 H107 hb109 s108 => ?_)
          refine x_store1 [] hF s108 (by kernel_rfl) (gyes_none rfl) (j := 0) (v := .int .i64 0) rfl Tryz.sizeOf3 rfl rfl rfl (lc_scalar rfl) (Nat.le_of_ble_eq_true rfl) trivial (cconst rfl) rfl rfl (F' := [(b106, .cells true [.int .i64 0] 1), (ys, .cells true (ps.map ptv) 1), (yw, .cells true (fl filc m) 2), (b5, .cells true [.slice (some ⟨yw, 0, none⟩) m.length m.length] 1), (b1, .cells true [.slice (some ⟨ys, 0, none⟩) ps.length ps.length] 1)]) rfl (fun H110 s111 => ⟨?_, ?_⟩)
          · exact trivial
          refine ⟨_, Wk.refl _ _, ?_⟩
          show awp _ _ _ _ _ _ _
          refine awp_seq ?_
          refine awp_regs hF ?_
          refine x_new (fun b => .pointer (some ⟨b, 0, none⟩)) s111 (gyes_none rfl) (q_alloc (vs := [.bool false]) 1 Tryz.zeroValue4 (by first | exact flat_scalar rfl | exact flat_agg rfl) rfl) rfl (by decide) (by simp [Op.operands, Call.operands]) (fun b112 H113 hb115 s114 => ?_)
          refine x_store1 [] hF s114 (by kernel_rfl) (gyes_none rfl) (j := 0) (v := .bool true) rfl Tryz.sizeOf4 rfl rfl rfl (lc_scalar rfl) (Nat.le_of_ble_eq_true rfl) trivial (cconst rfl) rfl rfl (F' := [(b112, .cells true [.bool true] 1), (b106, .cells true [.int .i64 0] 1), (ys, .cells true (ps.map ptv) 1), (yw, .cells true (fl filc m) 2), (b5, .cells true [.slice (some ⟨yw, 0, none⟩) m.length m.length] 1), (b1, .cells true [.slice (some ⟨ys, 0, none⟩) ps.length ps.length] 1)]) rfl (fun H116 s117 => ⟨?_, ?_⟩)
          · exact trivial
          refine ⟨_, Wk.refl _ _, ?_⟩
          show awp _ _ _ _ _ _ _
          refine awp_seq ?_
          refine awp_regs hF ?_
          refine x_call [] hF (by kernel_rfl) (gyes_none rfl) Tryz.call7 rfl (args := [.pointer (some ⟨b1, 0, none⟩)]) rfl (all_ok b1 _ (s117.rd (j := 5) rfl)) (show _ < _ by decide) (call_ok rfl) rfl rfl (fun _ _ _ _ hd => by cases hd) ?_
          rintro _ H119 ⟨b118, rfl, hn120⟩
          have s121 := s117.callL hn120
          refine ⟨trivial, ?_⟩
          show dList _ _ _ _ _ _ _ _ _ _
          refine dv (gyes_none rfl) (q_makeFuncL [.pointer (some ⟨b112, 0, none⟩), .pointer (some ⟨b106, 0, none⟩), .pointer (some ⟨b5, 0, none⟩)] ⟨rfl, rfl, rfl, trivial⟩) rfl (by decide) (call_ok rfl) ?_
          refine x_call [] hF (by kernel_rfl) (gyes_none rfl) Tryz.call16 rfl (args := [.func (.func 12) #[] #[.pointer (some ⟨b112, 0, none⟩), .pointer (some ⟨b106, 0, none⟩), .pointer (some ⟨b5, 0, none⟩)], .pointer (some ⟨b118, 0, none⟩)]) rfl (prun_ok s121 b1 b118 _ _ ps m (by omega) b106 b112 b5 2 1 rfl rfl (by decide) (nin2 (s121.nej (i := 5) (j := 2) rfl rfl (by decide)) (s121.nej (i := 5) (j := 1) rfl rfl (by decide))) (nin2 (s121.nej (i := 0) (j := 2) rfl rfl (by decide)) (s121.nej (i := 0) (j := 1) rfl rfl (by decide))) (nin2 (s121.nej (i := 6) (j := 2) rfl rfl (by decide)) (s121.nej (i := 6) (j := 1) rfl rfl (by decide))) (s121.rd (j := 5) rfl) (s121.rd (j := 0) rfl) (s121.rd (j := 6) rfl) (slsz_full filc_w ⟨(s121.rd (j := 4) rfl), (nin2 (s121.nej (i := 4) (j := 2) rfl rfl (by decide)) (s121.nej (i := 4) (j := 1) rfl rfl (by decide)))⟩ rfl (Nat.le_refl _)) (s121.offj (j := 3) rfl (nin2 (s121.nej (i := 3) (j := 2) rfl rfl (by decide)) (s121.nej (i := 3) (j := 1) rfl rfl (by decide))) rfl (Nat.le_refl _)) (hz.off2 s121 (j := 2) (k := 1) rfl rfl)) (show _ < _ by decide) (call_ok rfl) rfl rfl (fun _ _ _ _ hd => by cases hd) ?_
          rintro _ H122 ⟨rfl, hk123, h124, h125⟩
          have s126 := s121.turn2 (j9 := 2) (jl := 1) rfl rfl (by decide) hk123 (.inr (by simp)) (s121.nej (i := 1) (j := 2) rfl rfl (by decide)) h124 h125
          refine ⟨trivial, ?_⟩
          show dList _ _ _ _ _ _ _ _ _ _
          refine ⟨_, Wk.refl _ _, ?_⟩
          show awp _ _ _ _ _ _ _
          refine awp_seq ?_
          refine awp_regs hF ?_
          refine dv (gyes_none rfl) (q_load (v := .bool true) Tryz.isAgg4 rfl (s126.rd (j := 1) rfl) rfl) rfl (by decide) (cok1 trivial) ?_
          refine dv (gyes_none rfl) (q_mv (v := .bool true) rfl) rfl (by decide) (cok1 trivial) ?_
          refine dv (gyes_some rfl rfl) (q_load (v := .int .i64 ((m.length : Nat) : Int)) Tryz.isAgg3 rfl (s126.rd (j := 2) rfl) rfl) rfl (by decide) (cok1 trivial) ?_
          refine dv (gyes_some rfl rfl) (q_load (v := .slice (some ⟨yw, 0, none⟩) m.length m.length) Tryz.isAgg36 rfl (s126.rd (j := 5) rfl) rfl) rfl (by decide) (cok1 trivial) ?_
          refine dv (gyes_some rfl rfl) (q_len_slice Tryz.underlying36 rfl (s126.rd (j := 4) rfl)) rfl (by decide) (cok1 trivial) ?_
          refine dv (gyes_some rfl rfl) (OpQ.cast (v' := .bool true) (q_int rfl rfl rfl) (congrArg Value.bool (beq_self_eq_true _))) rfl (by decide) (cok2 trivial trivial) ?_
          refine dv (gyes_none rfl) (q_pt (v := .bool true) rfl rfl) rfl (by decide) (call_ok rfl) ?_
          refine dv (gyes_none rfl) (q_as (v := .bool true) rfl) rfl (by decide) (cok1 trivial) ?_
          refine ⟨_, Wk.refl _ _, ?_⟩
          show awp _ _ _ _ _ _ _
          refine awp_ret_wk ?_
          refine ⟨_, Wk.refl _ _, ?_⟩
          repeat (with_reducible first | refine then_ret ?_ | refine blk_ret ?_ | refine then_exit ?_ | refine blk_exit ?_ | refine blk_exit' (by decide) ?_ | refine blk_normal ?_ | refine then_normal ?_ | refine retq_ret ?_ | refine retq_normal ?_ | refine ng_normal ?_ | refine ng_ret ?_ | refine ng_exit ?_)
          exact ret_none (v := .bool true) rfl s126.kp (.tmp rfl .nil) rfl rfl ⟨rfl, rfl⟩

end Go.Proofs.YtnafdgcikaifmaaGreatA

