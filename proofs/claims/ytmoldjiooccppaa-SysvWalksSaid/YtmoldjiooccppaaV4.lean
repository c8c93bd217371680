/-
  Walks of functions of the given program, and what they compute.
-/
import Derived.Test.YtmoldjiooccppaaV3
import Derived.Test.YtmoldjiooccppaaProg
import Derived.KernelRfl
namespace Go.Proofs.YtmoldjiooccppaaA
set_option linter.unusedVariables false
open Go Go.RowKit Go.Shelf Go.Proofs
set_option maxRecDepth 100000 in
set_option maxHeartbeats 4000000 in
theorem walks_ok {H0 : AHeap} (buckets chains : List Nat) (names : List ByteArray) (vb vc vn : Value) (hb : Sl u32v H0 vb buckets) (hc : Sl u32v H0 vc chains) (hn : Sl strv H0 vn names) (hb1 : ∀ x ∈ buckets, x < 4294967296) (hc1 : ∀ x ∈ chains, x < 4294967296) (hn1 : ∀ s ∈ names, s.size ≤ 140737488355328) : ACalls Try.prog 4 [vb, vc, vn] H0 (Rets (.bool true) H0) := by
  have hF : Wd Fence.wide := .inl rfl
  have hM : Try.prog.follows .mixedOrders = true := by kernel_rfl
  obtain ⟨B, eB⟩ : ∃ B, B = buckets.take (min buckets.length 30) := ⟨_, rfl⟩
  obtain ⟨C, eC⟩ : ∃ C, C = chains.take (min chains.length 60) := ⟨_, rfl⟩
  obtain ⟨nm, en⟩ : ∃ nm, nm = names.take (min names.length 30) := ⟨_, rfl⟩
  have hBl : B.length ≤ 30 := by rw [eB, List.length_take]; omega
  have hCl : C.length ≤ 60 := by rw [eC, List.length_take]; omega
  have hnl : nm.length ≤ 30 := by rw [en, List.length_take]; omega
  have hB1 : B.length < 4294967296 := by omega
  have hC1 : C.length ≤ 1000000 := by omega
  have hC2 : C.length ≤ 4294967296 := by omega
  have hBv : ∀ x ∈ B, x < 4294967296 := fun x hx => hb1 x (List.mem_of_mem_take (eB ▸ hx))
  have hCv : ∀ x ∈ C, x < 4294967296 := fun x hx => hc1 x (List.mem_of_mem_take (eC ▸ hx))
  have hNs : ∀ s ∈ nm, s.size ≤ 140737488355328 := fun x hx => hn1 x (List.mem_of_mem_take (en ▸ hx))
  have s0 := St.begin H0
  refine acalls_st Try.func4 rfl Try.ntmps4 rfl ?_
  refine awp_seq ?_
  refine awp_regs hF ?_
  refine dv (gyes_none rfl) (q_as (v := .bool false) rfl) rfl (by decide) (cok1 (cconst rfl)) ?_
  refine ⟨_, Wk.refl _ _, ?_⟩
  show awp _ _ _ _ _ _ _
  refine awp_seq ?_
  refine awp_seq ?_
  refine awp_regs hF ?_
  refine dv (gyes_none rfl) (q_call0 Try.call7 rfl (speaks_ok rfl)) rfl (by decide) (cok1 trivial) ?_
  refine dv (gyes_none rfl) (q_not (b := true) rfl) rfl (by decide) (cok1 trivial) ?_
  refine ⟨_, Wk.refl _ _, ?_⟩
  show awp _ _ _ _ _ _ _
  refine awp_cond_f rfl ?_
  refine awp_skip_wk ?_
  refine ⟨_, Wk.refl _ _, ?_⟩
  show awp _ _ _ _ _ _ _
  refine awp_seq ?_
  refine awp_regt hF hM (by kernel_rfl) (by kernel_rfl) ?_
  refine x_new (fun b => .slice (some ⟨b, 0, none⟩) 0 0) s0 (gyes_none rfl) (q_emptyLit Try.underlying24 Try.sizeOf31) rfl (by decide) (by simp [Op.operands, Call.operands]) (fun b1 H2 hb4 s3 => ?_)
  refine dv (gyes_none rfl) (q_mv (v := vb) rfl) rfl (by decide) (cok1 trivial) ?_
  refine dv (gyes_none rfl) (q_mv (v := vb) rfl) rfl (by decide) (cok1 trivial) ?_
  refine dv (gyes_none rfl) (q_len_sl (l := buckets) Try.underlying24 (s3.sl hb) rfl) rfl (by decide) (cok1 trivial) ?_
  refine dv (gyes_none rfl) (OpQ.cast (v' := .int .i64 ((min buckets.length 30 : Nat) : Int)) (q_min rfl rfl) (by congr 1; split <;> omega)) rfl (by decide) (cok2 trivial (cconst rfl)) ?_
  obtain ⟨w5, hw5, qw5⟩ := slice_z hb (min buckets.length 30) (by omega)
  rw [← eB] at hw5
  refine dv (gyes_none rfl) (qw5 s3 Try.underlying24 Try.sizeOf31 rfl rfl) rfl (by decide) (cok2 trivial trivial) ?_
  refine x_new (fun b => .slice (some ⟨b, 0, none⟩) B.length B.length) s3 (gyes_none rfl) (q_append_nullS (l := B) (f := u32v) (m' := B.length) (by simp) Try.underlying24 Try.underlying24 Try.type31 rfl rfl (by decide) rfl rfl rfl (s3.getj (j := 0) rfl) (s3.sl hw5) (fun x => lc_scalar rfl) (by show (2 * _ + 1000) * 4 ≤ _; first | omega | (simp only [List.length_append, List.length_cons, List.length_nil, List.length_take]; omega))) rfl (by decide) (cok2 trivial trivial) (fun b6 H7 hb9 s8 => ?_)
  refine x_new (fun b => .slice (some ⟨b, 0, none⟩) 0 0) s8 (gyes_none rfl) (q_emptyLit Try.underlying24 Try.sizeOf31) rfl (by decide) (by simp [Op.operands, Call.operands]) (fun b10 H11 hb13 s12 => ?_)
  refine dv (gyes_none rfl) (q_mv (v := vc) rfl) rfl (by decide) (cok1 trivial) ?_
  refine dv (gyes_none rfl) (q_mv (v := vc) rfl) rfl (by decide) (cok1 trivial) ?_
  refine dv (gyes_none rfl) (q_len_sl (l := chains) Try.underlying24 (s12.sl hc) rfl) rfl (by decide) (cok1 trivial) ?_
  refine dv (gyes_none rfl) (OpQ.cast (v' := .int .i64 ((min chains.length 60 : Nat) : Int)) (q_min rfl rfl) (by congr 1; split <;> omega)) rfl (by decide) (cok2 trivial (cconst rfl)) ?_
  obtain ⟨w14, hw14, qw14⟩ := slice_z hc (min chains.length 60) (by omega)
  rw [← eC] at hw14
  refine dv (gyes_none rfl) (qw14 s12 Try.underlying24 Try.sizeOf31 rfl rfl) rfl (by decide) (cok2 trivial trivial) ?_
  refine x_new (fun b => .slice (some ⟨b, 0, none⟩) C.length C.length) s12 (gyes_none rfl) (q_append_nullS (l := C) (f := u32v) (m' := C.length) (by simp) Try.underlying24 Try.underlying24 Try.type31 rfl rfl (by decide) rfl rfl rfl (s12.getj (j := 0) rfl) (s12.sl hw14) (fun x => lc_scalar rfl) (by show (2 * _ + 1000) * 4 ≤ _; first | omega | (simp only [List.length_append, List.length_cons, List.length_nil, List.length_take]; omega))) rfl (by decide) (cok2 trivial trivial) (fun b15 H16 hb18 s17 => ?_)
  refine dv (gyes_none rfl) (q_buildL (ds := [.slice (some ⟨b6, 0, none⟩) B.length B.length, .slice (some ⟨b15, 0, none⟩) C.length C.length]) [(0, 1), (1, 1)] [.slice (some ⟨b6, 0, none⟩) B.length B.length, .slice (some ⟨b15, 0, none⟩) C.length C.length] Try.underlying26 Try.zeroValue26 (by first | exact flat_agg rfl | exact flat_scalar rfl) (by kernel_rfl) ⟨rfl, rfl, trivial⟩ (lvsC (s17.live (j := 2) rfl) (lvsC (s17.live (j := 0) rfl) lvs0)) rfl) rfl (by decide) (cok2 trivial trivial) ?_
  refine x_new (fun b => .pointer (some ⟨b, 0, none⟩)) s17 (gyes_none rfl) (q_alloc (vs := [.slice none 0 0, .slice none 0 0]) 2 Try.zeroValue26 (by first | exact flat_scalar rfl | exact flat_agg rfl) rfl) rfl (by decide) (by simp [Op.operands, Call.operands]) (fun b19 H20 hb22 s21 => ?_)
  refine x_store [] hF s21 (by kernel_rfl) (gyes_none rfl) (j := 0) (v := .agg #[.slice (some ⟨b6, 0, none⟩) B.length B.length, .slice (some ⟨b15, 0, none⟩) C.length C.length]) rfl Try.sizeOf26 rfl rfl rfl rfl rfl trivial (lcsA ⟨(lc_slice (s21.live (j := 3) rfl)), (lc_slice (s21.live (j := 1) rfl)), trivial⟩) (Nat.le_of_ble_eq_true rfl) trivial trivial rfl rfl (F' := [(b19, .cells true [.slice (some ⟨b6, 0, none⟩) B.length B.length, .slice (some ⟨b15, 0, none⟩) C.length C.length] 2), (b15, .cells true (C.map u32v) 1), (b10, .null), (b6, .cells true (B.map u32v) 1), (b1, .null)]) rfl (fun H23 s24 => ⟨?_, ?_⟩)
  · exact trivial
  refine ⟨_, Wk.refl _ _, ?_⟩
  show awp _ _ _ _ _ _ _
  refine awp_seq ?_
  refine awp_regs hF ?_
  refine dv (gyes_none rfl) (q_mv (v := vn) rfl) rfl (by decide) (cok1 trivial) ?_
  refine dv (gyes_none rfl) (q_mv (v := vn) rfl) rfl (by decide) (cok1 trivial) ?_
  refine dv (gyes_none rfl) (q_len_sl (l := names) Try.underlying22 (s24.sl hn) rfl) rfl (by decide) (cok1 trivial) ?_
  refine dv (gyes_none rfl) (OpQ.cast (v' := .int .i64 ((min names.length 30 : Nat) : Int)) (q_min rfl rfl) (by congr 1; split <;> omega)) rfl (by decide) (cok2 trivial (cconst rfl)) ?_
  obtain ⟨w25, hw25, qw25⟩ := slice_z hn (min names.length 30) (by omega)
  rw [← en] at hw25
  refine dv (gyes_none rfl) (qw25 s24 Try.underlying22 Try.sizeOf9 rfl rfl) rfl (by decide) (cok2 trivial trivial) ?_
  refine dv (gyes_none rfl) (q_as (v := w25) rfl) rfl (by decide) (cok1 trivial) ?_
  refine ⟨_, Wk.refl _ _, ?_⟩
  show awp _ _ _ _ _ _ _
  refine awp_seq ?_
  refine awp_seq ?_
  refine awp_regs hF ?_
  refine dv (gyes_none rfl) (q_as (v := .int .i64 0) rfl) rfl (by decide) (cok1 (cconst rfl)) ?_
  refine ⟨_, Wk.refl _ _, ?_⟩
  show awp _ _ _ _ _ _ _
  refine awp_block ?_
  refine awp_wk (Wk.U [(2, w25), (7, .pointer (some ⟨b19, 0, none⟩)), (8, .int .i64 0)] ⟨rfl, rfl, rfl, trivial⟩) ?_
  refine awp_loop (fun (i : Nat) st => ∃ (H26 : AHeap) (bt : Nat) (bC : Nat) (bB : Nat), st = ⟨183, U [(2, w25), (7, .pointer (some ⟨bt, 0, none⟩)), (8, .int .i64 ((i : Nat) : Int))], [], H26⟩ ∧ St H0 (none0) (Rd H0) H26 [(bt, .cells true [.slice (some ⟨bB, 0, none⟩) B.length B.length, .slice (some ⟨bC, 0, none⟩) C.length C.length] 2), (bC, .cells true (C.map u32v) 1), (bB, .cells true (B.map u32v) 1)]) (fun (i : Nat) => nm.length - i) (x0 := (0)) ?h0 ?round
  case h0 =>
    exact ⟨_, _, _, _, rfl, (s24.sub (.cons_cons _ (.cons_cons _ (.cons _ (.cons_cons _ (.cons _ (.refl _)))))))⟩
  case round =>
    rintro i _ ⟨H26, bt, bC, bB, rfl, s27⟩
    refine awp_seq ?_
    refine awp_seq ?_
    refine awp_regs hF ?_
    refine dv (gyes_none rfl) (q_mv (v := .int .i64 ((i : Nat) : Int)) rfl) rfl (by decide) (cok1 trivial) ?_
    refine dv (gyes_none rfl) (q_mv (v := w25) rfl) rfl (by decide) (cok1 trivial) ?_
    refine dv (gyes_none rfl) (q_len_sl (l := nm) Try.underlying22 (s27.sl hw25) rfl) rfl (by decide) (cok1 trivial) ?_
    refine dvb (gyes_none rfl) (q_int rfl rfl rfl) rfl (by decide) (cok2 trivial trivial) (fun c1 => ?_) (fun c1 => ?_)
    ·
      replace c1 := of_decide_eq_true c1
      have hil : i < nm.length := by omega
      have hnn : nth nm i ∈ nm := by rw [nth_eq hil]; exact List.getElem_mem hil
      have hwl := walk_len B C (nth nm i)
      refine ⟨_, Wk.refl _ _, ?_⟩
      show awp _ _ _ _ _ _ _
      refine awp_cond_t rfl ?_
      refine awp_skip_wk ?_
      refine ⟨_, Wk.refl _ _, ?_⟩
      show awp _ _ _ _ _ _ _
      refine awp_seq ?_
      refine awp_block ?_
      refine awp_seq ?_
      refine awp_regt hF hM (by kernel_rfl) (by kernel_rfl) ?_
      refine dv (gyes_none rfl) (q_field Try.underlying26 rfl Try.sizeOf24 rfl (s27.rd (j := 0) rfl)) rfl (by decide) (cok1 trivial) ?_
      refine dv (gyes_none rfl) (q_load (v := .slice (some ⟨bB, 0, none⟩) B.length B.length) Try.isAgg24 rfl (s27.rd (j := 0) rfl) rfl) rfl (by decide) (cok1 trivial) ?_
      refine dv (gyes_none rfl) (q_field Try.underlying26 rfl Try.sizeOf24 rfl (s27.rd (j := 0) rfl)) rfl (by decide) (cok1 trivial) ?_
      refine dv (gyes_none rfl) (q_load (v := .slice (some ⟨bC, 0, none⟩) C.length C.length) Try.isAgg24 rfl (s27.rd (j := 0) rfl) rfl) rfl (by decide) (cok1 trivial) ?_
      refine dv (gyes_none rfl) (q_mv (v := w25) rfl) rfl (by decide) (cok1 trivial) ?_
      refine dv (gyes_none rfl) (q_mv (v := .int .i64 ((i : Nat) : Int)) rfl) rfl (by decide) (cok1 trivial) ?_
      refine dv (gyes_none rfl) (q_index_sl (l := nm) (i := i) Try.underlying22 Try.sizeOf9 (s27.sl hw25) rfl rfl (by omega)) rfl (by decide) (cok2 trivial trivial) ?_
      refine dv (gyes_none rfl) (q_load_sl (l := nm) (i := i) Try.isAgg9 (s27.sl hw25) rfl (by omega)) rfl (by decide) (cok1 trivial) ?_
      refine x_new (fun b => .slice (some ⟨b, 0, none⟩) (walkL B C (nth nm i)).length (walkL B C (nth nm i)).length) s27 (gyes_none rfl) (q_call (Δ := [.cells true ((walkL B C (nth nm i)).map i64v) 1]) Try.call11 rfl (by simp [AObj.wr]) (acalls_fresh i64v_sc (rwalk_ok (nth nm i) (hNs _ hnn) B C _ _ (s27.slj (j := 2) rfl (by first | rfl | (simp; done) | omega) (by first | exact Nat.le_refl _ | omega)) (s27.slj (j := 1) rfl (by first | rfl | (simp; done) | omega) (by first | exact Nat.le_refl _ | omega)) hB1 hBv hCv hC1))) rfl (by decide) (call_ok rfl) (fun b28 H29 hb31 s30 => ?_)
      refine x_new (fun b => .pointer (some ⟨b, 0, none⟩)) s30 (gyes_none rfl) (q_alloc (vs := [.slice none 0 0]) 1 Try.zeroValue29 (by first | exact flat_scalar rfl | exact flat_agg rfl) rfl) rfl (by decide) (by simp [Op.operands, Call.operands]) (fun b32 H33 hb35 s34 => ?_)
      refine x_store1 [] hF s34 (by kernel_rfl) (gyes_none rfl) (j := 0) (v := .slice (some ⟨b28, 0, none⟩) ((walkL B C (nth nm i)).length) ((walkL B C (nth nm i)).length)) rfl Try.sizeOf29 rfl rfl rfl (lc_slice (s34.live (j := 1) rfl)) (Nat.le_of_ble_eq_true rfl) trivial trivial rfl rfl (F' := [(b32, .cells true [.slice (some ⟨b28, 0, none⟩) ((walkL B C (nth nm i)).length) ((walkL B C (nth nm i)).length)] 1), (b28, .cells true ((walkL B C (nth nm i)).map i64v) 1), (bt, .cells true [.slice (some ⟨bB, 0, none⟩) B.length B.length, .slice (some ⟨bC, 0, none⟩) C.length C.length] 2), (bC, .cells true (C.map u32v) 1), (bB, .cells true (B.map u32v) 1)]) rfl (fun H36 s37 => ⟨?_, ?_⟩)
      · exact trivial
      refine ⟨_, Wk.refl _ _, ?_⟩
      show awp _ _ _ _ _ _ _
      refine awp_seq ?_
      refine awp_regs hF ?_
      refine x_new (fun b => .pointer (some ⟨b, 0, none⟩)) s37 (gyes_none rfl) (q_alloc (vs := [.int .i64 0]) 1 Try.zeroValue3 (by first | exact flat_scalar rfl | exact flat_agg rfl) rfl) rfl (by decide) (by simp [Op.operands, Call.operands]) (fun b38 H39 hb41 s40 => ?_)
      refine x_store1 [] hF s40 (by kernel_rfl) (gyes_none rfl) (j := 0) (v := .int .i64 0) rfl Try.sizeOf3 rfl rfl rfl (lc_scalar rfl) (Nat.le_of_ble_eq_true rfl) trivial (cconst rfl) rfl rfl (F' := [(b38, .cells true [.int .i64 0] 1), (b32, .cells true [.slice (some ⟨b28, 0, none⟩) ((walkL B C (nth nm i)).length) ((walkL B C (nth nm i)).length)] 1), (b28, .cells true ((walkL B C (nth nm i)).map i64v) 1), (bt, .cells true [.slice (some ⟨bB, 0, none⟩) B.length B.length, .slice (some ⟨bC, 0, none⟩) C.length C.length] 2), (bC, .cells true (C.map u32v) 1), (bB, .cells true (B.map u32v) 1)]) rfl (fun H42 s43 => ⟨?_, ?_⟩)
      · exact trivial
      refine ⟨_, Wk.refl _ _, ?_⟩
      show awp _ _ _ _ _ _ _
      refine awp_seq ?_
      refine awp_regs hF ?_
      refine x_new (fun b => .pointer (some ⟨b, 0, none⟩)) s43 (gyes_none rfl) (q_alloc (vs := [.bool false]) 1 Try.zeroValue4 (by first | exact flat_scalar rfl | exact flat_agg rfl) rfl) rfl (by decide) (by simp [Op.operands, Call.operands]) (fun b44 H45 hb47 s46 => ?_)
      refine x_store1 [] hF s46 (by kernel_rfl) (gyes_none rfl) (j := 0) (v := .bool true) rfl Try.sizeOf4 rfl rfl rfl (lc_scalar rfl) (Nat.le_of_ble_eq_true rfl) trivial (cconst rfl) rfl rfl (F' := [(b44, .cells true [.bool true] 1), (b38, .cells true [.int .i64 0] 1), (b32, .cells true [.slice (some ⟨b28, 0, none⟩) ((walkL B C (nth nm i)).length) ((walkL B C (nth nm i)).length)] 1), (b28, .cells true ((walkL B C (nth nm i)).map i64v) 1), (bt, .cells true [.slice (some ⟨bB, 0, none⟩) B.length B.length, .slice (some ⟨bC, 0, none⟩) C.length C.length] 2), (bC, .cells true (C.map u32v) 1), (bB, .cells true (B.map u32v) 1)]) rfl (fun H48 s49 => ⟨?_, ?_⟩)
      · exact trivial
      refine ⟨_, Wk.refl _ _, ?_⟩
      show awp _ _ _ _ _ _ _
      refine awp_seq ?_
      refine awp_regt hF hM (by kernel_rfl) (by kernel_rfl) ?_
      refine dv (gyes_none rfl) (q_loadAgg Try.isAgg26 Try.sizeOf26 rfl (s49.rd (j := 4) rfl) (Nat.le_of_ble_eq_true rfl) rfl) rfl (by decide) (cok1 trivial) ?_
      refine dv (gyes_none rfl) (q_mv (v := w25) rfl) rfl (by decide) (cok1 trivial) ?_
      refine dv (gyes_none rfl) (q_mv (v := .int .i64 ((i : Nat) : Int)) rfl) rfl (by decide) (cok1 trivial) ?_
      refine dv (gyes_none rfl) (q_index_sl (l := nm) (i := i) Try.underlying22 Try.sizeOf9 (s49.sl hw25) rfl rfl (by omega)) rfl (by decide) (cok2 trivial trivial) ?_
      refine dv (gyes_none rfl) (q_load_sl (l := nm) (i := i) Try.isAgg9 (s49.sl hw25) rfl (by omega)) rfl (by decide) (cok1 trivial) ?_
      refine x_new2 (fun b c => .func (.func 21) #[] #[.pointer (some ⟨b, 0, none⟩), .pointer (some ⟨c, 0, none⟩)]) s49 (gyes_none rfl) (q_call Try.call9 rfl (by simp [AObj.wr]) (walk_ok rfl (nth nm i) _ _ rfl rfl)) rfl (by decide) (call_ok rfl) (fun b50 b51 H52 hb54 hb55 s53 => ?_)
      refine dv (gyes_none rfl) (q_makeFuncL [.pointer (some ⟨b44, 0, none⟩), .pointer (some ⟨b38, 0, none⟩), .pointer (some ⟨b32, 0, none⟩)] ⟨rfl, rfl, rfl, trivial⟩) rfl (by decide) (call_ok rfl) ?_
      refine x_call [] hF (by kernel_rfl) (gyes_none rfl) Try.call21 rfl (args := [.func (.func 12) #[] #[.pointer (some ⟨b44, 0, none⟩), .pointer (some ⟨b38, 0, none⟩), .pointer (some ⟨b32, 0, none⟩)], .pointer (some ⟨b50, 0, none⟩), .pointer (some ⟨b51, 0, none⟩)]) rfl (wrun_ok (nth nm i) (hNs _ hnn) B C _ _ _ hB1 hBv hCv hC2 (by have := walk_len B C (nth nm i); omega) (nod3 (s53.nej (i := 2) (j := 3) rfl rfl (by decide)) (s53.nej (i := 2) (j := 4) rfl rfl (by decide)) (s53.nej (i := 3) (j := 4) rfl rfl (by decide))) (s53.getj (j := 0) rfl) (s53.getj (j := 1) rfl) (nin3 (s53.nej (i := 0) (j := 2) rfl rfl (by decide)) (s53.nej (i := 0) (j := 3) rfl rfl (by decide)) (s53.nej (i := 0) (j := 4) rfl rfl (by decide))) (nin3 (s53.nej (i := 1) (j := 2) rfl rfl (by decide)) (s53.nej (i := 1) (j := 3) rfl rfl (by decide)) (s53.nej (i := 1) (j := 4) rfl rfl (by decide))) (s53.offj (j := 8) rfl (nin3 (s53.nej (i := 8) (j := 2) rfl rfl (by decide)) (s53.nej (i := 8) (j := 3) rfl rfl (by decide)) (s53.nej (i := 8) (j := 4) rfl rfl (by decide))) rfl (Nat.le_refl _)) (s53.offj (j := 7) rfl (nin3 (s53.nej (i := 7) (j := 2) rfl rfl (by decide)) (s53.nej (i := 7) (j := 3) rfl rfl (by decide)) (s53.nej (i := 7) (j := 4) rfl rfl (by decide))) rfl (Nat.le_refl _)) (s53.offj (j := 5) rfl (nin3 (s53.nej (i := 5) (j := 2) rfl rfl (by decide)) (s53.nej (i := 5) (j := 3) rfl rfl (by decide)) (s53.nej (i := 5) (j := 4) rfl rfl (by decide))) rfl (Nat.le_refl _)) (s53.getj (j := 2) rfl) (s53.getj (j := 3) rfl) (s53.getj (j := 4) rfl)) (show _ < _ by decide) (call_ok rfl) rfl rfl (fun _ _ _ _ hd => by cases hd) ?_
      rintro v H57 ⟨rfl, k58, ha59⟩
      have s56 := s53.turnS k58 [(b50, .cells true [.slice (some ⟨bB, 0, none⟩) B.length B.length, .slice (some ⟨bC, 0, none⟩) C.length C.length] 1), (b51, .cells true [.string (nth nm i)] 1), (b44, .cells true [.bool true] 1), (b38, .cells true [.int .i64 (((walkL B C (nth nm i)).length : Nat) : Int)] 1), (b32, .cells true [.slice (some ⟨b28, 0, none⟩) ((walkL B C (nth nm i)).length) ((walkL B C (nth nm i)).length)] 1), (b28, .cells true ((walkL B C (nth nm i)).map i64v) 1), (bt, .cells true [.slice (some ⟨bB, 0, none⟩) B.length B.length, .slice (some ⟨bC, 0, none⟩) C.length C.length] 2), (bC, .cells true (C.map u32v) 1), (bB, .cells true (B.map u32v) 1)] rfl ⟨(s53.kept k58 (j := 0) rfl (nin3 (s53.nej (i := 0) (j := 2) rfl rfl (by decide)) (s53.nej (i := 0) (j := 3) rfl rfl (by decide)) (s53.nej (i := 0) (j := 4) rfl rfl (by decide)))), (s53.kept k58 (j := 1) rfl (nin3 (s53.nej (i := 1) (j := 2) rfl rfl (by decide)) (s53.nej (i := 1) (j := 3) rfl rfl (by decide)) (s53.nej (i := 1) (j := 4) rfl rfl (by decide)))), ha59.1, ha59.2.1, ha59.2.2.1, (s53.kept k58 (j := 5) rfl (nin3 (s53.nej (i := 5) (j := 2) rfl rfl (by decide)) (s53.nej (i := 5) (j := 3) rfl rfl (by decide)) (s53.nej (i := 5) (j := 4) rfl rfl (by decide)))), (s53.kept k58 (j := 6) rfl (nin3 (s53.nej (i := 6) (j := 2) rfl rfl (by decide)) (s53.nej (i := 6) (j := 3) rfl rfl (by decide)) (s53.nej (i := 6) (j := 4) rfl rfl (by decide)))), (s53.kept k58 (j := 7) rfl (nin3 (s53.nej (i := 7) (j := 2) rfl rfl (by decide)) (s53.nej (i := 7) (j := 3) rfl rfl (by decide)) (s53.nej (i := 7) (j := 4) rfl rfl (by decide)))), (s53.kept k58 (j := 8) rfl (nin3 (s53.nej (i := 8) (j := 2) rfl rfl (by decide)) (s53.nej (i := 8) (j := 3) rfl rfl (by decide)) (s53.nej (i := 8) (j := 4) rfl rfl (by decide)))), trivial⟩ (fun b hb => by
        simp only [List.mem_cons, List.not_mem_nil, or_false] at hb
        rcases hb with rfl | rfl | rfl <;> simp)
      refine ⟨trivial, ?_⟩
      show dList _ _ _ _ _ _ _ _ _ _
      refine ⟨_, Wk.refl _ _, ?_⟩
      show awp _ _ _ _ _ _ _
      refine awp_seq ?_
      refine awp_seq ?_
      refine awp_regs hF ?_
      refine dv (gyes_none rfl) (q_load (v := .bool true) Try.isAgg4 rfl (s56.rd (j := 2) rfl) rfl) rfl (by decide) (cok1 trivial) ?_
      refine dv (gyes_none rfl) (q_not (b := true) rfl) rfl (by decide) (cok1 trivial) ?_
      refine dv (gyes_none rfl) (q_mv (v := .bool false) rfl) rfl (by decide) (cok1 trivial) ?_
      refine dv (gyes_some rfl rfl) (q_load (v := .int .i64 (((walkL B C (nth nm i)).length : Nat) : Int)) Try.isAgg3 rfl (s56.rd (j := 3) rfl) rfl) rfl (by decide) (cok1 trivial) ?_
      refine dv (gyes_some rfl rfl) (q_load (v := .slice (some ⟨b28, 0, none⟩) ((walkL B C (nth nm i)).length) ((walkL B C (nth nm i)).length)) Try.isAgg29 rfl (s56.rd (j := 4) rfl) rfl) rfl (by decide) (cok1 trivial) ?_
      refine dv (gyes_some rfl rfl) (q_len_slice Try.underlying29 rfl (s56.rd (j := 5) rfl)) rfl (by decide) (cok1 trivial) ?_
      refine dv (gyes_some rfl rfl) (OpQ.cast (v' := .bool false) (q_int rfl rfl rfl) (congrArg Value.bool (bne_self_eq_false _))) rfl (by decide) (cok2 trivial trivial) ?_
      refine dv (gyes_none rfl) (q_pf (v := .bool false) rfl rfl) rfl (by decide) (call_ok rfl) ?_
      refine ⟨_, Wk.refl _ _, ?_⟩
      show awp _ _ _ _ _ _ _
      refine awp_cond_f rfl ?_
      refine awp_skip_wk ?_
      refine ⟨_, Wk.refl _ _, ?_⟩
      show awp _ _ _ _ _ _ _
      refine awp_seq ?_
      refine awp_regs hF ?_
      refine dv (gyes_none rfl) (q_as (v := .int .i64 0) rfl) rfl (by decide) (cok1 (cconst rfl)) ?_
      refine ⟨_, Wk.refl _ _, ?_⟩
      show awp _ _ _ _ _ _ _
      refine awp_seq ?_
      refine awp_seq ?_
      refine awp_regs hF ?_
      refine dv (gyes_none rfl) (q_load (v := .slice (some ⟨b28, 0, none⟩) ((walkL B C (nth nm i)).length) ((walkL B C (nth nm i)).length)) Try.isAgg29 rfl (s56.rd (j := 4) rfl) rfl) rfl (by decide) (cok1 trivial) ?_
      refine dv (gyes_none rfl) (q_len_slice Try.underlying29 rfl (s56.rd (j := 5) rfl)) rfl (by decide) (cok1 trivial) ?_
      refine dv (gyes_none rfl) (OpQ.cast (v' := .int .i64 ((((walkL B C (nth nm i)).length : Nat) : Int) - 1)) (q_int rfl rfl rfl) (congrArg _ (i64_in (by omega)))) rfl (by decide) (cok2 trivial (cconst rfl)) ?_
      refine dv (gyes_none rfl) (q_as (v := .int .i64 ((((walkL B C (nth nm i)).length : Nat) : Int) - 1)) rfl) rfl (by decide) (cok1 trivial) ?_
      refine ⟨_, Wk.refl _ _, ?_⟩
      show awp _ _ _ _ _ _ _
      refine awp_block ?_
      refine awp_wk (Wk.U [(2, w25), (7, .pointer (some ⟨bt, 0, none⟩)), (8, .int .i64 ((i : Nat) : Int)), (9, .pointer (some ⟨b32, 0, none⟩)), (12, .int .i64 0), (13, .int .i64 ((((walkL B C (nth nm i)).length : Nat) : Int) - 1))] ⟨rfl, rfl, rfl, rfl, rfl, rfl, trivial⟩) ?_
      refine awp_loop (fun ((k, f) : Int × Nat) st => ∃ (H60 : AHeap), st = ⟨183, U [(2, w25), (7, .pointer (some ⟨bt, 0, none⟩)), (8, .int .i64 ((i : Nat) : Int)), (9, .pointer (some ⟨b32, 0, none⟩)), (12, .int .i64 ((f : Nat) : Int)), (13, .int .i64 k)], [], H60⟩ ∧ St H0 (none0) (Rd H0) H60 [(b50, .cells true [.slice (some ⟨bB, 0, none⟩) B.length B.length, .slice (some ⟨bC, 0, none⟩) C.length C.length] 1), (b51, .cells true [.string (nth nm i)] 1), (b44, .cells true [.bool true] 1), (b38, .cells true [.int .i64 (((walkL B C (nth nm i)).length : Nat) : Int)] 1), (b32, .cells true [.slice (some ⟨b28, 0, none⟩) ((walkL B C (nth nm i)).length) ((walkL B C (nth nm i)).length)] 1), (b28, .cells true ((walkL B C (nth nm i)).map i64v) 1), (bt, .cells true [.slice (some ⟨bB, 0, none⟩) B.length B.length, .slice (some ⟨bC, 0, none⟩) C.length C.length] 2), (bC, .cells true (C.map u32v) 1), (bB, .cells true (B.map u32v) 1)] ∧ (-1 ≤ k ∧ k < (walkL B C (nth nm i)).length ∧ f = fskip (walkL B C (nth nm i)) nm (nth nm i) (k + 1).toNat ∧ (f < 4294967296))) (fun ((k, f) : Int × Nat) => (k + 1).toNat) (x0 := (((((walkL B C (nth nm i)).length : Nat) : Int) - 1), 0)) ?h0 ?round
      case h0 =>
        exact ⟨_, rfl, s56, ⟨by omega, by omega, (fskip_end _ _ _ (by omega)).symm, by omega⟩⟩
      case round =>
        rintro ⟨k, f⟩ _ ⟨H60, rfl, s61, hf⟩
        dsimp only at *
        refine awp_seq ?_
        refine awp_seq ?_
        refine awp_regs hF ?_
        refine dv (gyes_none rfl) (q_mv (v := .int .i64 k) rfl) rfl (by decide) (cok1 trivial) ?_
        refine dvb (gyes_none rfl) (q_int rfl rfl rfl) rfl (by decide) (cok2 trivial (cconst rfl)) (fun c2 => ?_) (fun c2 => ?_)
        ·
          replace c2 := of_decide_eq_true c2
          have hkl : k.toNat < (walkL B C (nth nm i)).length := by omega
          have hvw := (walk_in (nth_mem hkl)).2
          refine ⟨_, Wk.refl _ _, ?_⟩
          show awp _ _ _ _ _ _ _
          refine awp_cond_t rfl ?_
          refine awp_skip_wk ?_
          refine ⟨_, Wk.refl _ _, ?_⟩
          show awp _ _ _ _ _ _ _
          refine awp_seq ?_
          refine awp_block ?_
          refine awp_seq ?_
          refine awp_regt hF hM (by kernel_rfl) (by kernel_rfl) ?_
          refine dv (gyes_none rfl) (q_load (v := .slice (some ⟨b28, 0, none⟩) ((walkL B C (nth nm i)).length) ((walkL B C (nth nm i)).length)) Try.isAgg29 rfl (s61.rd (j := 4) rfl) rfl) rfl (by decide) (cok1 trivial) ?_
          refine dv (gyes_none rfl) (q_mv (v := .int .i64 k) rfl) rfl (by decide) (cok1 trivial) ?_
          refine dv (gyes_none rfl) (OpQ.cast (v' := .pointer (some ⟨b28, k.toNat, none⟩)) (q_indexI1 (z := k) Try.underlying29 Try.sizeOf3 rfl rfl (by omega) (by omega) (s61.rd (j := 5) rfl)) (by rw [Nat.zero_add])) rfl (by decide) (cok2 trivial trivial) ?_
          refine dv (gyes_none rfl) (q_load (v := i64v (nth (walkL B C (nth nm i)) k.toNat)) Try.isAgg3 rfl (s61.rd (j := 5) rfl) (get_nth (w := 0) (by omega))) rfl (by decide) (cok1 trivial) ?_
          refine dv (gyes_none rfl) (q_mv (v := w25) rfl) rfl (by decide) (cok1 trivial) ?_
          refine dv (gyes_none rfl) (q_len_sl (l := nm) Try.underlying22 (s61.sl hw25) rfl) rfl (by decide) (cok1 trivial) ?_
          refine dvb (gyes_none rfl) (q_int rfl rfl rfl) rfl (by decide) (cok2 trivial trivial) (fun c3 => ?_) (fun c3 => ?_)
          ·
            replace c3 := of_decide_eq_true c3
            have hxl : nth (walkL B C (nth nm i)) k.toNat < nm.length := by omega
            refine dv (gyes_none rfl) (q_mv (v := .bool true) rfl) rfl (by decide) (cok1 trivial) ?_
            refine dv (gyes_some rfl rfl) (q_mv (v := w25) rfl) rfl (by decide) (cok1 trivial) ?_
            refine dv (gyes_some rfl rfl) (q_load (v := .slice (some ⟨b28, 0, none⟩) ((walkL B C (nth nm i)).length) ((walkL B C (nth nm i)).length)) Try.isAgg29 rfl (s61.rd (j := 4) rfl) rfl) rfl (by decide) (cok1 trivial) ?_
            refine dv (gyes_some rfl rfl) (q_mv (v := .int .i64 k) rfl) rfl (by decide) (cok1 trivial) ?_
            refine dv (gyes_some rfl rfl) (OpQ.cast (v' := .pointer (some ⟨b28, k.toNat, none⟩)) (q_indexI1 (z := k) Try.underlying29 Try.sizeOf3 rfl rfl (by omega) (by omega) (s61.rd (j := 5) rfl)) (by rw [Nat.zero_add])) rfl (by decide) (cok2 trivial trivial) ?_
            refine dv (gyes_some rfl rfl) (q_load (v := i64v (nth (walkL B C (nth nm i)) k.toNat)) Try.isAgg3 rfl (s61.rd (j := 5) rfl) (get_nth (w := 0) (by omega))) rfl (by decide) (cok1 trivial) ?_
            refine dv (gyes_some rfl rfl) (q_index_sl (l := nm) (i := (nth (walkL B C (nth nm i)) k.toNat)) Try.underlying22 Try.sizeOf9 (s61.sl hw25) rfl rfl (by omega)) rfl (by decide) (cok2 trivial trivial) ?_
            refine dv (gyes_some rfl rfl) (q_load_sl (l := nm) (i := (nth (walkL B C (nth nm i)) k.toNat)) Try.isAgg9 (s61.sl hw25) rfl (by omega)) rfl (by decide) (cok1 trivial) ?_
            refine dv (gyes_some rfl rfl) (q_mv (v := w25) rfl) rfl (by decide) (cok1 trivial) ?_
            refine dv (gyes_some rfl rfl) (q_mv (v := .int .i64 ((i : Nat) : Int)) rfl) rfl (by decide) (cok1 trivial) ?_
            refine dv (gyes_some rfl rfl) (q_index_sl (l := nm) (i := i) Try.underlying22 Try.sizeOf9 (s61.sl hw25) rfl rfl (by omega)) rfl (by decide) (cok2 trivial trivial) ?_
            refine dv (gyes_some rfl rfl) (q_load_sl (l := nm) (i := i) Try.isAgg9 (s61.sl hw25) rfl (by omega)) rfl (by decide) (cok1 trivial) ?_
            refine dvb (gyes_some rfl rfl) (q_streq rfl rfl) rfl (by decide) (cok2 trivial trivial) (fun c4 => ?_) (fun c4 => ?_)
            ·
              replace c4 := of_decide_eq_true c4
              refine dv (gyes_none rfl) (q_pt (v := .bool true) rfl rfl) rfl (by decide) (call_ok rfl) ?_
              refine ⟨_, Wk.refl _ _, ?_⟩
              show awp _ _ _ _ _ _ _
              refine awp_cond_t rfl ?_
              refine awp_regs hF ?_
              refine dv (gyes_none rfl) (q_load (v := .slice (some ⟨b28, 0, none⟩) ((walkL B C (nth nm i)).length) ((walkL B C (nth nm i)).length)) Try.isAgg29 rfl (s61.rd (j := 4) rfl) rfl) rfl (by decide) (cok1 trivial) ?_
              refine dv (gyes_none rfl) (q_mv (v := .int .i64 k) rfl) rfl (by decide) (cok1 trivial) ?_
              refine dv (gyes_none rfl) (OpQ.cast (v' := .pointer (some ⟨b28, k.toNat, none⟩)) (q_indexI1 (z := k) Try.underlying29 Try.sizeOf3 rfl rfl (by omega) (by omega) (s61.rd (j := 5) rfl)) (by rw [Nat.zero_add])) rfl (by decide) (cok2 trivial trivial) ?_
              refine dv (gyes_none rfl) (q_load (v := i64v (nth (walkL B C (nth nm i)) k.toNat)) Try.isAgg3 rfl (s61.rd (j := 5) rfl) (get_nth (w := 0) (by omega))) rfl (by decide) (cok1 trivial) ?_
              refine dv (gyes_none rfl) (q_as (v := .int .i64 ((nth (walkL B C (nth nm i)) k.toNat : Nat) : Int)) rfl) rfl (by decide) (cok1 trivial) ?_
              refine ⟨_, Wk.refl _ _, ?_⟩
              show awp _ _ _ _ _ _ _
              refine awp_regs hF ?_
              refine dv (gyes_none rfl) (q_mv (v := .int .i64 k) rfl) rfl (by decide) (cok1 trivial) ?_
              refine dv (gyes_none rfl) (OpQ.cast (v' := .int .i64 (k - 1)) (q_int rfl rfl rfl) (congrArg _ (i64_in (by omega)))) rfl (by decide) (cok2 trivial (cconst rfl)) ?_
              refine dv (gyes_none rfl) (q_as (v := .int .i64 (k - 1)) rfl) rfl (by decide) (cok1 trivial) ?_
              have hstep : -1 ≤ k - 1 ∧ k - 1 < (((walkL B C (nth nm i)).length : Nat) : Int) ∧ (nth (walkL B C (nth nm i)) k.toNat) = fskip (walkL B C (nth nm i)) nm (nth nm i) ((k - 1) + 1).toNat ∧ ((nth (walkL B C (nth nm i)) k.toNat) < 4294967296) := by
                rw [show ((k - 1) + 1).toNat = k.toNat by omega]
                refine ⟨by omega, by omega, ?_, by first | exact hf.2.2.2 | omega⟩
                rw [fskip_yes hkl ((hasName_iff hxl).2 (by assumption))]
              refine ⟨_, Wk.U [(2, w25), (7, .pointer (some ⟨bt, 0, none⟩)), (8, .int .i64 ((i : Nat) : Int)), (9, .pointer (some ⟨b32, 0, none⟩)), (12, .int .i64 (((nth (walkL B C (nth nm i)) k.toNat) : Nat) : Int)), (13, .int .i64 (k - 1))] ⟨rfl, rfl, rfl, rfl, rfl, rfl, trivial⟩, ((k - 1), (nth (walkL B C (nth nm i)) k.toNat)), ⟨_, rfl, s61, hstep⟩, (by omega)⟩
            ·
              replace c4 := of_decide_eq_false c4
              refine dv (gyes_none rfl) (q_pt (v := .bool false) rfl rfl) rfl (by decide) (call_ok rfl) ?_
              refine ⟨_, Wk.refl _ _, ?_⟩
              show awp _ _ _ _ _ _ _
              refine awp_cond_f rfl ?_
              refine awp_skip_wk ?_
              refine ⟨_, Wk.refl _ _, ?_⟩
              show awp _ _ _ _ _ _ _
              refine awp_regs hF ?_
              refine dv (gyes_none rfl) (q_mv (v := .int .i64 k) rfl) rfl (by decide) (cok1 trivial) ?_
              refine dv (gyes_none rfl) (OpQ.cast (v' := .int .i64 (k - 1)) (q_int rfl rfl rfl) (congrArg _ (i64_in (by omega)))) rfl (by decide) (cok2 trivial (cconst rfl)) ?_
              refine dv (gyes_none rfl) (q_as (v := .int .i64 (k - 1)) rfl) rfl (by decide) (cok1 trivial) ?_
              have hstep : -1 ≤ k - 1 ∧ k - 1 < (((walkL B C (nth nm i)).length : Nat) : Int) ∧ f = fskip (walkL B C (nth nm i)) nm (nth nm i) ((k - 1) + 1).toNat ∧ (f < 4294967296) := by
                rw [show ((k - 1) + 1).toNat = k.toNat by omega]
                refine ⟨by omega, by omega, ?_, by first | exact hf.2.2.2 | omega⟩
                rw [fskip_no hkl (by first | exact hasName_out (by omega) | exact fun h => (by assumption : ¬ _) ((hasName_iff hxl).1 h)), show k.toNat + 1 = (k + 1).toNat by omega]; exact hf.2.2.1
              refine ⟨_, Wk.U [(2, w25), (7, .pointer (some ⟨bt, 0, none⟩)), (8, .int .i64 ((i : Nat) : Int)), (9, .pointer (some ⟨b32, 0, none⟩)), (12, .int .i64 ((f : Nat) : Int)), (13, .int .i64 (k - 1))] ⟨rfl, rfl, rfl, rfl, rfl, rfl, trivial⟩, ((k - 1), f), ⟨_, rfl, s61, hstep⟩, (by omega)⟩
          ·
            replace c3 := of_decide_eq_false c3
            refine dv (gyes_none rfl) (q_mv (v := .bool false) rfl) rfl (by decide) (cok1 trivial) ?_
            refine dno rfl (.inl rfl) rfl (by decide) ?_
            refine dno rfl (.inl rfl) rfl (by decide) ?_
            refine dno rfl (.inl rfl) rfl (by decide) ?_
            refine dno rfl (.inl rfl) rfl (by decide) ?_
            refine dno rfl (.inl rfl) rfl (by decide) ?_
            refine dno rfl (.inl rfl) rfl (by decide) ?_
            refine dno rfl (.inl rfl) rfl (by decide) ?_
            refine dno rfl (.inl rfl) rfl (by decide) ?_
            refine dno rfl (.inl rfl) rfl (by decide) ?_
            refine dno rfl (.inl rfl) rfl (by decide) ?_
            refine dno rfl (.inl rfl) rfl (by decide) ?_
            refine dno rfl (.inl rfl) rfl (by decide) ?_
            refine dv (gyes_none rfl) (q_pf (v := .bool false) rfl rfl) rfl (by decide) (call_ok rfl) ?_
            refine ⟨_, Wk.refl _ _, ?_⟩
            show awp _ _ _ _ _ _ _
            refine awp_cond_f rfl ?_
            refine awp_skip_wk ?_
            refine ⟨_, Wk.refl _ _, ?_⟩
            show awp _ _ _ _ _ _ _
            refine awp_regs hF ?_
            refine dv (gyes_none rfl) (q_mv (v := .int .i64 k) rfl) rfl (by decide) (cok1 trivial) ?_
            refine dv (gyes_none rfl) (OpQ.cast (v' := .int .i64 (k - 1)) (q_int rfl rfl rfl) (congrArg _ (i64_in (by omega)))) rfl (by decide) (cok2 trivial (cconst rfl)) ?_
            refine dv (gyes_none rfl) (q_as (v := .int .i64 (k - 1)) rfl) rfl (by decide) (cok1 trivial) ?_
            have hstep : -1 ≤ k - 1 ∧ k - 1 < (((walkL B C (nth nm i)).length : Nat) : Int) ∧ f = fskip (walkL B C (nth nm i)) nm (nth nm i) ((k - 1) + 1).toNat ∧ (f < 4294967296) := by
              rw [show ((k - 1) + 1).toNat = k.toNat by omega]
              refine ⟨by omega, by omega, ?_, by first | exact hf.2.2.2 | omega⟩
              rw [fskip_no hkl (by first | exact hasName_out (by omega) | exact fun h => (by assumption : ¬ _) ((hasName_iff hxl).1 h)), show k.toNat + 1 = (k + 1).toNat by omega]; exact hf.2.2.1
            refine ⟨_, Wk.U [(2, w25), (7, .pointer (some ⟨bt, 0, none⟩)), (8, .int .i64 ((i : Nat) : Int)), (9, .pointer (some ⟨b32, 0, none⟩)), (12, .int .i64 ((f : Nat) : Int)), (13, .int .i64 (k - 1))] ⟨rfl, rfl, rfl, rfl, rfl, rfl, trivial⟩, ((k - 1), f), ⟨_, rfl, s61, hstep⟩, (by omega)⟩
        ·
          replace c2 := of_decide_eq_false c2
          refine ⟨_, Wk.refl _ _, ?_⟩
          show awp _ _ _ _ _ _ _
          refine awp_cond_f rfl ?_
          refine awp_exit_wk ?_
          refine ⟨_, Wk.refl _ _, ?_⟩
          show awp _ _ _ _ _ _ _
          refine awp_seq ?_
          refine awp_regt hF hM (by kernel_rfl) (by kernel_rfl) ?_
          refine dv (gyes_none rfl) (q_loadAgg Try.isAgg26 Try.sizeOf26 rfl (s61.rd (j := 6) rfl) (Nat.le_of_ble_eq_true rfl) rfl) rfl (by decide) (cok1 trivial) ?_
          refine dv (gyes_none rfl) (q_mv (v := w25) rfl) rfl (by decide) (cok1 trivial) ?_
          refine dv (gyes_none rfl) (q_mv (v := .int .i64 ((i : Nat) : Int)) rfl) rfl (by decide) (cok1 trivial) ?_
          refine dv (gyes_none rfl) (q_index_sl (l := nm) (i := i) Try.underlying22 Try.sizeOf9 (s61.sl hw25) rfl rfl (by omega)) rfl (by decide) (cok2 trivial trivial) ?_
          refine dv (gyes_none rfl) (q_load_sl (l := nm) (i := i) Try.isAgg9 (s61.sl hw25) rfl (by omega)) rfl (by decide) (cok1 trivial) ?_
          refine dv (gyes_none rfl) (q_mv (v := w25) rfl) rfl (by decide) (cok1 trivial) ?_
          refine dv (gyes_none rfl) (q_call0 Try.call13 rfl (find2_ok (nth nm i) (hNs _ hnn) B C nm _ _ _ (s61.slj (j := 8) rfl (by first | rfl | (simp; done) | omega) (by first | exact Nat.le_refl _ | omega)) (s61.slj (j := 7) rfl (by first | rfl | (simp; done) | omega) (by first | exact Nat.le_refl _ | omega)) (s61.sl hw25) hB1 hBv hCv hC2)) rfl (by decide) (call_ok rfl) ?_
          refine dv (gyes_none rfl) (q_mv (v := .tuple #[.int .i64 (((findL (walkL B C (nth nm i)) nm (nth nm i)).getD 0 : Nat) : Int), .bool ((findL (walkL B C (nth nm i)) nm (nth nm i)).isSome)]) rfl) rfl (by decide) (cok1 trivial) ?_
          refine dv (gyes_none rfl) (q_extract (v := .int .i64 (((findL (walkL B C (nth nm i)) nm (nth nm i)).getD 0 : Nat) : Int)) rfl rfl) rfl (by decide) (cok1 trivial) ?_
          refine dv (gyes_none rfl) (q_extract (v := .bool ((findL (walkL B C (nth nm i)) nm (nth nm i)).isSome)) rfl rfl) rfl (by decide) (cok1 trivial) ?_
          refine dv (gyes_none rfl) (q_as (v := .int .i64 (((findL (walkL B C (nth nm i)) nm (nth nm i)).getD 0 : Nat) : Int)) rfl) rfl (by decide) (cok1 trivial) ?_
          refine dv (gyes_none rfl) (q_as (v := .bool ((findL (walkL B C (nth nm i)) nm (nth nm i)).isSome)) rfl) rfl (by decide) (cok1 trivial) ?_
          refine ⟨_, Wk.refl _ _, ?_⟩
          show awp _ _ _ _ _ _ _
          refine awp_seq ?_
          refine awp_regs hF ?_
          refine dv (gyes_none rfl) (q_mv (v := .bool ((findL (walkL B C (nth nm i)) nm (nth nm i)).isSome)) rfl) rfl (by decide) (cok1 trivial) ?_
          refine dv (gyes_none rfl) (q_mv (v := .int .i64 ((f : Nat) : Int)) rfl) rfl (by decide) (cok1 trivial) ?_
          refine dv (gyes_none rfl) (q_int rfl rfl rfl) rfl (by decide) (cok2 trivial (cconst rfl)) ?_
          refine dv (gyes_none rfl) (OpQ.cast (v' := .bool false) (q_boolne Try.underlying4 rfl rfl) (congrArg Value.bool (by rw [hf.2.2.1, show (k + 1).toNat = 0 by omega, fskip_all, find_pos]; simp))) rfl (by decide) (cok2 trivial trivial) ?_
          refine dv (gyes_none rfl) (q_mv (v := .bool false) rfl) rfl (by decide) (cok1 trivial) ?_
          refine dv (gyes_some rfl rfl) (q_mv (v := .int .i64 (((findL (walkL B C (nth nm i)) nm (nth nm i)).getD 0 : Nat) : Int)) rfl) rfl (by decide) (cok1 trivial) ?_
          refine dv (gyes_some rfl rfl) (q_mv (v := .int .i64 ((f : Nat) : Int)) rfl) rfl (by decide) (cok1 trivial) ?_
          refine dv (gyes_some rfl rfl) (OpQ.cast (v' := .bool false) (q_int rfl rfl rfl) (congrArg Value.bool (by rw [hf.2.2.1, show (k + 1).toNat = 0 by omega, fskip_all]; simp))) rfl (by decide) (cok2 trivial trivial) ?_
          refine dv (gyes_none rfl) (q_pf (v := .bool false) rfl rfl) rfl (by decide) (call_ok rfl) ?_
          refine ⟨_, Wk.refl _ _, ?_⟩
          show awp _ _ _ _ _ _ _
          refine awp_cond_f rfl ?_
          refine awp_skip_wk ?_
          refine ⟨_, Wk.refl _ _, ?_⟩
          show awp _ _ _ _ _ _ _
          refine awp_regs hF ?_
          refine dv (gyes_none rfl) (q_mv (v := .int .i64 ((i : Nat) : Int)) rfl) rfl (by decide) (cok1 trivial) ?_
          refine dv (gyes_none rfl) (OpQ.cast (v' := .int .i64 ((i + 1 : Nat) : Int)) (q_int rfl rfl rfl) (congrArg _ ((i64_in (by omega)).trans (by first | rfl | omega | (push_cast; rfl))))) rfl (by decide) (cok2 trivial (cconst rfl)) ?_
          refine dv (gyes_none rfl) (q_as (v := .int .i64 ((i + 1 : Nat) : Int)) rfl) rfl (by decide) (cok1 trivial) ?_
          refine ⟨_, Wk.U [(2, w25), (7, .pointer (some ⟨bt, 0, none⟩)), (8, .int .i64 (((i + 1) : Nat) : Int))] ⟨rfl, rfl, rfl, trivial⟩, (i + 1), ⟨_, _, _, _, rfl, (s61.sub (.cons _ (.cons _ (.cons _ (.cons _ (.cons _ (.cons _ (.cons_cons _ (.cons_cons _ (.cons_cons _ (.refl _)))))))))))⟩, (by omega)⟩
    ·
      replace c1 := of_decide_eq_false c1
      refine ⟨_, Wk.refl _ _, ?_⟩
      show awp _ _ _ _ _ _ _
      refine awp_cond_f rfl ?_
      refine awp_exit_wk ?_
      refine ⟨_, Wk.refl _ _, ?_⟩
      show awp _ _ _ _ _ _ _
      refine awp_seq ?_
      refine awp_regs hF ?_
      refine dv (gyes_none rfl) (q_loadAgg Try.isAgg26 Try.sizeOf26 rfl (s27.rd (j := 0) rfl) (Nat.le_of_ble_eq_true rfl) rfl) rfl (by decide) (cok1 trivial) ?_
      refine dv (gyes_none rfl) (q_mv (v := w25) rfl) rfl (by decide) (cok1 trivial) ?_
      obtain ⟨o, ho⟩ : ∃ o, o = chkO B C nm := ⟨_, rfl⟩
      refine dv (gyes_none rfl) (q_call0 Try.call14 rfl (check2_ok B C nm _ _ _ (s27.slj (j := 2) rfl (by first | rfl | (simp; done) | omega) (by first | exact Nat.le_refl _ | omega)) (s27.slj (j := 1) rfl (by first | rfl | (simp; done) | omega) (by first | exact Nat.le_refl _ | omega)) (s27.sl hw25) hNs hB1 hBv hCv hC2 (by omega) o ho)) rfl (by decide) (call_ok rfl) ?_
      refine dv (gyes_none rfl) (q_mv (v := .tuple #[.int .i64 ((o.getD 0 : Nat) : Int), .bool o.isNone]) rfl) rfl (by decide) (cok1 trivial) ?_
      refine dv (gyes_none rfl) (q_extract (v := .int .i64 ((o.getD 0 : Nat) : Int)) rfl rfl) rfl (by decide) (cok1 trivial) ?_
      refine dvb (gyes_none rfl) (q_extract (v := .bool o.isNone) rfl rfl) rfl (by decide) (cok1 trivial) (fun c5 => ?_) (fun c5 => ?_)
      ·
        obtain rfl : o = none := by cases o <;> first | rfl | simp at c5
        refine dv (gyes_none rfl) (q_as (v := .int .i64 0) rfl) rfl (by decide) (cok1 trivial) ?_
        refine dv (gyes_none rfl) (q_as (v := .bool true) rfl) rfl (by decide) (cok1 trivial) ?_
        refine ⟨_, Wk.refl _ _, ?_⟩
        show awp _ _ _ _ _ _ _
        refine awp_seq ?_
        refine awp_seq ?_
        refine awp_regs hF ?_
        refine dv (gyes_none rfl) (q_as (v := .int .i64 1) rfl) rfl (by decide) (cok1 (cconst rfl)) ?_
        refine ⟨_, Wk.refl _ _, ?_⟩
        show awp _ _ _ _ _ _ _
        refine awp_block ?_
        refine awp_wk (Wk.U [(2, w25), (7, .pointer (some ⟨bt, 0, none⟩)), (16, .int .i64 0), (17, .bool true), (18, .int .i64 1)] ⟨rfl, rfl, rfl, rfl, rfl, trivial⟩) ?_
        refine awp_loop (fun (i : Nat) st => ∃ (H62 : AHeap), st = ⟨183, U [(2, w25), (7, .pointer (some ⟨bt, 0, none⟩)), (16, .int .i64 0), (17, .bool true), (18, .int .i64 ((i : Nat) : Int))], [], H62⟩ ∧ St H0 (none0) (Rd H0) H62 [(bt, .cells true [.slice (some ⟨bB, 0, none⟩) B.length B.length, .slice (some ⟨bC, 0, none⟩) C.length C.length] 2), (bC, .cells true (C.map u32v) 1), (bB, .cells true (B.map u32v) 1)] ∧ (1 ≤ i ∧ ∀ j, 1 ≤ j → j < i → j ∈ walkL B C (nth nm j))) (fun (i : Nat) => nm.length - i) (x0 := (1)) ?h0 ?round
        case h0 =>
          exact ⟨_, rfl, s27, ⟨Nat.le_refl _, fun j h1 h2 => by omega⟩⟩
        case round =>
          rintro i _ ⟨H62, rfl, s63, hi⟩
          refine awp_seq ?_
          refine awp_seq ?_
          refine awp_regs hF ?_
          refine dv (gyes_none rfl) (q_mv (v := .int .i64 ((i : Nat) : Int)) rfl) rfl (by decide) (cok1 trivial) ?_
          refine dv (gyes_none rfl) (q_mv (v := w25) rfl) rfl (by decide) (cok1 trivial) ?_
          refine dv (gyes_none rfl) (q_len_sl (l := nm) Try.underlying22 (s63.sl hw25) rfl) rfl (by decide) (cok1 trivial) ?_
          refine dvb (gyes_none rfl) (q_int rfl rfl rfl) rfl (by decide) (cok2 trivial trivial) (fun c6 => ?_) (fun c6 => ?_)
          ·
            replace c6 := of_decide_eq_true c6
            refine dv (gyes_none rfl) (q_mv (v := .bool true) rfl) rfl (by decide) (cok1 trivial) ?_
            refine dv (gyes_some rfl rfl) (q_mv (v := .int .i64 ((i : Nat) : Int)) rfl) rfl (by decide) (cok1 trivial) ?_
            refine dv (gyes_some rfl rfl) (q_field Try.underlying26 rfl Try.sizeOf24 rfl (s63.rd (j := 0) rfl)) rfl (by decide) (cok1 trivial) ?_
            refine dv (gyes_some rfl rfl) (q_load (v := .slice (some ⟨bC, 0, none⟩) C.length C.length) Try.isAgg24 rfl (s63.rd (j := 0) rfl) rfl) rfl (by decide) (cok1 trivial) ?_
            refine dv (gyes_some rfl rfl) (q_len_slice Try.underlying24 rfl (s63.rd (j := 1) rfl)) rfl (by decide) (cok1 trivial) ?_
            refine dvb (gyes_some rfl rfl) (q_int rfl rfl rfl) rfl (by decide) (cok2 trivial trivial) (fun c7 => ?_) (fun c7 => ?_)
            ·
              replace c7 := of_decide_eq_true c7
              have hil : i < nm.length := by omega
              have hnn : nth nm i ∈ nm := by rw [nth_eq hil]; exact List.getElem_mem hil
              have hwl := walk_len B C (nth nm i)
              refine dv (gyes_none rfl) (q_pt (v := .bool true) rfl rfl) rfl (by decide) (call_ok rfl) ?_
              refine ⟨_, Wk.refl _ _, ?_⟩
              show awp _ _ _ _ _ _ _
              refine awp_cond_t rfl ?_
              refine awp_skip_wk ?_
              refine ⟨_, Wk.refl _ _, ?_⟩
              show awp _ _ _ _ _ _ _
              refine awp_seq ?_
              refine awp_block ?_
              refine awp_seq ?_
              refine awp_regs hF ?_
              refine dv (gyes_none rfl) (q_as (v := .bool false) rfl) rfl (by decide) (cok1 (cconst rfl)) ?_
              refine ⟨_, Wk.refl _ _, ?_⟩
              show awp _ _ _ _ _ _ _
              refine awp_seq ?_
              refine awp_regt hF hM (by kernel_rfl) (by kernel_rfl) ?_
              refine dv (gyes_none rfl) (q_field Try.underlying26 rfl Try.sizeOf24 rfl (s63.rd (j := 0) rfl)) rfl (by decide) (cok1 trivial) ?_
              refine dv (gyes_none rfl) (q_load (v := .slice (some ⟨bB, 0, none⟩) B.length B.length) Try.isAgg24 rfl (s63.rd (j := 0) rfl) rfl) rfl (by decide) (cok1 trivial) ?_
              refine dv (gyes_none rfl) (q_field Try.underlying26 rfl Try.sizeOf24 rfl (s63.rd (j := 0) rfl)) rfl (by decide) (cok1 trivial) ?_
              refine dv (gyes_none rfl) (q_load (v := .slice (some ⟨bC, 0, none⟩) C.length C.length) Try.isAgg24 rfl (s63.rd (j := 0) rfl) rfl) rfl (by decide) (cok1 trivial) ?_
              refine dv (gyes_none rfl) (q_mv (v := w25) rfl) rfl (by decide) (cok1 trivial) ?_
              refine dv (gyes_none rfl) (q_mv (v := .int .i64 ((i : Nat) : Int)) rfl) rfl (by decide) (cok1 trivial) ?_
              refine dv (gyes_none rfl) (q_index_sl (l := nm) (i := i) Try.underlying22 Try.sizeOf9 (s63.sl hw25) rfl rfl (by omega)) rfl (by decide) (cok2 trivial trivial) ?_
              refine dv (gyes_none rfl) (q_load_sl (l := nm) (i := i) Try.isAgg9 (s63.sl hw25) rfl (by omega)) rfl (by decide) (cok1 trivial) ?_
              refine x_new (fun b => .slice (some ⟨b, 0, none⟩) (walkL B C (nth nm i)).length (walkL B C (nth nm i)).length) s63 (gyes_none rfl) (q_call (Δ := [.cells true ((walkL B C (nth nm i)).map i64v) 1]) Try.call11 rfl (by simp [AObj.wr]) (acalls_fresh i64v_sc (rwalk_ok (nth nm i) (hNs _ hnn) B C _ _ (s63.slj (j := 2) rfl (by first | rfl | (simp; done) | omega) (by first | exact Nat.le_refl _ | omega)) (s63.slj (j := 1) rfl (by first | rfl | (simp; done) | omega) (by first | exact Nat.le_refl _ | omega)) hB1 hBv hCv hC1))) rfl (by decide) (call_ok rfl) (fun b64 H65 hb67 s66 => ?_)
              refine dv (gyes_none rfl) (q_as (v := .slice (some ⟨b64, 0, none⟩) ((walkL B C (nth nm i)).length) ((walkL B C (nth nm i)).length)) rfl) rfl (by decide) (cok1 trivial) ?_
              refine ⟨_, Wk.refl _ _, ?_⟩
              show awp _ _ _ _ _ _ _
              refine awp_seq ?_
              refine awp_seq ?_
              refine awp_regs hF ?_
              refine dv (gyes_none rfl) (q_as (v := .int .i64 0) rfl) rfl (by decide) (cok1 (cconst rfl)) ?_
              refine ⟨_, Wk.refl _ _, ?_⟩
              show awp _ _ _ _ _ _ _
              refine awp_block ?_
              refine awp_wk (Wk.U [(2, w25), (7, .pointer (some ⟨bt, 0, none⟩)), (16, .int .i64 0), (17, .bool true), (18, .int .i64 ((i : Nat) : Int)), (19, .bool false), (20, .slice (some ⟨b64, 0, none⟩) ((walkL B C (nth nm i)).length) ((walkL B C (nth nm i)).length)), (21, .int .i64 0)] ⟨rfl, rfl, rfl, rfl, rfl, rfl, rfl, rfl, trivial⟩) ?_
              refine awp_loop (fun ((k, inn) : Nat × Bool) st => ∃ (H68 : AHeap), st = ⟨183, U [(2, w25), (7, .pointer (some ⟨bt, 0, none⟩)), (16, .int .i64 0), (17, .bool true), (18, .int .i64 ((i : Nat) : Int)), (19, .bool inn), (20, .slice (some ⟨b64, 0, none⟩) ((walkL B C (nth nm i)).length) ((walkL B C (nth nm i)).length)), (21, .int .i64 ((k : Nat) : Int))], [], H68⟩ ∧ St H0 (none0) (Rd H0) H68 [(b64, .cells true ((walkL B C (nth nm i)).map i64v) 1), (bt, .cells true [.slice (some ⟨bB, 0, none⟩) B.length B.length, .slice (some ⟨bC, 0, none⟩) C.length C.length] 2), (bC, .cells true (C.map u32v) 1), (bB, .cells true (B.map u32v) 1)] ∧ (k ≤ (walkL B C (nth nm i)).length ∧ inn = decide (i ∈ (walkL B C (nth nm i)).take k))) (fun ((k, inn) : Nat × Bool) => (walkL B C (nth nm i)).length - k) (x0 := (0, false)) ?h0 ?round
              case h0 =>
                exact ⟨_, rfl, s66, ⟨Nat.zero_le _, by simp⟩⟩
              case round =>
                rintro ⟨k, inn⟩ _ ⟨H68, rfl, s69, hk⟩
                dsimp only at *
                refine awp_seq ?_
                refine awp_seq ?_
                refine awp_regs hF ?_
                refine dv (gyes_none rfl) (q_mv (v := .int .i64 ((k : Nat) : Int)) rfl) rfl (by decide) (cok1 trivial) ?_
                refine dv (gyes_none rfl) (q_mv (v := .slice (some ⟨b64, 0, none⟩) ((walkL B C (nth nm i)).length) ((walkL B C (nth nm i)).length)) rfl) rfl (by decide) (cok1 trivial) ?_
                refine dv (gyes_none rfl) (q_len_slice Try.underlying29 rfl (s69.rd (j := 0) rfl)) rfl (by decide) (cok1 trivial) ?_
                refine dvb (gyes_none rfl) (q_int rfl rfl rfl) rfl (by decide) (cok2 trivial trivial) (fun c8 => ?_) (fun c8 => ?_)
                ·
                  replace c8 := of_decide_eq_true c8
                  have hkl : k < (walkL B C (nth nm i)).length := by omega
                  refine ⟨_, Wk.refl _ _, ?_⟩
                  show awp _ _ _ _ _ _ _
                  refine awp_cond_t rfl ?_
                  refine awp_skip_wk ?_
                  refine ⟨_, Wk.refl _ _, ?_⟩
                  show awp _ _ _ _ _ _ _
                  refine awp_seq ?_
                  refine awp_block ?_
                  refine awp_regs hF ?_
                  refine dvb (gyes_none rfl) (q_mv (v := .bool inn) rfl) rfl (by decide) (cok1 trivial) (fun c9 => ?_) (fun c9 => ?_)
                  ·
                    refine dv (gyes_none rfl) (q_mv (v := .bool true) rfl) rfl (by decide) (cok1 trivial) ?_
                    refine dno rfl (.inl rfl) rfl (by decide) ?_
                    refine dno rfl (.inl rfl) rfl (by decide) ?_
                    refine dno rfl (.inl rfl) rfl (by decide) ?_
                    refine dno rfl (.inl rfl) rfl (by decide) ?_
                    refine dno rfl (.inl rfl) rfl (by decide) ?_
                    refine dno rfl (.inl rfl) rfl (by decide) ?_
                    refine dv (gyes_none rfl) (q_pt (v := .bool true) rfl rfl) rfl (by decide) (call_ok rfl) ?_
                    refine dv (gyes_none rfl) (q_as (v := .bool true) rfl) rfl (by decide) (cok1 trivial) ?_
                    refine ⟨_, Wk.refl _ _, ?_⟩
                    show awp _ _ _ _ _ _ _
                    refine awp_regs hF ?_
                    refine dv (gyes_none rfl) (q_mv (v := .int .i64 ((k : Nat) : Int)) rfl) rfl (by decide) (cok1 trivial) ?_
                    refine dv (gyes_none rfl) (OpQ.cast (v' := .int .i64 ((k + 1 : Nat) : Int)) (q_int rfl rfl rfl) (congrArg _ ((i64_in (by omega)).trans (by first | rfl | omega | (push_cast; rfl))))) rfl (by decide) (cok2 trivial (cconst rfl)) ?_
                    refine dv (gyes_none rfl) (q_as (v := .int .i64 ((k + 1 : Nat) : Int)) rfl) rfl (by decide) (cok1 trivial) ?_
                    refine ⟨_, Wk.U [(2, w25), (7, .pointer (some ⟨bt, 0, none⟩)), (16, .int .i64 0), (17, .bool true), (18, .int .i64 ((i : Nat) : Int)), (19, .bool true), (20, .slice (some ⟨b64, 0, none⟩) ((walkL B C (nth nm i)).length) ((walkL B C (nth nm i)).length)), (21, .int .i64 (((k + 1) : Nat) : Int))] ⟨rfl, rfl, rfl, rfl, rfl, rfl, rfl, rfl, trivial⟩, ((k + 1), true), ⟨_, rfl, s69, ⟨by omega, by rw [in_take hkl, ← hk.2]; dsimp only; first | (rw [show inn = true by assumption]; rfl) | (rw [show inn = false by assumption]; first | exact (decide_eq_true (by omega)).symm | exact (decide_eq_false (by omega)).symm)⟩⟩, (by omega)⟩
                  ·
                    refine dv (gyes_none rfl) (q_mv (v := .bool false) rfl) rfl (by decide) (cok1 trivial) ?_
                    refine dv (gyes_some rfl rfl) (q_mv (v := .slice (some ⟨b64, 0, none⟩) ((walkL B C (nth nm i)).length) ((walkL B C (nth nm i)).length)) rfl) rfl (by decide) (cok1 trivial) ?_
                    refine dv (gyes_some rfl rfl) (q_mv (v := .int .i64 ((k : Nat) : Int)) rfl) rfl (by decide) (cok1 trivial) ?_
                    refine dv (gyes_some rfl rfl) (OpQ.cast (v' := .pointer (some ⟨b64, k, none⟩)) (q_index1 (i := k) Try.underlying29 Try.sizeOf3 rfl rfl (by omega) (s69.rd (j := 0) rfl)) (by rw [Nat.zero_add])) rfl (by decide) (cok2 trivial trivial) ?_
                    refine dv (gyes_some rfl rfl) (q_load (v := i64v (nth (walkL B C (nth nm i)) k)) Try.isAgg3 rfl (s69.rd (j := 0) rfl) (get_nth (w := 0) (by omega))) rfl (by decide) (cok1 trivial) ?_
                    refine dv (gyes_some rfl rfl) (q_mv (v := .int .i64 ((i : Nat) : Int)) rfl) rfl (by decide) (cok1 trivial) ?_
                    refine dvb (gyes_some rfl rfl) (q_int rfl rfl rfl) rfl (by decide) (cok2 trivial trivial) (fun c10 => ?_) (fun c10 => ?_)
                    ·
                      replace c10 := eq_of_beq c10
                      refine dv (gyes_none rfl) (q_pf (v := .bool true) rfl rfl) rfl (by decide) (call_ok rfl) ?_
                      refine dv (gyes_none rfl) (q_as (v := .bool true) rfl) rfl (by decide) (cok1 trivial) ?_
                      refine ⟨_, Wk.refl _ _, ?_⟩
                      show awp _ _ _ _ _ _ _
                      refine awp_regs hF ?_
                      refine dv (gyes_none rfl) (q_mv (v := .int .i64 ((k : Nat) : Int)) rfl) rfl (by decide) (cok1 trivial) ?_
                      refine dv (gyes_none rfl) (OpQ.cast (v' := .int .i64 ((k + 1 : Nat) : Int)) (q_int rfl rfl rfl) (congrArg _ ((i64_in (by omega)).trans (by first | rfl | omega | (push_cast; rfl))))) rfl (by decide) (cok2 trivial (cconst rfl)) ?_
                      refine dv (gyes_none rfl) (q_as (v := .int .i64 ((k + 1 : Nat) : Int)) rfl) rfl (by decide) (cok1 trivial) ?_
                      refine ⟨_, Wk.U [(2, w25), (7, .pointer (some ⟨bt, 0, none⟩)), (16, .int .i64 0), (17, .bool true), (18, .int .i64 ((i : Nat) : Int)), (19, .bool true), (20, .slice (some ⟨b64, 0, none⟩) ((walkL B C (nth nm i)).length) ((walkL B C (nth nm i)).length)), (21, .int .i64 (((k + 1) : Nat) : Int))] ⟨rfl, rfl, rfl, rfl, rfl, rfl, rfl, rfl, trivial⟩, ((k + 1), true), ⟨_, rfl, s69, ⟨by omega, by rw [in_take hkl, ← hk.2]; dsimp only; first | (rw [show inn = true by assumption]; rfl) | (rw [show inn = false by assumption]; first | exact (decide_eq_true (by omega)).symm | exact (decide_eq_false (by omega)).symm)⟩⟩, (by omega)⟩
                    ·
                      replace c10 := ne_of_beq_false c10
                      refine dv (gyes_none rfl) (q_pf (v := .bool false) rfl rfl) rfl (by decide) (call_ok rfl) ?_
                      refine dv (gyes_none rfl) (q_as (v := .bool false) rfl) rfl (by decide) (cok1 trivial) ?_
                      refine ⟨_, Wk.refl _ _, ?_⟩
                      show awp _ _ _ _ _ _ _
                      refine awp_regs hF ?_
                      refine dv (gyes_none rfl) (q_mv (v := .int .i64 ((k : Nat) : Int)) rfl) rfl (by decide) (cok1 trivial) ?_
                      refine dv (gyes_none rfl) (OpQ.cast (v' := .int .i64 ((k + 1 : Nat) : Int)) (q_int rfl rfl rfl) (congrArg _ ((i64_in (by omega)).trans (by first | rfl | omega | (push_cast; rfl))))) rfl (by decide) (cok2 trivial (cconst rfl)) ?_
                      refine dv (gyes_none rfl) (q_as (v := .int .i64 ((k + 1 : Nat) : Int)) rfl) rfl (by decide) (cok1 trivial) ?_
                      refine ⟨_, Wk.U [(2, w25), (7, .pointer (some ⟨bt, 0, none⟩)), (16, .int .i64 0), (17, .bool true), (18, .int .i64 ((i : Nat) : Int)), (19, .bool false), (20, .slice (some ⟨b64, 0, none⟩) ((walkL B C (nth nm i)).length) ((walkL B C (nth nm i)).length)), (21, .int .i64 (((k + 1) : Nat) : Int))] ⟨rfl, rfl, rfl, rfl, rfl, rfl, rfl, rfl, trivial⟩, ((k + 1), false), ⟨_, rfl, s69, ⟨by omega, by rw [in_take hkl, ← hk.2]; dsimp only; first | (rw [show inn = true by assumption]; rfl) | (rw [show inn = false by assumption]; first | exact (decide_eq_true (by omega)).symm | exact (decide_eq_false (by omega)).symm)⟩⟩, (by omega)⟩
                ·
                  replace c8 := of_decide_eq_false c8
                  refine ⟨_, Wk.refl _ _, ?_⟩
                  show awp _ _ _ _ _ _ _
                  refine awp_cond_f rfl ?_
                  refine awp_exit_wk ?_
                  refine ⟨_, Wk.refl _ _, ?_⟩
                  show awp _ _ _ _ _ _ _
                  refine awp_seq ?_
                  refine awp_regs hF ?_
                  refine dvb (gyes_none rfl) (q_mv (v := .bool inn) rfl) rfl (by decide) (cok1 trivial) (fun c11 => ?_) (fun c11 => ?_)
                  ·
                    have hin : i ∈ (walkL B C (nth nm i)) := by
                      have h1 := hk.2
                      rw [show k = (walkL B C (nth nm i)).length by omega, List.take_length] at h1
                      rw [h1] at c11; simpa only [decide_eq_true_eq, decide_eq_false_iff_not] using c11
                    refine dv (gyes_none rfl) (q_not (b := true) rfl) rfl (by decide) (cok1 trivial) ?_
                    refine ⟨_, Wk.refl _ _, ?_⟩
                    show awp _ _ _ _ _ _ _
                    refine awp_cond_f rfl ?_
                    refine awp_skip_wk ?_
                    refine ⟨_, Wk.refl _ _, ?_⟩
                    show awp _ _ _ _ _ _ _
                    refine awp_regs hF ?_
                    refine dv (gyes_none rfl) (q_mv (v := .int .i64 ((i : Nat) : Int)) rfl) rfl (by decide) (cok1 trivial) ?_
                    refine dv (gyes_none rfl) (OpQ.cast (v' := .int .i64 ((i + 1 : Nat) : Int)) (q_int rfl rfl rfl) (congrArg _ ((i64_in (by omega)).trans (by first | rfl | omega | (push_cast; rfl))))) rfl (by decide) (cok2 trivial (cconst rfl)) ?_
                    refine dv (gyes_none rfl) (q_as (v := .int .i64 ((i + 1 : Nat) : Int)) rfl) rfl (by decide) (cok1 trivial) ?_
                    have hnext : ∀ j, 1 ≤ j → j < i + 1 → j ∈ walkL B C (nth nm j) := fun j h1 h2 => by
                      by_cases e : j = i
                      · subst e; exact hin
                      · exact hi.2 j h1 (by omega)
                    refine ⟨_, Wk.U [(2, w25), (7, .pointer (some ⟨bt, 0, none⟩)), (16, .int .i64 0), (17, .bool true), (18, .int .i64 (((i + 1) : Nat) : Int))] ⟨rfl, rfl, rfl, rfl, rfl, trivial⟩, (i + 1), ⟨_, rfl, (s69.sub (.cons _ (.cons_cons _ (.cons_cons _ (.cons_cons _ (.refl _)))))), ⟨by omega, hnext⟩⟩, (by omega)⟩
                  ·
                    have hin : i ∉ (walkL B C (nth nm i)) := by
                      have h1 := hk.2
                      rw [show k = (walkL B C (nth nm i)).length by omega, List.take_length] at h1
                      rw [h1] at c11; simpa only [decide_eq_true_eq, decide_eq_false_iff_not] using c11
                    have ho2 : chkO B C nm = some i := chk_some (by omega) hi.1 hin hi.2
                    rw [ho2] at ho
                    cases ho
            ·
              replace c7 := of_decide_eq_false c7
              refine dv (gyes_none rfl) (q_pt (v := .bool false) rfl rfl) rfl (by decide) (call_ok rfl) ?_
              refine ⟨_, Wk.refl _ _, ?_⟩
              show awp _ _ _ _ _ _ _
              refine awp_cond_f rfl ?_
              refine awp_exit_wk ?_
              refine ⟨_, Wk.refl _ _, ?_⟩
              show awp _ _ _ _ _ _ _
              refine awp_seq ?_
              refine awp_regs hF ?_
              refine dv (gyes_none rfl) (q_mv (v := .bool true) rfl) rfl (by decide) (cok1 trivial) ?_
              refine dv (gyes_none rfl) (q_mv (v := .bool true) rfl) rfl (by decide) (cok1 trivial) ?_
              refine dv (gyes_some rfl rfl) (q_mv (v := .int .i64 0) rfl) rfl (by decide) (cok1 trivial) ?_
              refine dv (gyes_some rfl rfl) (OpQ.cast (v' := .bool true) (q_int rfl rfl rfl) (congrArg Value.bool (beq_self_eq_true _))) rfl (by decide) (cok2 trivial (cconst rfl)) ?_
              refine dv (gyes_none rfl) (q_pt (v := .bool true) rfl rfl) rfl (by decide) (call_ok rfl) ?_
              refine dv (gyes_none rfl) (q_as (v := .bool true) rfl) rfl (by decide) (cok1 trivial) ?_
              refine ⟨_, Wk.refl _ _, ?_⟩
              show awp _ _ _ _ _ _ _
              refine awp_ret_wk ?_
              refine ⟨_, Wk.refl _ _, ?_⟩
              repeat (with_reducible first | refine then_ret ?_ | refine blk_ret ?_ | refine then_exit ?_ | refine blk_exit ?_ | refine blk_exit' (by decide) ?_ | refine blk_normal ?_ | refine then_normal ?_ | refine retq_ret ?_ | refine retq_normal ?_ | refine ng_normal ?_ | refine ng_ret ?_ | refine ng_exit ?_)
              exact ret_none rfl s63.kp (.tmp rfl .nil) rfl rfl ⟨rfl, rfl⟩
          ·
            replace c6 := of_decide_eq_false c6
            refine dv (gyes_none rfl) (q_mv (v := .bool false) rfl) rfl (by decide) (cok1 trivial) ?_
            refine dno rfl (.inl rfl) rfl (by decide) ?_
            refine dno rfl (.inl rfl) rfl (by decide) ?_
            refine dno rfl (.inl rfl) rfl (by decide) ?_
            refine dno rfl (.inl rfl) rfl (by decide) ?_
            refine dno rfl (.inl rfl) rfl (by decide) ?_
            refine dv (gyes_none rfl) (q_pf (v := .bool false) rfl rfl) rfl (by decide) (call_ok rfl) ?_
            refine ⟨_, Wk.refl _ _, ?_⟩
            show awp _ _ _ _ _ _ _
            refine awp_cond_f rfl ?_
            refine awp_exit_wk ?_
            refine ⟨_, Wk.refl _ _, ?_⟩
            show awp _ _ _ _ _ _ _
            refine awp_seq ?_
            refine awp_regs hF ?_
            refine dv (gyes_none rfl) (q_mv (v := .bool true) rfl) rfl (by decide) (cok1 trivial) ?_
            refine dv (gyes_none rfl) (q_mv (v := .bool true) rfl) rfl (by decide) (cok1 trivial) ?_
            refine dv (gyes_some rfl rfl) (q_mv (v := .int .i64 0) rfl) rfl (by decide) (cok1 trivial) ?_
            refine dv (gyes_some rfl rfl) (OpQ.cast (v' := .bool true) (q_int rfl rfl rfl) (congrArg Value.bool (beq_self_eq_true _))) rfl (by decide) (cok2 trivial (cconst rfl)) ?_
            refine dv (gyes_none rfl) (q_pt (v := .bool true) rfl rfl) rfl (by decide) (call_ok rfl) ?_
            refine dv (gyes_none rfl) (q_as (v := .bool true) rfl) rfl (by decide) (cok1 trivial) ?_
            refine ⟨_, Wk.refl _ _, ?_⟩
            show awp _ _ _ _ _ _ _
            refine awp_ret_wk ?_
            refine ⟨_, Wk.refl _ _, ?_⟩
            repeat (with_reducible first | refine then_ret ?_ | refine blk_ret ?_ | refine then_exit ?_ | refine blk_exit ?_ | refine blk_exit' (by decide) ?_ | refine blk_normal ?_ | refine then_normal ?_ | refine retq_ret ?_ | refine retq_normal ?_ | refine ng_normal ?_ | refine ng_ret ?_ | refine ng_exit ?_)
            exact ret_none rfl s63.kp (.tmp rfl .nil) rfl rfl ⟨rfl, rfl⟩
      ·
        have hsome : o.isNone = false := c5
        refine dv (gyes_none rfl) (q_as (v := .int .i64 ((o.getD 0 : Nat) : Int)) rfl) rfl (by decide) (cok1 trivial) ?_
        refine dv (gyes_none rfl) (q_as (v := .bool false) rfl) rfl (by decide) (cok1 trivial) ?_
        refine ⟨_, Wk.refl _ _, ?_⟩
        show awp _ _ _ _ _ _ _
        refine awp_seq ?_
        refine awp_seq ?_
        refine awp_regs hF ?_
        refine dv (gyes_none rfl) (q_as (v := .int .i64 1) rfl) rfl (by decide) (cok1 (cconst rfl)) ?_
        refine ⟨_, Wk.refl _ _, ?_⟩
        show awp _ _ _ _ _ _ _
        refine awp_block ?_
        refine awp_wk (Wk.U [(2, w25), (7, .pointer (some ⟨bt, 0, none⟩)), (16, .int .i64 ((o.getD 0 : Nat) : Int)), (17, .bool false), (18, .int .i64 1)] ⟨rfl, rfl, rfl, rfl, rfl, trivial⟩) ?_
        refine awp_loop (fun (i : Nat) st => ∃ (H70 : AHeap), st = ⟨183, U [(2, w25), (7, .pointer (some ⟨bt, 0, none⟩)), (16, .int .i64 ((o.getD 0 : Nat) : Int)), (17, .bool false), (18, .int .i64 ((i : Nat) : Int))], [], H70⟩ ∧ St H0 (none0) (Rd H0) H70 [(bt, .cells true [.slice (some ⟨bB, 0, none⟩) B.length B.length, .slice (some ⟨bC, 0, none⟩) C.length C.length] 2), (bC, .cells true (C.map u32v) 1), (bB, .cells true (B.map u32v) 1)] ∧ (1 ≤ i ∧ ∀ j, 1 ≤ j → j < i → j ∈ walkL B C (nth nm j))) (fun (i : Nat) => nm.length - i) (x0 := (1)) ?h0 ?round
        case h0 =>
          exact ⟨_, rfl, s27, ⟨Nat.le_refl _, fun j h1 h2 => by omega⟩⟩
        case round =>
          rintro i _ ⟨H70, rfl, s71, hi⟩
          refine awp_seq ?_
          refine awp_seq ?_
          refine awp_regs hF ?_
          refine dv (gyes_none rfl) (q_mv (v := .int .i64 ((i : Nat) : Int)) rfl) rfl (by decide) (cok1 trivial) ?_
          refine dv (gyes_none rfl) (q_mv (v := w25) rfl) rfl (by decide) (cok1 trivial) ?_
          refine dv (gyes_none rfl) (q_len_sl (l := nm) Try.underlying22 (s71.sl hw25) rfl) rfl (by decide) (cok1 trivial) ?_
          refine dvb (gyes_none rfl) (q_int rfl rfl rfl) rfl (by decide) (cok2 trivial trivial) (fun c12 => ?_) (fun c12 => ?_)
          ·
            replace c12 := of_decide_eq_true c12
            refine dv (gyes_none rfl) (q_mv (v := .bool true) rfl) rfl (by decide) (cok1 trivial) ?_
            refine dv (gyes_some rfl rfl) (q_mv (v := .int .i64 ((i : Nat) : Int)) rfl) rfl (by decide) (cok1 trivial) ?_
            refine dv (gyes_some rfl rfl) (q_field Try.underlying26 rfl Try.sizeOf24 rfl (s71.rd (j := 0) rfl)) rfl (by decide) (cok1 trivial) ?_
            refine dv (gyes_some rfl rfl) (q_load (v := .slice (some ⟨bC, 0, none⟩) C.length C.length) Try.isAgg24 rfl (s71.rd (j := 0) rfl) rfl) rfl (by decide) (cok1 trivial) ?_
            refine dv (gyes_some rfl rfl) (q_len_slice Try.underlying24 rfl (s71.rd (j := 1) rfl)) rfl (by decide) (cok1 trivial) ?_
            refine dvb (gyes_some rfl rfl) (q_int rfl rfl rfl) rfl (by decide) (cok2 trivial trivial) (fun c13 => ?_) (fun c13 => ?_)
            ·
              replace c13 := of_decide_eq_true c13
              have hil : i < nm.length := by omega
              have hnn : nth nm i ∈ nm := by rw [nth_eq hil]; exact List.getElem_mem hil
              have hwl := walk_len B C (nth nm i)
              refine dv (gyes_none rfl) (q_pt (v := .bool true) rfl rfl) rfl (by decide) (call_ok rfl) ?_
              refine ⟨_, Wk.refl _ _, ?_⟩
              show awp _ _ _ _ _ _ _
              refine awp_cond_t rfl ?_
              refine awp_skip_wk ?_
              refine ⟨_, Wk.refl _ _, ?_⟩
              show awp _ _ _ _ _ _ _
              refine awp_seq ?_
              refine awp_block ?_
              refine awp_seq ?_
              refine awp_regs hF ?_
              refine dv (gyes_none rfl) (q_as (v := .bool false) rfl) rfl (by decide) (cok1 (cconst rfl)) ?_
              refine ⟨_, Wk.refl _ _, ?_⟩
              show awp _ _ _ _ _ _ _
              refine awp_seq ?_
              refine awp_regt hF hM (by kernel_rfl) (by kernel_rfl) ?_
              refine dv (gyes_none rfl) (q_field Try.underlying26 rfl Try.sizeOf24 rfl (s71.rd (j := 0) rfl)) rfl (by decide) (cok1 trivial) ?_
              refine dv (gyes_none rfl) (q_load (v := .slice (some ⟨bB, 0, none⟩) B.length B.length) Try.isAgg24 rfl (s71.rd (j := 0) rfl) rfl) rfl (by decide) (cok1 trivial) ?_
              refine dv (gyes_none rfl) (q_field Try.underlying26 rfl Try.sizeOf24 rfl (s71.rd (j := 0) rfl)) rfl (by decide) (cok1 trivial) ?_
              refine dv (gyes_none rfl) (q_load (v := .slice (some ⟨bC, 0, none⟩) C.length C.length) Try.isAgg24 rfl (s71.rd (j := 0) rfl) rfl) rfl (by decide) (cok1 trivial) ?_
              refine dv (gyes_none rfl) (q_mv (v := w25) rfl) rfl (by decide) (cok1 trivial) ?_
              refine dv (gyes_none rfl) (q_mv (v := .int .i64 ((i : Nat) : Int)) rfl) rfl (by decide) (cok1 trivial) ?_
              refine dv (gyes_none rfl) (q_index_sl (l := nm) (i := i) Try.underlying22 Try.sizeOf9 (s71.sl hw25) rfl rfl (by omega)) rfl (by decide) (cok2 trivial trivial) ?_
              refine dv (gyes_none rfl) (q_load_sl (l := nm) (i := i) Try.isAgg9 (s71.sl hw25) rfl (by omega)) rfl (by decide) (cok1 trivial) ?_
              refine x_new (fun b => .slice (some ⟨b, 0, none⟩) (walkL B C (nth nm i)).length (walkL B C (nth nm i)).length) s71 (gyes_none rfl) (q_call (Δ := [.cells true ((walkL B C (nth nm i)).map i64v) 1]) Try.call11 rfl (by simp [AObj.wr]) (acalls_fresh i64v_sc (rwalk_ok (nth nm i) (hNs _ hnn) B C _ _ (s71.slj (j := 2) rfl (by first | rfl | (simp; done) | omega) (by first | exact Nat.le_refl _ | omega)) (s71.slj (j := 1) rfl (by first | rfl | (simp; done) | omega) (by first | exact Nat.le_refl _ | omega)) hB1 hBv hCv hC1))) rfl (by decide) (call_ok rfl) (fun b72 H73 hb75 s74 => ?_)
              refine dv (gyes_none rfl) (q_as (v := .slice (some ⟨b72, 0, none⟩) ((walkL B C (nth nm i)).length) ((walkL B C (nth nm i)).length)) rfl) rfl (by decide) (cok1 trivial) ?_
              refine ⟨_, Wk.refl _ _, ?_⟩
              show awp _ _ _ _ _ _ _
              refine awp_seq ?_
              refine awp_seq ?_
              refine awp_regs hF ?_
              refine dv (gyes_none rfl) (q_as (v := .int .i64 0) rfl) rfl (by decide) (cok1 (cconst rfl)) ?_
              refine ⟨_, Wk.refl _ _, ?_⟩
              show awp _ _ _ _ _ _ _
              refine awp_block ?_
              refine awp_wk (Wk.U [(2, w25), (7, .pointer (some ⟨bt, 0, none⟩)), (16, .int .i64 ((o.getD 0 : Nat) : Int)), (17, .bool false), (18, .int .i64 ((i : Nat) : Int)), (19, .bool false), (20, .slice (some ⟨b72, 0, none⟩) ((walkL B C (nth nm i)).length) ((walkL B C (nth nm i)).length)), (21, .int .i64 0)] ⟨rfl, rfl, rfl, rfl, rfl, rfl, rfl, rfl, trivial⟩) ?_
              refine awp_loop (fun ((k, inn) : Nat × Bool) st => ∃ (H76 : AHeap), st = ⟨183, U [(2, w25), (7, .pointer (some ⟨bt, 0, none⟩)), (16, .int .i64 ((o.getD 0 : Nat) : Int)), (17, .bool false), (18, .int .i64 ((i : Nat) : Int)), (19, .bool inn), (20, .slice (some ⟨b72, 0, none⟩) ((walkL B C (nth nm i)).length) ((walkL B C (nth nm i)).length)), (21, .int .i64 ((k : Nat) : Int))], [], H76⟩ ∧ St H0 (none0) (Rd H0) H76 [(b72, .cells true ((walkL B C (nth nm i)).map i64v) 1), (bt, .cells true [.slice (some ⟨bB, 0, none⟩) B.length B.length, .slice (some ⟨bC, 0, none⟩) C.length C.length] 2), (bC, .cells true (C.map u32v) 1), (bB, .cells true (B.map u32v) 1)] ∧ (k ≤ (walkL B C (nth nm i)).length ∧ inn = decide (i ∈ (walkL B C (nth nm i)).take k))) (fun ((k, inn) : Nat × Bool) => (walkL B C (nth nm i)).length - k) (x0 := (0, false)) ?h0 ?round
              case h0 =>
                exact ⟨_, rfl, s74, ⟨Nat.zero_le _, by simp⟩⟩
              case round =>
                rintro ⟨k, inn⟩ _ ⟨H76, rfl, s77, hk⟩
                dsimp only at *
                refine awp_seq ?_
                refine awp_seq ?_
                refine awp_regs hF ?_
                refine dv (gyes_none rfl) (q_mv (v := .int .i64 ((k : Nat) : Int)) rfl) rfl (by decide) (cok1 trivial) ?_
                refine dv (gyes_none rfl) (q_mv (v := .slice (some ⟨b72, 0, none⟩) ((walkL B C (nth nm i)).length) ((walkL B C (nth nm i)).length)) rfl) rfl (by decide) (cok1 trivial) ?_
                refine dv (gyes_none rfl) (q_len_slice Try.underlying29 rfl (s77.rd (j := 0) rfl)) rfl (by decide) (cok1 trivial) ?_
                refine dvb (gyes_none rfl) (q_int rfl rfl rfl) rfl (by decide) (cok2 trivial trivial) (fun c14 => ?_) (fun c14 => ?_)
                ·
                  replace c14 := of_decide_eq_true c14
                  have hkl : k < (walkL B C (nth nm i)).length := by omega
                  refine ⟨_, Wk.refl _ _, ?_⟩
                  show awp _ _ _ _ _ _ _
                  refine awp_cond_t rfl ?_
                  refine awp_skip_wk ?_
                  refine ⟨_, Wk.refl _ _, ?_⟩
                  show awp _ _ _ _ _ _ _
                  refine awp_seq ?_
                  refine awp_block ?_
                  refine awp_regs hF ?_
                  refine dvb (gyes_none rfl) (q_mv (v := .bool inn) rfl) rfl (by decide) (cok1 trivial) (fun c15 => ?_) (fun c15 => ?_)
                  ·
                    refine dv (gyes_none rfl) (q_mv (v := .bool true) rfl) rfl (by decide) (cok1 trivial) ?_
                    refine dno rfl (.inl rfl) rfl (by decide) ?_
                    refine dno rfl (.inl rfl) rfl (by decide) ?_
                    refine dno rfl (.inl rfl) rfl (by decide) ?_
                    refine dno rfl (.inl rfl) rfl (by decide) ?_
                    refine dno rfl (.inl rfl) rfl (by decide) ?_
                    refine dno rfl (.inl rfl) rfl (by decide) ?_
                    refine dv (gyes_none rfl) (q_pt (v := .bool true) rfl rfl) rfl (by decide) (call_ok rfl) ?_
                    refine dv (gyes_none rfl) (q_as (v := .bool true) rfl) rfl (by decide) (cok1 trivial) ?_
                    refine ⟨_, Wk.refl _ _, ?_⟩
                    show awp _ _ _ _ _ _ _
                    refine awp_regs hF ?_
                    refine dv (gyes_none rfl) (q_mv (v := .int .i64 ((k : Nat) : Int)) rfl) rfl (by decide) (cok1 trivial) ?_
                    refine dv (gyes_none rfl) (OpQ.cast (v' := .int .i64 ((k + 1 : Nat) : Int)) (q_int rfl rfl rfl) (congrArg _ ((i64_in (by omega)).trans (by first | rfl | omega | (push_cast; rfl))))) rfl (by decide) (cok2 trivial (cconst rfl)) ?_
                    refine dv (gyes_none rfl) (q_as (v := .int .i64 ((k + 1 : Nat) : Int)) rfl) rfl (by decide) (cok1 trivial) ?_
                    refine ⟨_, Wk.U [(2, w25), (7, .pointer (some ⟨bt, 0, none⟩)), (16, .int .i64 ((o.getD 0 : Nat) : Int)), (17, .bool false), (18, .int .i64 ((i : Nat) : Int)), (19, .bool true), (20, .slice (some ⟨b72, 0, none⟩) ((walkL B C (nth nm i)).length) ((walkL B C (nth nm i)).length)), (21, .int .i64 (((k + 1) : Nat) : Int))] ⟨rfl, rfl, rfl, rfl, rfl, rfl, rfl, rfl, trivial⟩, ((k + 1), true), ⟨_, rfl, s77, ⟨by omega, by rw [in_take hkl, ← hk.2]; dsimp only; first | (rw [show inn = true by assumption]; rfl) | (rw [show inn = false by assumption]; first | exact (decide_eq_true (by omega)).symm | exact (decide_eq_false (by omega)).symm)⟩⟩, (by omega)⟩
                  ·
                    refine dv (gyes_none rfl) (q_mv (v := .bool false) rfl) rfl (by decide) (cok1 trivial) ?_
                    refine dv (gyes_some rfl rfl) (q_mv (v := .slice (some ⟨b72, 0, none⟩) ((walkL B C (nth nm i)).length) ((walkL B C (nth nm i)).length)) rfl) rfl (by decide) (cok1 trivial) ?_
                    refine dv (gyes_some rfl rfl) (q_mv (v := .int .i64 ((k : Nat) : Int)) rfl) rfl (by decide) (cok1 trivial) ?_
                    refine dv (gyes_some rfl rfl) (OpQ.cast (v' := .pointer (some ⟨b72, k, none⟩)) (q_index1 (i := k) Try.underlying29 Try.sizeOf3 rfl rfl (by omega) (s77.rd (j := 0) rfl)) (by rw [Nat.zero_add])) rfl (by decide) (cok2 trivial trivial) ?_
                    refine dv (gyes_some rfl rfl) (q_load (v := i64v (nth (walkL B C (nth nm i)) k)) Try.isAgg3 rfl (s77.rd (j := 0) rfl) (get_nth (w := 0) (by omega))) rfl (by decide) (cok1 trivial) ?_
                    refine dv (gyes_some rfl rfl) (q_mv (v := .int .i64 ((i : Nat) : Int)) rfl) rfl (by decide) (cok1 trivial) ?_
                    refine dvb (gyes_some rfl rfl) (q_int rfl rfl rfl) rfl (by decide) (cok2 trivial trivial) (fun c16 => ?_) (fun c16 => ?_)
                    ·
                      replace c16 := eq_of_beq c16
                      refine dv (gyes_none rfl) (q_pf (v := .bool true) rfl rfl) rfl (by decide) (call_ok rfl) ?_
                      refine dv (gyes_none rfl) (q_as (v := .bool true) rfl) rfl (by decide) (cok1 trivial) ?_
                      refine ⟨_, Wk.refl _ _, ?_⟩
                      show awp _ _ _ _ _ _ _
                      refine awp_regs hF ?_
                      refine dv (gyes_none rfl) (q_mv (v := .int .i64 ((k : Nat) : Int)) rfl) rfl (by decide) (cok1 trivial) ?_
                      refine dv (gyes_none rfl) (OpQ.cast (v' := .int .i64 ((k + 1 : Nat) : Int)) (q_int rfl rfl rfl) (congrArg _ ((i64_in (by omega)).trans (by first | rfl | omega | (push_cast; rfl))))) rfl (by decide) (cok2 trivial (cconst rfl)) ?_
                      refine dv (gyes_none rfl) (q_as (v := .int .i64 ((k + 1 : Nat) : Int)) rfl) rfl (by decide) (cok1 trivial) ?_
                      refine ⟨_, Wk.U [(2, w25), (7, .pointer (some ⟨bt, 0, none⟩)), (16, .int .i64 ((o.getD 0 : Nat) : Int)), (17, .bool false), (18, .int .i64 ((i : Nat) : Int)), (19, .bool true), (20, .slice (some ⟨b72, 0, none⟩) ((walkL B C (nth nm i)).length) ((walkL B C (nth nm i)).length)), (21, .int .i64 (((k + 1) : Nat) : Int))] ⟨rfl, rfl, rfl, rfl, rfl, rfl, rfl, rfl, trivial⟩, ((k + 1), true), ⟨_, rfl, s77, ⟨by omega, by rw [in_take hkl, ← hk.2]; dsimp only; first | (rw [show inn = true by assumption]; rfl) | (rw [show inn = false by assumption]; first | exact (decide_eq_true (by omega)).symm | exact (decide_eq_false (by omega)).symm)⟩⟩, (by omega)⟩
                    ·
                      replace c16 := ne_of_beq_false c16
                      refine dv (gyes_none rfl) (q_pf (v := .bool false) rfl rfl) rfl (by decide) (call_ok rfl) ?_
                      refine dv (gyes_none rfl) (q_as (v := .bool false) rfl) rfl (by decide) (cok1 trivial) ?_
                      refine ⟨_, Wk.refl _ _, ?_⟩
                      show awp _ _ _ _ _ _ _
                      refine awp_regs hF ?_
                      refine dv (gyes_none rfl) (q_mv (v := .int .i64 ((k : Nat) : Int)) rfl) rfl (by decide) (cok1 trivial) ?_
                      refine dv (gyes_none rfl) (OpQ.cast (v' := .int .i64 ((k + 1 : Nat) : Int)) (q_int rfl rfl rfl) (congrArg _ ((i64_in (by omega)).trans (by first | rfl | omega | (push_cast; rfl))))) rfl (by decide) (cok2 trivial (cconst rfl)) ?_
                      refine dv (gyes_none rfl) (q_as (v := .int .i64 ((k + 1 : Nat) : Int)) rfl) rfl (by decide) (cok1 trivial) ?_
                      refine ⟨_, Wk.U [(2, w25), (7, .pointer (some ⟨bt, 0, none⟩)), (16, .int .i64 ((o.getD 0 : Nat) : Int)), (17, .bool false), (18, .int .i64 ((i : Nat) : Int)), (19, .bool false), (20, .slice (some ⟨b72, 0, none⟩) ((walkL B C (nth nm i)).length) ((walkL B C (nth nm i)).length)), (21, .int .i64 (((k + 1) : Nat) : Int))] ⟨rfl, rfl, rfl, rfl, rfl, rfl, rfl, rfl, trivial⟩, ((k + 1), false), ⟨_, rfl, s77, ⟨by omega, by rw [in_take hkl, ← hk.2]; dsimp only; first | (rw [show inn = true by assumption]; rfl) | (rw [show inn = false by assumption]; first | exact (decide_eq_true (by omega)).symm | exact (decide_eq_false (by omega)).symm)⟩⟩, (by omega)⟩
                ·
                  replace c14 := of_decide_eq_false c14
                  refine ⟨_, Wk.refl _ _, ?_⟩
                  show awp _ _ _ _ _ _ _
                  refine awp_cond_f rfl ?_
                  refine awp_exit_wk ?_
                  refine ⟨_, Wk.refl _ _, ?_⟩
                  show awp _ _ _ _ _ _ _
                  refine awp_seq ?_
                  refine awp_regs hF ?_
                  refine dvb (gyes_none rfl) (q_mv (v := .bool inn) rfl) rfl (by decide) (cok1 trivial) (fun c17 => ?_) (fun c17 => ?_)
                  ·
                    have hin : i ∈ (walkL B C (nth nm i)) := by
                      have h1 := hk.2
                      rw [show k = (walkL B C (nth nm i)).length by omega, List.take_length] at h1
                      rw [h1] at c17; simpa only [decide_eq_true_eq, decide_eq_false_iff_not] using c17
                    refine dv (gyes_none rfl) (q_not (b := true) rfl) rfl (by decide) (cok1 trivial) ?_
                    refine ⟨_, Wk.refl _ _, ?_⟩
                    show awp _ _ _ _ _ _ _
                    refine awp_cond_f rfl ?_
                    refine awp_skip_wk ?_
                    refine ⟨_, Wk.refl _ _, ?_⟩
                    show awp _ _ _ _ _ _ _
                    refine awp_regs hF ?_
                    refine dv (gyes_none rfl) (q_mv (v := .int .i64 ((i : Nat) : Int)) rfl) rfl (by decide) (cok1 trivial) ?_
                    refine dv (gyes_none rfl) (OpQ.cast (v' := .int .i64 ((i + 1 : Nat) : Int)) (q_int rfl rfl rfl) (congrArg _ ((i64_in (by omega)).trans (by first | rfl | omega | (push_cast; rfl))))) rfl (by decide) (cok2 trivial (cconst rfl)) ?_
                    refine dv (gyes_none rfl) (q_as (v := .int .i64 ((i + 1 : Nat) : Int)) rfl) rfl (by decide) (cok1 trivial) ?_
                    have hnext : ∀ j, 1 ≤ j → j < i + 1 → j ∈ walkL B C (nth nm j) := fun j h1 h2 => by
                      by_cases e : j = i
                      · subst e; exact hin
                      · exact hi.2 j h1 (by omega)
                    refine ⟨_, Wk.U [(2, w25), (7, .pointer (some ⟨bt, 0, none⟩)), (16, .int .i64 ((o.getD 0 : Nat) : Int)), (17, .bool false), (18, .int .i64 (((i + 1) : Nat) : Int))] ⟨rfl, rfl, rfl, rfl, rfl, trivial⟩, (i + 1), ⟨_, rfl, (s77.sub (.cons _ (.cons_cons _ (.cons_cons _ (.cons_cons _ (.refl _)))))), ⟨by omega, hnext⟩⟩, (by omega)⟩
                  ·
                    have hin : i ∉ (walkL B C (nth nm i)) := by
                      have h1 := hk.2
                      rw [show k = (walkL B C (nth nm i)).length by omega, List.take_length] at h1
                      rw [h1] at c17; simpa only [decide_eq_true_eq, decide_eq_false_iff_not] using c17
                    have ho2 : chkO B C nm = some i := chk_some (by omega) hi.1 hin hi.2
                    rw [ho2] at ho
                    subst ho
                    refine dv (gyes_none rfl) (q_not (b := false) rfl) rfl (by decide) (cok1 trivial) ?_
                    refine ⟨_, Wk.refl _ _, ?_⟩
                    show awp _ _ _ _ _ _ _
                    refine awp_cond_t rfl ?_
                    refine awp_seq ?_
                    refine awp_regs hF ?_
                    refine dv (gyes_none rfl) (q_mv (v := .bool false) rfl) rfl (by decide) (cok1 trivial) ?_
                    refine dv (gyes_none rfl) (q_not (b := false) rfl) rfl (by decide) (cok1 trivial) ?_
                    refine dv (gyes_none rfl) (q_mv (v := .bool true) rfl) rfl (by decide) (cok1 trivial) ?_
                    refine dv (gyes_some rfl rfl) (q_mv (v := .int .i64 ((i : Nat) : Int)) rfl) rfl (by decide) (cok1 trivial) ?_
                    refine dv (gyes_some rfl rfl) (q_mv (v := .int .i64 ((i : Nat) : Int)) rfl) rfl (by decide) (cok1 trivial) ?_
                    refine dv (gyes_some rfl rfl) (OpQ.cast (v' := .bool true) (q_int rfl rfl rfl) (congrArg Value.bool (beq_self_eq_true _))) rfl (by decide) (cok2 trivial trivial) ?_
                    refine dv (gyes_none rfl) (q_pt (v := .bool true) rfl rfl) rfl (by decide) (call_ok rfl) ?_
                    refine dv (gyes_none rfl) (q_as (v := .bool true) rfl) rfl (by decide) (cok1 trivial) ?_
                    refine ⟨_, Wk.refl _ _, ?_⟩
                    show awp _ _ _ _ _ _ _
                    refine awp_ret_wk ?_
                    refine ⟨_, Wk.refl _ _, ?_⟩
                    repeat (with_reducible first | refine then_ret ?_ | refine blk_ret ?_ | refine then_exit ?_ | refine blk_exit ?_ | refine blk_exit' (by decide) ?_ | refine blk_normal ?_ | refine then_normal ?_ | refine retq_ret ?_ | refine retq_normal ?_ | refine ng_normal ?_ | refine ng_ret ?_ | refine ng_exit ?_)
                    exact ret_none rfl s77.kp (.tmp rfl .nil) rfl rfl ⟨rfl, rfl⟩
            ·
              replace c13 := of_decide_eq_false c13
              have ho2 : chkO B C nm = none := chk_none (by omega) hi.2
              rw [ho2] at ho
              subst ho
              cases hsome
          ·
            replace c12 := of_decide_eq_false c12
            have ho2 : chkO B C nm = none := chk_none (by omega) hi.2
            rw [ho2] at ho
            subst ho
            cases hsome

end Go.Proofs.YtmoldjiooccppaaA
