/-
  Walks of functions of the given program, and what they compute.
-/
import Derived.Test.YtbjlabokijchpaaO9
import Derived.Test.YtbjlabokijchpaaProg
import Derived.KernelRfl
namespace Go.Proofs.YtbjlabokijchpaaA
set_option linter.unusedVariables false
open Go Go.RowKit Go.Shelf Go.Proofs
theorem St.rebase {H0 H H' : AHeap} {Z : Rs} (h : St H0 none0 Z H []) (k : K0 H H') : St H0 none0 (Rd H') H' [] := ⟨h.kp.trans k, .nil, fun _ h => (by cases h), fun _ h => (by cases h), fun b vs sz h => ⟨h, fun _ h => (by cases h)⟩⟩
theorem first_ok {H0 : AHeap} (e : List (List Int)) (vE : Value) (hE : Sl2Z intv (Rd H0) vE e) (hr : Sized e) (l : List Int) (vL : Value) (hL : Sl intv H0 vL l) (hl : l.length ≤ 1000000) : ACalls Try.prog 10 [vE, vL] H0 (Fresh intv (firstL e l) H0) := first0_ok e vE hE hr l vL hL hl _ rfl
theorem rfirst_ok {H0 : AHeap} (e : List (List Int)) (vE : Value) (hE : Sl2Z intv (Rd H0) vE e) (hr : Sized e) (l : List Int) (vL : Value) (hL : Sl intv H0 vL l) (hl : l.length ≤ 1000000) : ACalls Try.prog 11 [vE, vL] H0 (Fresh intv (firstL e l) H0) := rfirst0_ok e vE hE hr l vL hL hl _ rfl
theorem firstL_len (e : List (List Int)) (l : List Int) : (firstL e l).length ≤ l.length := by rw [firstL, fin_len]; exact onceL_len e l
theorem sl2_three {f : Int → Value} {H : AHeap} {b : Nat} {u1 u2 u3 : Value} {l1 l2 l3 : List Int} (hR : Rd H b [u1, u2, u3] 1) (h1 : Sl f H u1 l1) (h2 : Sl f H u2 l2) (h3 : Sl f H u3 l3) : Sl2Z f (Rd H) (.slice (some ⟨b, 0, none⟩) 3 3) [l1, l2, l3] :=
  .inr ⟨b, 0, 3, _, rfl, hR, by simp, by simp, fun i hi => match i, hi with
    | 0, _ => ⟨u1, rfl, h1⟩
    | 1, _ => ⟨u2, rfl, h2⟩
    | 2, _ => ⟨u3, rfl, h3⟩⟩
theorem row0 {x y : Int} (hx : 0 ≤ x) (h : y ∈ row [[1], [2], []] x) : y = x + 1 := by
  unfold row nth at h
  obtain ⟨n, rfl⟩ := Int.eq_ofNat_of_zero_le hx
  rw [show ((n : Nat) : Int).toNat = n from rfl] at h
  match n, h with
  | 0, h => simpa using h
  | 1, h => simpa using h
  | 2, h => simp at h
  | n + 3, h => exact absurd h (List.not_mem_nil (a := y))
theorem rch0_lt {a b : Int} (ha : 0 ≤ a) (h : Rch [[1], [2], []] [0, 1, 2] a b) : a < b := by
  have := h.closed (S := fun z => a < z) (fun y hy _ => by have := row0 ha hy; omega) (fun x hx y hy _ => by have := row0 (by omega) hy; omega)
  exact this
theorem first_speaks : firstL [[1], [2], []] [0, 1, 2] = [2, 1, 0] := by
  have h0 : onceL [[1], [2], []] [0, 1, 2] = [0, 1, 2] := by decide
  have r01 : rch [[1], [2], []] [0, 1, 2] 0 1 = true := rch_iff.2 (.one (by simp [row, nth]) (by simp))
  have r12 : rch [[1], [2], []] [0, 1, 2] 1 2 = true := rch_iff.2 (.one (by simp [row, nth]) (by simp))
  have r02 : rch [[1], [2], []] [0, 1, 2] 0 2 = true := rch_iff.2 ((rch_iff.1 r01).trans (rch_iff.1 r12))
  have rn : ∀ a b : Int, 0 ≤ a → b ≤ a → rch [[1], [2], []] [0, 1, 2] a b = false := fun a b ha hb => rch_no.2 fun h => by have := rch0_lt ha h; omega
  have r10 := rn 1 0 (by decide) (by decide)
  have r20 := rn 2 0 (by decide) (by decide)
  have r21 := rn 2 1 (by decide) (by decide)
  have p1 : pick [[1], [2], []] [0, 1, 2] [0, 1, 2] = 2 := by simp [pick, ok', nx, r01, r12, r02, r10, r20, r21]
  have p2 : pick [[1], [2], []] [0, 1, 2] [0, 1] = 1 := by simp [pick, ok', nx, r01, r12, r02, r10, r20, r21]
  have p3 : pick [[1], [2], []] [0, 1, 2] [0] = 0 := by simp [pick, ok', nx]
  rw [firstL, h0]
  show fin _ _ 3 [0, 1, 2] = _
  rw [fin, p1, show without [0, 1, 2] 2 = [0, 1] by decide, fin, p2, show without [0, 1] 1 = [0] by decide, fin, p3, fin]
set_option maxRecDepth 100000 in
set_option maxHeartbeats 4000000 in
theorem speaks_ok {H0 : AHeap}  : ACalls Try.prog 7 [] H0 (Rets (.bool true) H0) := by
  have hF : Wd Fence.wide := .inl rfl
  have hM : Try.prog.follows .mixedOrders = true := by kernel_rfl
  have s0 := St.begin H0
  refine acalls_st Try.func7 rfl Try.ntmps7 rfl ?_
  refine awp_seq ?_
  refine awp_regs hF ?_
  refine dv (gyes_none rfl) (q_as (v := .bool false) rfl) rfl (by decide) (cok1 (cconst rfl)) ?_
  refine ⟨_, Wk.refl _ _, ?_⟩
  show awp _ _ _ _ _ _ _
  refine awp_seq ?_
  refine awp_regs hF ?_
  refine x_new (fun b => .slice (some ⟨b, 0, none⟩) 1 1) s0 (gyes_none rfl) (q_buildSliceL (ds := [.int .i64 1]) [.int .i64 1] rfl Try.underlying23 Try.sizeOf3 Try.zeroValue3 rfl (by decide) (by decide) ⟨rfl, trivial⟩ (lvsC (by exact trivial) lvs0) rfl rfl) rfl (by decide) (cok1 (cconst rfl)) (fun b1 H2 hb4 s3 => ?_)
  refine x_new (fun b => .slice (some ⟨b, 0, none⟩) 1 1) s3 (gyes_none rfl) (q_buildSliceL (ds := [.int .i64 2]) [.int .i64 2] rfl Try.underlying23 Try.sizeOf3 Try.zeroValue3 rfl (by decide) (by decide) ⟨rfl, trivial⟩ (lvsC (by exact trivial) lvs0) rfl rfl) rfl (by decide) (cok1 (cconst rfl)) (fun b5 H6 hb8 s7 => ?_)
  refine x_new (fun b => .slice (some ⟨b, 0, none⟩) 3 3) s7 (gyes_none rfl) (q_buildSliceL (ds := [.slice (some ⟨b1, 0, none⟩) 1 1, .slice (some ⟨b5, 0, none⟩) 1 1, .slice none 0 0]) [.slice (some ⟨b1, 0, none⟩) 1 1, .slice (some ⟨b5, 0, none⟩) 1 1, .slice none 0 0] rfl Try.underlying25 Try.sizeOf23 Try.zeroValue23 rfl (by decide) (by decide) ⟨rfl, rfl, rfl, trivial⟩ (lvsC (s7.live (j := 1) rfl) (lvsC (s7.live (j := 0) rfl) (lvsC (by exact trivial) lvs0))) rfl rfl) rfl (by decide) (call_ok rfl) (fun b9 H10 hb12 s11 => ?_)
  refine x_new (fun b => .slice (some ⟨b, 0, none⟩) 3 3) s11 (gyes_none rfl) (q_buildSliceL (ds := [.int .i64 0, .int .i64 1, .int .i64 2]) [.int .i64 0, .int .i64 1, .int .i64 2] rfl Try.underlying23 Try.sizeOf3 Try.zeroValue3 rfl (by decide) (by decide) ⟨rfl, rfl, rfl, trivial⟩ (lvsC (by exact trivial) (lvsC (by exact trivial) (lvsC (by exact trivial) lvs0))) rfl rfl) rfl (by decide) (call_ok rfl) (fun b13 H14 hb16 s15 => ?_)
  refine x_new (fun b => .slice (some ⟨b, 0, none⟩) ([2, 1, 0]).length ([2, 1, 0]).length) s15 (gyes_none rfl) (q_call (Δ := [.cells true (([2, 1, 0]).map intv) 1]) Try.call10 rfl (by simp [AObj.wr]) (acalls_fresh intv_sc (first_speaks ▸ first_ok [[1], [2], []] _ (sl2_three (s15.rd (j := 1) rfl) (s15.slj (l := [1]) (f := intv) (j := 3) rfl rfl (Nat.le_refl _)) (s15.slj (l := [2]) (f := intv) (j := 2) rfl rfl (Nat.le_refl _)) (.inl ⟨rfl, rfl⟩)) ⟨by simp, by intro r hr; simp at hr; rcases hr with rfl | rfl | rfl <;> simp⟩ [0, 1, 2] _ (s15.slj (l := [0, 1, 2]) (f := intv) (j := 0) rfl rfl (Nat.le_refl _)) (by simp)))) rfl (by decide) (call_ok rfl) (fun b17 H18 hb20 s19 => ?_)
  refine dv (gyes_none rfl) (q_as (v := .slice (some ⟨b17, 0, none⟩) (([2, 1, 0]).length) (([2, 1, 0]).length)) rfl) rfl (by decide) (cok1 trivial) ?_
  refine ⟨_, Wk.refl _ _, ?_⟩
  show awp _ _ _ _ _ _ _
  refine awp_seq ?_
  refine awp_regs hF ?_
  refine dv (gyes_none rfl) (q_mv (v := .slice (some ⟨b17, 0, none⟩) (([2, 1, 0]).length) (([2, 1, 0]).length)) rfl) rfl (by decide) (cok1 trivial) ?_
  refine dv (gyes_none rfl) (q_len_slice Try.underlying23 rfl (s19.rd (j := 0) rfl)) rfl (by decide) (cok1 trivial) ?_
  refine dv (gyes_none rfl) (OpQ.cast (v' := .bool true) (q_int rfl rfl rfl) (congrArg Value.bool rfl)) rfl (by decide) (cok2 trivial (cconst rfl)) ?_
  refine dv (gyes_none rfl) (q_mv (v := .bool true) rfl) rfl (by decide) (cok1 trivial) ?_
  refine dv (gyes_some rfl rfl) (q_mv (v := .slice (some ⟨b17, 0, none⟩) (([2, 1, 0]).length) (([2, 1, 0]).length)) rfl) rfl (by decide) (cok1 trivial) ?_
  refine dv (gyes_some rfl rfl) (OpQ.cast (v' := .pointer (some ⟨b17, 0, none⟩)) (q_index1 (i := 0) Try.underlying23 Try.sizeOf3 rfl rfl (by decide) (s19.rd (j := 0) rfl)) (by rw [Nat.zero_add])) rfl (by decide) (cok2 trivial (cconst rfl)) ?_
  refine dv (gyes_some rfl rfl) (q_load (v := intv (nth ([2, 1, 0]) 0)) Try.isAgg3 rfl (s19.rd (j := 0) rfl) (get_nth (w := 0) (by decide))) rfl (by decide) (cok1 trivial) ?_
  refine dv (gyes_some rfl rfl) (OpQ.cast (v' := .bool true) (q_int rfl rfl rfl) (congrArg Value.bool rfl)) rfl (by decide) (cok2 trivial (cconst rfl)) ?_
  refine dv (gyes_none rfl) (q_pt (v := .bool true) rfl rfl) rfl (by decide) (call_ok rfl) ?_
  refine dv (gyes_none rfl) (q_mv (v := .bool true) rfl) rfl (by decide) (cok1 trivial) ?_
  refine dv (gyes_some rfl rfl) (q_mv (v := .slice (some ⟨b17, 0, none⟩) (([2, 1, 0]).length) (([2, 1, 0]).length)) rfl) rfl (by decide) (cok1 trivial) ?_
  refine dv (gyes_some rfl rfl) (OpQ.cast (v' := .pointer (some ⟨b17, 2, none⟩)) (q_index1 (i := 2) Try.underlying23 Try.sizeOf3 rfl rfl (by decide) (s19.rd (j := 0) rfl)) (by rw [Nat.zero_add])) rfl (by decide) (cok2 trivial (cconst rfl)) ?_
  refine dv (gyes_some rfl rfl) (q_load (v := intv (nth ([2, 1, 0]) 2)) Try.isAgg3 rfl (s19.rd (j := 0) rfl) (get_nth (w := 0) (by decide))) rfl (by decide) (cok1 trivial) ?_
  refine dv (gyes_some rfl rfl) (OpQ.cast (v' := .bool true) (q_int rfl rfl rfl) (congrArg Value.bool rfl)) rfl (by decide) (cok2 trivial (cconst rfl)) ?_
  refine dv (gyes_none rfl) (q_pt (v := .bool true) rfl rfl) rfl (by decide) (call_ok rfl) ?_
  refine dv (gyes_none rfl) (q_as (v := .bool true) rfl) rfl (by decide) (cok1 trivial) ?_
  refine ⟨_, Wk.refl _ _, ?_⟩
  show awp _ _ _ _ _ _ _
  refine awp_ret_wk ?_
  refine ⟨_, Wk.refl _ _, ?_⟩
  repeat (with_reducible first | refine then_ret ?_ | refine blk_ret ?_ | refine then_exit ?_ | refine blk_exit ?_ | refine blk_exit' (by decide) ?_ | refine blk_normal ?_ | refine then_normal ?_ | refine retq_ret ?_ | refine retq_normal ?_ | refine ng_normal ?_ | refine ng_ret ?_ | refine ng_exit ?_)
  exact ret_none (v := .bool true) rfl s19.kp (.tmp rfl .nil) rfl rfl ⟨rfl, rfl⟩
set_option maxRecDepth 100000 in
set_option maxHeartbeats 4000000 in
theorem ofirst_ok {H0 : AHeap} (e : List (List Int)) (vE : Value) (hE : Sl2Z intv (Rd H0) vE e) (al : List Int) (vK : Value) (hK : Sl intv H0 vK al) : ACalls Try.prog 3 [vE, vK] H0 (Rets (.bool true) H0) := by
  have hF : Wd Fence.wide := .inl rfl
  have hM : Try.prog.follows .mixedOrders = true := by kernel_rfl
  obtain ⟨sm, es⟩ : ∃ sm, sm = al.take (min al.length 20) := ⟨_, rfl⟩
  have hsm : sm.length ≤ 1000000 := by rw [es, List.length_take]; omega
  have s0 := St.begin H0
  refine acalls_st Try.func3 rfl Try.ntmps3 rfl ?_
  refine awp_seq ?_
  refine awp_regs hF ?_
  refine dv (gyes_none rfl) (q_as (v := .bool false) rfl) rfl (by decide) (cok1 (cconst rfl)) ?_
  refine ⟨_, Wk.refl _ _, ?_⟩
  show awp _ _ _ _ _ _ _
  refine awp_seq ?_
  refine awp_seq ?_
  refine awp_regs hF ?_
  refine dv (gyes_none rfl) (q_call0 Try.call7 rfl (speaks_ok)) rfl (by decide) (cok1 trivial) ?_
  refine dv (gyes_none rfl) (q_not (b := true) rfl) rfl (by decide) (cok1 trivial) ?_
  refine ⟨_, Wk.refl _ _, ?_⟩
  show awp _ _ _ _ _ _ _
  refine awp_cond_f rfl ?_
  refine awp_skip_wk ?_
  refine ⟨_, Wk.refl _ _, ?_⟩
  show awp _ _ _ _ _ _ _
  refine awp_seq ?_
  refine awp_regs hF ?_
  refine dv (gyes_none rfl) (q_mv (v := vE) rfl) rfl (by decide) (cok1 trivial) ?_
  refine x_call [] hF (by kernel_rfl) (gyes_none rfl) Try.call8 rfl (args := [vE]) rfl (made_ok e _ hE) (show _ < _ by decide) (call_ok rfl) rfl rfl (fun _ _ _ _ hd => by cases hd) ?_
  rintro _ H1 ⟨va3, vb4, rfl, hk2, ha5, hb6⟩
  have s7 := s0.rebase hk2
  have hK' := Sl.k0 hK hk2
  refine ⟨trivial, ?_⟩
  show dList _ _ _ _ _ _ _ _ _ _
  refine dv (gyes_none rfl) (q_mv (v := .tuple #[va3, vb4]) rfl) rfl (by decide) (cok1 trivial) ?_
  refine dv (gyes_none rfl) (q_extract (v := va3) rfl rfl) rfl (by decide) (cok1 trivial) ?_
  refine dv (gyes_none rfl) (q_extract (v := vb4) rfl rfl) rfl (by decide) (cok1 trivial) ?_
  refine dv (gyes_none rfl) (q_as (v := va3) rfl) rfl (by decide) (cok1 trivial) ?_
  refine dv (gyes_none rfl) (q_as (v := vb4) rfl) rfl (by decide) (cok1 trivial) ?_
  refine ⟨_, Wk.refl _ _, ?_⟩
  show awp _ _ _ _ _ _ _
  refine awp_seq ?_
  refine awp_regs hF ?_
  refine x_new (fun b => .slice (some ⟨b, 0, none⟩) 0 0) s7 (gyes_none rfl) (q_emptyLit Try.underlying23 Try.sizeOf3) rfl (by decide) (by simp [Op.operands, Call.operands]) (fun b8 H9 hb11 s10 => ?_)
  refine dv (gyes_none rfl) (q_mv (v := vK) rfl) rfl (by decide) (cok1 trivial) ?_
  refine dv (gyes_none rfl) (q_mv (v := vK) rfl) rfl (by decide) (cok1 trivial) ?_
  refine dv (gyes_none rfl) (q_len_sl (l := al) Try.underlying23 (s10.sl hK') rfl) rfl (by decide) (cok1 trivial) ?_
  refine dv (gyes_none rfl) (OpQ.cast (v' := .int .i64 ((min al.length 20 : Nat) : Int)) (q_min rfl rfl) (by congr 1; split <;> omega)) rfl (by decide) (cok2 trivial (cconst rfl)) ?_
  obtain ⟨w12, hw12, qw12⟩ := slice_z hK' (min al.length 20) (by omega)
  rw [← es] at hw12
  refine dv (gyes_none rfl) (qw12 s10 Try.underlying23 Try.sizeOf3 rfl rfl) rfl (by decide) (cok2 trivial trivial) ?_
  refine x_new (fun b => .slice (some ⟨b, 0, none⟩) sm.length sm.length) s10 (gyes_none rfl) (q_append_nullS (l := sm) (f := intv) (m' := sm.length) (by simp) Try.underlying23 Try.underlying23 Try.type3 rfl rfl (by decide) rfl rfl rfl (s10.getj (j := 0) rfl) (s10.sl hw12) (fun x => lc_scalar rfl) (by show (2 * _ + 1000) * 8 ≤ _; first | omega | (simp only [List.length_append, List.length_cons, List.length_nil, List.length_take, List.length_drop]; omega))) rfl (by decide) (cok2 trivial trivial) (fun b13 H14 hb16 s15 => ?_)
  refine dv (gyes_none rfl) (q_as (v := .slice (some ⟨b13, 0, none⟩) sm.length sm.length) rfl) rfl (by decide) (cok1 trivial) ?_
  refine ⟨_, Wk.refl _ _, ?_⟩
  show awp _ _ _ _ _ _ _
  refine awp_seq ?_
  refine awp_regs hF ?_
  refine dv (gyes_none rfl) (q_mv (v := va3) rfl) rfl (by decide) (cok1 trivial) ?_
  refine dv (gyes_none rfl) (q_mv (v := .slice (some ⟨b13, 0, none⟩) sm.length sm.length) rfl) rfl (by decide) (cok1 trivial) ?_
  refine x_new (fun b => .slice (some ⟨b, 0, none⟩) (firstL (rows16 e) sm).length (firstL (rows16 e) sm).length) s15 (gyes_none rfl) (q_call (Δ := [.cells true ((firstL (rows16 e) sm).map intv) 1]) Try.call10 rfl (by simp [AObj.wr]) (acalls_fresh intv_sc (first_ok (rows16 e) _ (ha5.of s15) (rows16_sized e) sm _ (s15.slj (j := 0) rfl (by first | rfl | (simp; done) | omega) (by first | exact Nat.le_refl _ | omega)) hsm))) rfl (by decide) (call_ok rfl) (fun b17 H18 hb20 s19 => ?_)
  refine dv (gyes_none rfl) (q_mv (v := vb4) rfl) rfl (by decide) (cok1 trivial) ?_
  refine dv (gyes_none rfl) (q_mv (v := .slice (some ⟨b13, 0, none⟩) sm.length sm.length) rfl) rfl (by decide) (cok1 trivial) ?_
  refine x_new (fun b => .slice (some ⟨b, 0, none⟩) (firstL (rows16 e) sm).length (firstL (rows16 e) sm).length) s19 (gyes_none rfl) (q_call (Δ := [.cells true ((firstL (rows16 e) sm).map intv) 1]) Try.call11 rfl (by simp [AObj.wr]) (acalls_fresh intv_sc (rfirst_ok (rows16 e) _ (hb6.of s19) (rows16_sized e) sm _ (s19.slj (j := 1) rfl (by first | rfl | (simp; done) | omega) (by first | exact Nat.le_refl _ | omega)) hsm))) rfl (by decide) (call_ok rfl) (fun b21 H22 hb24 s23 => ?_)
  refine dv (gyes_none rfl) (q_call0 Try.call9 rfl (same_ok _ _ _ (s23.slj (j := 1) rfl (by first | rfl | (simp; done) | omega) (by first | exact Nat.le_refl _ | omega)) (s23.slj (j := 0) rfl (by first | rfl | (simp; done) | omega) (by first | exact Nat.le_refl _ | omega)) (by have := firstL_len (rows16 e) sm; omega))) rfl (by decide) (call_ok rfl) ?_
  refine dv (gyes_none rfl) (q_as (v := .bool true) rfl) rfl (by decide) (cok1 trivial) ?_
  refine ⟨_, Wk.refl _ _, ?_⟩
  show awp _ _ _ _ _ _ _
  refine awp_ret_wk ?_
  refine ⟨_, Wk.refl _ _, ?_⟩
  repeat (with_reducible first | refine then_ret ?_ | refine blk_ret ?_ | refine then_exit ?_ | refine blk_exit ?_ | refine blk_exit' (by decide) ?_ | refine blk_normal ?_ | refine then_normal ?_ | refine retq_ret ?_ | refine retq_normal ?_ | refine ng_normal ?_ | refine ng_ret ?_ | refine ng_exit ?_)
  exact ret_none (v := .bool true) rfl s23.kp (.tmp rfl .nil) rfl rfl ⟨rfl, rfl⟩

end Go.Proofs.YtbjlabokijchpaaA
