/-
  Walks of functions of the given program, and what they compute.
-/
import Derived.Test.YtbjlabokijchpaaO13
import Derived.Test.YtbjlabokijchpaaProg
import Derived.KernelRfl
namespace Go.Proofs.YtbjlabokijchpaaA
set_option linter.unusedVariables false
open Go Go.RowKit Go.Shelf Go.Proofs
noncomputable def wq (e : List (List Int)) (rt l : List Int) : List Int := (onceL e l).filter fun k => !kb e rt k
theorem wq_eq {e : List (List Int)} {rt l : List Int} : (onceL e l).filter (fun x => !nth (keptL e rt) x.toNat) = wq e rt l := List.filter_congr fun x hx => by rw [keptL_nth (onceL_valid x hx)]
theorem wq_len (e : List (List Int)) (rt l : List Int) : (wq e rt l).length ≤ l.length := Nat.le_trans (List.length_filter_le _ _) (onceL_len e l)
theorem wq_yes {e : List (List Int)} {rt l w : List Int} {i : Nat} (hi : i < l.length) (h : w = wq e rt (l.take i)) (hv : Valid e (nth l i)) (hk : nth (keptL e rt) (nth l i).toNat = false) (hn : nth l i ∉ w) : w ++ [nth l i] = wq e rt (l.take (i + 1)) := by
  subst h
  rw [keptL_nth hv] at hk
  have h1 : nth l i ∉ onceL e (l.take i) := fun h => hn (List.mem_filter.2 ⟨h, by rw [hk]; rfl⟩)
  unfold wq
  rw [once_step hi, if_pos ⟨hv, h1⟩, List.filter_append, List.filter_cons, if_pos (by rw [hk]; rfl), List.filter_nil]
theorem wq_no {e : List (List Int)} {rt l w : List Int} {i : Nat} (hi : i < l.length) (h : w = wq e rt (l.take i)) (hn : ¬ Valid e (nth l i) ∨ (Valid e (nth l i) ∧ nth (keptL e rt) (nth l i).toNat = true) ∨ nth l i ∈ w) : w = wq e rt (l.take (i + 1)) := by
  subst h
  unfold wq
  rw [once_step hi]
  split
  · rename_i hc
    rcases hn with h1 | ⟨h1, h2⟩ | h1
    · exact absurd hc.1 h1
    · rw [keptL_nth h1] at h2
      rw [List.filter_append, List.filter_cons, if_neg (by rw [h2]; decide), List.filter_nil, List.append_nil]
    · exact absurd (List.mem_filter.1 h1).1 hc.2
  · rfl
set_option maxRecDepth 100000 in
set_option maxHeartbeats 4000000 in
theorem gone_ok {H0 : AHeap} (e : List (List Int)) (vE : Value) (hE : Sl2Z intv (Rd H0) vE e) (hr : Sized e) (al : List Int) (vK : Value) (hK : Sl intv H0 vK al) (hk : al.length ≤ 1000000) (rt : List Int) (vR : Value) (hR : Sl intv H0 vR rt) (hrt : rt.length ≤ 1000000) : ACalls Try.prog 15 [vE, vK, vR] H0 (Fresh intv (wq e rt al) H0) := by
  have hF : Wd Fence.wide := .inl rfl
  have hM : Try.prog.follows .mixedOrders = true := by kernel_rfl
  have s0 := St.begin H0
  refine acalls_st Try.func15 rfl Try.ntmps15 rfl ?_
  refine awp_seq ?_
  refine awp_regs hF ?_
  refine dv (gyes_none rfl) (q_as (v := .slice none 0 0) rfl) rfl (by decide) (cok1 (cconst rfl)) ?_
  refine ⟨_, Wk.refl _ _, ?_⟩
  show awp _ _ _ _ _ _ _
  refine awp_seq ?_
  refine awp_regs hF ?_
  refine dv (gyes_none rfl) (q_mv (v := vE) rfl) rfl (by decide) (cok1 trivial) ?_
  refine dv (gyes_none rfl) (q_mv (v := vR) rfl) rfl (by decide) (cok1 trivial) ?_
  refine x_new (fun b => .slice (some ⟨b, 0, none⟩) (keptL e rt).length (keptL e rt).length) s0 (gyes_none rfl) (q_call (Δ := [.cells true ((keptL e rt).map boolv) 1]) Try.call12 rfl (by simp [AObj.wr]) (acalls_fresh boolv_sc (kept_ok e _ (hE.of s0) hr rt _ (s0.sl hR) hrt))) rfl (by decide) (call_ok rfl) (fun b1 H2 hb4 s3 => ?_)
  refine x_new (fun b => .pointer (some ⟨b, 0, none⟩)) s3 (gyes_none rfl) (q_alloc (vs := [.slice none 0 0]) 1 Try.zeroValue32 (by first | exact flat_scalar rfl | exact flat_agg rfl) rfl) rfl (by decide) (by simp [Op.operands, Call.operands]) (fun b5 H6 hb8 s7 => ?_)
  refine x_store1 [] hF s7 (by kernel_rfl) (gyes_none rfl) (j := 0) (v := .slice (some ⟨b1, 0, none⟩) ((keptL e rt).length) ((keptL e rt).length)) rfl Try.sizeOf32 rfl rfl rfl (lc_slice (s7.live (j := 1) rfl)) (Nat.le_of_ble_eq_true rfl) trivial trivial rfl rfl (F' := [(b5, .cells true [.slice (some ⟨b1, 0, none⟩) ((keptL e rt).length) ((keptL e rt).length)] 1), (b1, .cells true ((keptL e rt).map boolv) 1)]) rfl (fun H9 s10 => ⟨?_, ?_⟩)
  · exact trivial
  refine ⟨_, Wk.refl _ _, ?_⟩
  show awp _ _ _ _ _ _ _
  refine awp_seq ?_
  refine awp_regs hF ?_
  refine dv (gyes_none rfl) (q_mv (v := vE) rfl) rfl (by decide) (cok1 trivial) ?_
  refine dv (gyes_none rfl) (q_mv (v := vK) rfl) rfl (by decide) (cok1 trivial) ?_
  refine x_new (fun b => .slice (some ⟨b, 0, none⟩) (onceL e al).length (onceL e al).length) s10 (gyes_none rfl) (q_call (Δ := [.cells true ((onceL e al).map intv) 1]) Try.call16 rfl (by simp [AObj.wr]) (acalls_fresh intv_sc (once_ok e _ (hE.of s10) hr al _ (s10.sl hK) hk))) rfl (by decide) (call_ok rfl) (fun b11 H12 hb14 s13 => ?_)
  refine dv (gyes_none rfl) (q_makeFuncL [.pointer (some ⟨b5, 0, none⟩)] ⟨rfl, trivial⟩) rfl (by decide) (cok1 trivial) ?_
  refine x_call [] hF (by kernel_rfl) (gyes_none rfl) Try.call24 rfl (args := [.slice (some ⟨b11, 0, none⟩) ((onceL e al).length) ((onceL e al).length), .func (.func 25) #[] #[.pointer (some ⟨b5, 0, none⟩)]]) rfl (delf_ok (onceL e al) b11 b5 _ (keptL e rt) (s13.getj (j := 0) rfl) (Nat.le_trans (onceL_len e al) hk) (s13.rd (j := 1) rfl) (s13.nej (i := 1) (j := 0) rfl rfl (by decide)) (slz_full ⟨s13.rd (j := 2) rfl, (s13.nej (i := 2) (j := 0) rfl rfl (by decide))⟩ rfl (Nat.le_refl _)) (fun x hx => by have := onceL_valid x hx; exact ⟨this.1, by rw [keptL_len]; have := this.1; have := (onceL_valid x hx).2; omega⟩) _ wq_eq) (show _ < _ by decide) (call_ok rfl) rfl rfl (fun _ _ _ _ hd => by cases hd) ?_
  rintro _ H15 ⟨rfl, hk16, ha17⟩
  have s18 := s13.turnS hk16 [(b11, .cells true ((wq e rt al).map intv) 1), (b5, .cells true [.slice (some ⟨b1, 0, none⟩) ((keptL e rt).length) ((keptL e rt).length)] 1), (b1, .cells true ((keptL e rt).map boolv) 1)] rfl ⟨ha17, (s13.kept hk16 (j := 1) rfl (s13.nej (i := 1) (j := 0) rfl rfl (by decide))), (s13.kept hk16 (j := 2) rfl (s13.nej (i := 2) (j := 0) rfl rfl (by decide))), trivial⟩ (by rintro _ rfl; simp)
  refine ⟨trivial, ?_⟩
  show dList _ _ _ _ _ _ _ _ _ _
  refine dv (gyes_none rfl) (q_as (v := .slice (some ⟨b11, 0, none⟩) ((wq e rt al).length) ((wq e rt al).length)) rfl) rfl (by decide) (cok1 trivial) ?_
  refine ⟨_, Wk.refl _ _, ?_⟩
  show awp _ _ _ _ _ _ _
  refine awp_ret_wk ?_
  refine ⟨_, Wk.refl _ _, ?_⟩
  repeat (with_reducible first | refine then_ret ?_ | refine blk_ret ?_ | refine then_exit ?_ | refine blk_exit ?_ | refine blk_exit' (by decide) ?_ | refine blk_normal ?_ | refine then_normal ?_ | refine retq_ret ?_ | refine retq_normal ?_ | refine ng_normal ?_ | refine ng_ret ?_ | refine ng_exit ?_)
  refine ret_is (v := .slice (some ⟨b11, 0, none⟩) ((wq e rt al).length) ((wq e rt al).length)) rfl (.tmp rfl .nil) rfl ?_
  exact fresh_of s18 (j := 0) rfl rfl
set_option maxRecDepth 100000 in
set_option maxHeartbeats 4000000 in
theorem okept_ok {H0 : AHeap} (e : List (List Int)) (vE : Value) (hE : Sl2Z intv (Rd H0) vE e) (al : List Int) (vK : Value) (hK : Sl intv H0 vK al) (rs : List Int) (vR : Value) (hR : Sl intv H0 vR rs) : ACalls Try.prog 6 [vE, vK, vR] H0 (Rets (.bool true) H0) := by
  have hF : Wd Fence.wide := .inl rfl
  have hM : Try.prog.follows .mixedOrders = true := by kernel_rfl
  obtain ⟨sm, es⟩ : ∃ sm, sm = al.take (min al.length 20) := ⟨_, rfl⟩
  have hsm : sm.length ≤ 1000000 := by rw [es, List.length_take]; omega
  obtain ⟨rt, er⟩ : ∃ rt, rt = rs.take (min rs.length 20) := ⟨_, rfl⟩
  have hrt : rt.length ≤ 1000000 := by rw [er, List.length_take]; omega
  have hke := keptL_len (rows16 e) rt
  have hke2 := (rows16_sized e).1
  have s0 := St.begin H0
  refine acalls_st Try.func6 rfl Try.ntmps6 rfl ?_
  refine awp_seq ?_
  refine awp_regs hF ?_
  refine dv (gyes_none rfl) (q_as (v := .bool false) rfl) rfl (by decide) (cok1 (cconst rfl)) ?_
  refine ⟨_, Wk.refl _ _, ?_⟩
  show awp _ _ _ _ _ _ _
  refine awp_seq ?_
  refine awp_seq ?_
  refine awp_regs hF ?_
  refine dv (gyes_none rfl) (q_call0 Try.call7 rfl (speaks_ok)) rfl (by decide) (cok1 trivial) ?_
  refine dv (gyes_none rfl) (q_not (b := true) rfl) rfl (by decide) (cok1 trivial) ?_
  refine ⟨_, Wk.refl _ _, ?_⟩
  show awp _ _ _ _ _ _ _
  refine awp_cond_f rfl ?_
  refine awp_skip_wk ?_
  refine ⟨_, Wk.refl _ _, ?_⟩
  show awp _ _ _ _ _ _ _
  refine awp_seq ?_
  refine awp_regs hF ?_
  refine dv (gyes_none rfl) (q_mv (v := vE) rfl) rfl (by decide) (cok1 trivial) ?_
  refine x_call [] hF (by kernel_rfl) (gyes_none rfl) Try.call8 rfl (args := [vE]) rfl (made_ok e _ hE) (show _ < _ by decide) (call_ok rfl) rfl rfl (fun _ _ _ _ hd => by cases hd) ?_
  rintro _ H1 ⟨va3, vb4, rfl, hk2, ha5, hb6⟩
  have s7 := s0.rebase hk2
  have hK' := Sl.k0 hK hk2
  have hR' := Sl.k0 hR hk2
  refine ⟨trivial, ?_⟩
  show dList _ _ _ _ _ _ _ _ _ _
  refine dv (gyes_none rfl) (q_mv (v := .tuple #[va3, vb4]) rfl) rfl (by decide) (cok1 trivial) ?_
  refine dv (gyes_none rfl) (q_extract (v := va3) rfl rfl) rfl (by decide) (cok1 trivial) ?_
  refine dv (gyes_none rfl) (q_extract (v := vb4) rfl rfl) rfl (by decide) (cok1 trivial) ?_
  refine dv (gyes_none rfl) (q_as (v := va3) rfl) rfl (by decide) (cok1 trivial) ?_
  refine dv (gyes_none rfl) (q_as (v := vb4) rfl) rfl (by decide) (cok1 trivial) ?_
  refine ⟨_, Wk.refl _ _, ?_⟩
  show awp _ _ _ _ _ _ _
  refine awp_seq ?_
  refine awp_regt hF hM (by kernel_rfl) (by kernel_rfl) ?_
  refine x_new (fun b => .slice (some ⟨b, 0, none⟩) 0 0) s7 (gyes_none rfl) (q_emptyLit Try.underlying23 Try.sizeOf3) rfl (by decide) (by simp [Op.operands, Call.operands]) (fun b8 H9 hb11 s10 => ?_)
  refine dv (gyes_none rfl) (q_mv (v := vK) rfl) rfl (by decide) (cok1 trivial) ?_
  refine dv (gyes_none rfl) (q_mv (v := vK) rfl) rfl (by decide) (cok1 trivial) ?_
  refine dv (gyes_none rfl) (q_len_sl (l := al) Try.underlying23 (s10.sl hK') rfl) rfl (by decide) (cok1 trivial) ?_
  refine dv (gyes_none rfl) (OpQ.cast (v' := .int .i64 ((min al.length 20 : Nat) : Int)) (q_min rfl rfl) (by congr 1; split <;> omega)) rfl (by decide) (cok2 trivial (cconst rfl)) ?_
  obtain ⟨w12, hw12, qw12⟩ := slice_z hK' (min al.length 20) (by omega)
  rw [← es] at hw12
  refine dv (gyes_none rfl) (qw12 s10 Try.underlying23 Try.sizeOf3 rfl rfl) rfl (by decide) (cok2 trivial trivial) ?_
  refine x_new (fun b => .slice (some ⟨b, 0, none⟩) sm.length sm.length) s10 (gyes_none rfl) (q_append_nullS (l := sm) (f := intv) (m' := sm.length) (by simp) Try.underlying23 Try.underlying23 Try.type3 rfl rfl (by decide) rfl rfl rfl (s10.getj (j := 0) rfl) (s10.sl hw12) (fun x => lc_scalar rfl) (by show (2 * _ + 1000) * 8 ≤ _; first | omega | (simp only [List.length_append, List.length_cons, List.length_nil, List.length_take, List.length_drop]; omega))) rfl (by decide) (cok2 trivial trivial) (fun b13 H14 hb16 s15 => ?_)
  refine x_new (fun b => .slice (some ⟨b, 0, none⟩) 0 0) s15 (gyes_none rfl) (q_emptyLit Try.underlying23 Try.sizeOf3) rfl (by decide) (by simp [Op.operands, Call.operands]) (fun b17 H18 hb20 s19 => ?_)
  refine dv (gyes_none rfl) (q_mv (v := vR) rfl) rfl (by decide) (cok1 trivial) ?_
  refine dv (gyes_none rfl) (q_mv (v := vR) rfl) rfl (by decide) (cok1 trivial) ?_
  refine dv (gyes_none rfl) (q_len_sl (l := rs) Try.underlying23 (s19.sl hR') rfl) rfl (by decide) (cok1 trivial) ?_
  refine dv (gyes_none rfl) (OpQ.cast (v' := .int .i64 ((min rs.length 20 : Nat) : Int)) (q_min rfl rfl) (by congr 1; split <;> omega)) rfl (by decide) (cok2 trivial (cconst rfl)) ?_
  obtain ⟨w21, hw21, qw21⟩ := slice_z hR' (min rs.length 20) (by omega)
  rw [← er] at hw21
  refine dv (gyes_none rfl) (qw21 s19 Try.underlying23 Try.sizeOf3 rfl rfl) rfl (by decide) (cok2 trivial trivial) ?_
  refine x_new (fun b => .slice (some ⟨b, 0, none⟩) rt.length rt.length) s19 (gyes_none rfl) (q_append_nullS (l := rt) (f := intv) (m' := rt.length) (by simp) Try.underlying23 Try.underlying23 Try.type3 rfl rfl (by decide) rfl rfl rfl (s19.getj (j := 0) rfl) (s19.sl hw21) (fun x => lc_scalar rfl) (by show (2 * _ + 1000) * 8 ≤ _; first | omega | (simp only [List.length_append, List.length_cons, List.length_nil, List.length_take, List.length_drop]; omega))) rfl (by decide) (cok2 trivial trivial) (fun b22 H23 hb25 s24 => ?_)
  refine dv (gyes_none rfl) (q_as (v := .slice (some ⟨b13, 0, none⟩) sm.length sm.length) rfl) rfl (by decide) (cok1 trivial) ?_
  refine dv (gyes_none rfl) (q_as (v := .slice (some ⟨b22, 0, none⟩) rt.length rt.length) rfl) rfl (by decide) (cok1 trivial) ?_
  refine ⟨_, Wk.refl _ _, ?_⟩
  show awp _ _ _ _ _ _ _
  refine awp_seq ?_
  refine awp_regs hF ?_
  refine dv (gyes_none rfl) (q_mv (v := va3) rfl) rfl (by decide) (cok1 trivial) ?_
  refine dv (gyes_none rfl) (q_mv (v := .slice (some ⟨b22, 0, none⟩) rt.length rt.length) rfl) rfl (by decide) (cok1 trivial) ?_
  refine x_new (fun b => .slice (some ⟨b, 0, none⟩) (keptL (rows16 e) rt).length (keptL (rows16 e) rt).length) s24 (gyes_none rfl) (q_call (Δ := [.cells true ((keptL (rows16 e) rt).map boolv) 1]) Try.call12 rfl (by simp [AObj.wr]) (acalls_fresh boolv_sc (kept_ok (rows16 e) _ (ha5.of s24) (rows16_sized e) rt _ (s24.slj (j := 0) rfl (by first | rfl | (simp; done) | omega) (by first | exact Nat.le_refl _ | omega)) hrt))) rfl (by decide) (call_ok rfl) (fun b26 H27 hb29 s28 => ?_)
  refine dv (gyes_none rfl) (q_mv (v := vb4) rfl) rfl (by decide) (cok1 trivial) ?_
  refine dv (gyes_none rfl) (q_mv (v := .slice (some ⟨b22, 0, none⟩) rt.length rt.length) rfl) rfl (by decide) (cok1 trivial) ?_
  refine x_new (fun b => .slice (some ⟨b, 0, none⟩) (keptL (rows16 e) rt).length (keptL (rows16 e) rt).length) s28 (gyes_none rfl) (q_call (Δ := [.cells true ((keptL (rows16 e) rt).map boolv) 1]) Try.call13 rfl (by simp [AObj.wr]) (acalls_fresh boolv_sc (rkept_ok (rows16 e) _ (hb6.of s28) (rows16_sized e) rt _ (s28.slj (j := 1) rfl (by first | rfl | (simp; done) | omega) (by first | exact Nat.le_refl _ | omega)) hrt))) rfl (by decide) (call_ok rfl) (fun b30 H31 hb33 s32 => ?_)
  refine dv (gyes_none rfl) (q_as (v := .slice (some ⟨b26, 0, none⟩) ((keptL (rows16 e) rt).length) ((keptL (rows16 e) rt).length)) rfl) rfl (by decide) (cok1 trivial) ?_
  refine dv (gyes_none rfl) (q_as (v := .slice (some ⟨b30, 0, none⟩) ((keptL (rows16 e) rt).length) ((keptL (rows16 e) rt).length)) rfl) rfl (by decide) (cok1 trivial) ?_
  refine ⟨_, Wk.refl _ _, ?_⟩
  show awp _ _ _ _ _ _ _
  refine awp_seq ?_
  refine awp_seq ?_
  refine awp_regs hF ?_
  refine dv (gyes_none rfl) (q_mv (v := .slice (some ⟨b26, 0, none⟩) ((keptL (rows16 e) rt).length) ((keptL (rows16 e) rt).length)) rfl) rfl (by decide) (cok1 trivial) ?_
  refine dv (gyes_none rfl) (q_len_slice Try.underlying32 rfl (s32.rd (j := 1) rfl)) rfl (by decide) (cok1 trivial) ?_
  refine dv (gyes_none rfl) (q_mv (v := .slice (some ⟨b30, 0, none⟩) ((keptL (rows16 e) rt).length) ((keptL (rows16 e) rt).length)) rfl) rfl (by decide) (cok1 trivial) ?_
  refine dv (gyes_none rfl) (q_len_slice Try.underlying32 rfl (s32.rd (j := 0) rfl)) rfl (by decide) (cok1 trivial) ?_
  refine dv (gyes_none rfl) (OpQ.cast (v' := .bool false) (q_int rfl rfl rfl) (congrArg Value.bool (bne_self_eq_false _))) rfl (by decide) (cok2 trivial trivial) ?_
  refine ⟨_, Wk.refl _ _, ?_⟩
  show awp _ _ _ _ _ _ _
  refine awp_cond_f rfl ?_
  refine awp_skip_wk ?_
  refine ⟨_, Wk.refl _ _, ?_⟩
  show awp _ _ _ _ _ _ _
  refine awp_seq ?_
  refine awp_seq ?_
  refine awp_regs hF ?_
  refine dv (gyes_none rfl) (q_as (v := .int .i64 0) rfl) rfl (by decide) (cok1 (cconst rfl)) ?_
  refine ⟨_, Wk.refl _ _, ?_⟩
  show awp _ _ _ _ _ _ _
  refine awp_block ?_
  refine awp_wk (Wk.U [(1, .slice (some ⟨b13, 0, none⟩) sm.length sm.length), (2, .slice (some ⟨b22, 0, none⟩) rt.length rt.length), (7, va3), (8, vb4), (9, .slice (some ⟨b26, 0, none⟩) ((keptL (rows16 e) rt).length) ((keptL (rows16 e) rt).length)), (10, .slice (some ⟨b30, 0, none⟩) ((keptL (rows16 e) rt).length) ((keptL (rows16 e) rt).length)), (11, .int .i64 0)] ⟨rfl, rfl, rfl, rfl, rfl, rfl, rfl, trivial⟩) ?_
  refine awp_loop (fun (i : Nat) st => ∃ (H34 : AHeap), st = ⟨113, U [(1, .slice (some ⟨b13, 0, none⟩) sm.length sm.length), (2, .slice (some ⟨b22, 0, none⟩) rt.length rt.length), (7, va3), (8, vb4), (9, .slice (some ⟨b26, 0, none⟩) ((keptL (rows16 e) rt).length) ((keptL (rows16 e) rt).length)), (10, .slice (some ⟨b30, 0, none⟩) ((keptL (rows16 e) rt).length) ((keptL (rows16 e) rt).length)), (11, .int .i64 ((i : Nat) : Int))], [], H34⟩ ∧ St H0 (none0) (Rd H1) H34 [(b30, .cells true ((keptL (rows16 e) rt).map boolv) 1), (b26, .cells true ((keptL (rows16 e) rt).map boolv) 1), (b22, .cells true (rt.map intv) 1), (b17, .null), (b13, .cells true (sm.map intv) 1), (b8, .null)]) (fun (i : Nat) => (keptL (rows16 e) rt).length - i) (x0 := (0)) ?h0 ?round
  case h0 =>
    exact ⟨_, rfl, s32⟩
  case round =>
    rintro i _ ⟨H34, rfl, s35⟩
    refine awp_seq ?_
    refine awp_seq ?_
    refine awp_regs hF ?_
    refine dv (gyes_none rfl) (q_mv (v := .int .i64 ((i : Nat) : Int)) rfl) rfl (by decide) (cok1 trivial) ?_
    refine dv (gyes_none rfl) (q_mv (v := .slice (some ⟨b30, 0, none⟩) ((keptL (rows16 e) rt).length) ((keptL (rows16 e) rt).length)) rfl) rfl (by decide) (cok1 trivial) ?_
    refine dv (gyes_none rfl) (q_len_slice Try.underlying32 rfl (s35.rd (j := 0) rfl)) rfl (by decide) (cok1 trivial) ?_
    refine dvb (gyes_none rfl) (q_int rfl rfl rfl) rfl (by decide) (cok2 trivial trivial) (fun c1 => ?_) (fun c1 => ?_)
    ·
      replace c1 := of_decide_eq_true c1
      refine ⟨_, Wk.refl _ _, ?_⟩
      show awp _ _ _ _ _ _ _
      refine awp_cond_t rfl ?_
      refine awp_skip_wk ?_
      refine ⟨_, Wk.refl _ _, ?_⟩
      show awp _ _ _ _ _ _ _
      refine awp_seq ?_
      refine awp_block ?_
      refine awp_seq ?_
      refine awp_regt hF hM (by kernel_rfl) (by kernel_rfl) ?_
      refine dv (gyes_none rfl) (q_mv (v := .slice (some ⟨b26, 0, none⟩) ((keptL (rows16 e) rt).length) ((keptL (rows16 e) rt).length)) rfl) rfl (by decide) (cok1 trivial) ?_
      refine dv (gyes_none rfl) (q_mv (v := .int .i64 ((i : Nat) : Int)) rfl) rfl (by decide) (cok1 trivial) ?_
      refine dv (gyes_none rfl) (OpQ.cast (v' := .pointer (some ⟨b26, i, none⟩)) (q_index1 (i := i) Try.underlying32 Try.sizeOf4 rfl rfl (by omega) (s35.rd (j := 1) rfl)) (by rw [Nat.zero_add])) rfl (by decide) (cok2 trivial trivial) ?_
      refine dv (gyes_none rfl) (q_load (v := boolv (nth (keptL (rows16 e) rt) i)) Try.isAgg4 rfl (s35.rd (j := 1) rfl) (get_nth (w := 0) (by omega))) rfl (by decide) (cok1 trivial) ?_
      refine dv (gyes_none rfl) (q_mv (v := .slice (some ⟨b30, 0, none⟩) ((keptL (rows16 e) rt).length) ((keptL (rows16 e) rt).length)) rfl) rfl (by decide) (cok1 trivial) ?_
      refine dv (gyes_none rfl) (q_mv (v := .int .i64 ((i : Nat) : Int)) rfl) rfl (by decide) (cok1 trivial) ?_
      refine dv (gyes_none rfl) (OpQ.cast (v' := .pointer (some ⟨b30, i, none⟩)) (q_index1 (i := i) Try.underlying32 Try.sizeOf4 rfl rfl (by omega) (s35.rd (j := 0) rfl)) (by rw [Nat.zero_add])) rfl (by decide) (cok2 trivial trivial) ?_
      refine dv (gyes_none rfl) (q_load (v := boolv (nth (keptL (rows16 e) rt) i)) Try.isAgg4 rfl (s35.rd (j := 0) rfl) (get_nth (w := 0) (by omega))) rfl (by decide) (cok1 trivial) ?_
      refine dv (gyes_none rfl) (OpQ.cast (v' := .bool false) (q_boolne Try.underlying4 rfl rfl) (congrArg Value.bool (bne_self_eq_false _))) rfl (by decide) (cok2 trivial trivial) ?_
      refine ⟨_, Wk.refl _ _, ?_⟩
      show awp _ _ _ _ _ _ _
      refine awp_cond_f rfl ?_
      refine awp_skip_wk ?_
      refine ⟨_, Wk.refl _ _, ?_⟩
      show awp _ _ _ _ _ _ _
      refine awp_regs hF ?_
      refine dv (gyes_none rfl) (q_mv (v := .int .i64 ((i : Nat) : Int)) rfl) rfl (by decide) (cok1 trivial) ?_
      refine dv (gyes_none rfl) (OpQ.cast (v' := .int .i64 ((i + 1 : Nat) : Int)) (q_int rfl rfl rfl) (congrArg _ ((i64_in (by omega)).trans (by first | rfl | omega | (push_cast; rfl))))) rfl (by decide) (cok2 trivial (cconst rfl)) ?_
      refine dv (gyes_none rfl) (q_as (v := .int .i64 ((i + 1 : Nat) : Int)) rfl) rfl (by decide) (cok1 trivial) ?_
      refine ⟨_, Wk.U [(1, .slice (some ⟨b13, 0, none⟩) sm.length sm.length), (2, .slice (some ⟨b22, 0, none⟩) rt.length rt.length), (7, va3), (8, vb4), (9, .slice (some ⟨b26, 0, none⟩) ((keptL (rows16 e) rt).length) ((keptL (rows16 e) rt).length)), (10, .slice (some ⟨b30, 0, none⟩) ((keptL (rows16 e) rt).length) ((keptL (rows16 e) rt).length)), (11, .int .i64 (((i + 1) : Nat) : Int))] ⟨rfl, rfl, rfl, rfl, rfl, rfl, rfl, trivial⟩, (i + 1), ⟨_, rfl, s35⟩, (by omega)⟩
    ·
      replace c1 := of_decide_eq_false c1
      refine ⟨_, Wk.refl _ _, ?_⟩
      show awp _ _ _ _ _ _ _
      refine awp_cond_f rfl ?_
      refine awp_exit_wk ?_
      refine ⟨_, Wk.refl _ _, ?_⟩
      show awp _ _ _ _ _ _ _
      refine awp_seq ?_
      refine awp_regs hF ?_
      refine dv (gyes_none rfl) (q_as (v := .slice none 0 0) rfl) rfl (by decide) (cok1 (cconst rfl)) ?_
      refine ⟨_, Wk.refl _ _, ?_⟩
      show awp _ _ _ _ _ _ _
      refine awp_seq ?_
      refine awp_seq ?_
      refine awp_regs hF ?_
      refine dv (gyes_none rfl) (q_as (v := .int .i64 0) rfl) rfl (by decide) (cok1 (cconst rfl)) ?_
      refine ⟨_, Wk.refl _ _, ?_⟩
      show awp _ _ _ _ _ _ _
      refine awp_block ?_
      refine awp_nil s35 12 1 rfl (fun b36 H37 hb39 s38 => ?_)
      refine awp_wk (Wk.U [(1, .slice (some ⟨b13, 0, none⟩) sm.length sm.length), (2, .slice (some ⟨b22, 0, none⟩) rt.length rt.length), (7, va3), (8, vb4), (10, .slice (some ⟨b30, 0, none⟩) ((keptL (rows16 e) rt).length) ((keptL (rows16 e) rt).length)), (12, .slice (some ⟨b36, 0, none⟩) (([] : List Int).length) (([] : List Int).length)), (13, .int .i64 0)] ⟨rfl, rfl, rfl, rfl, rfl, rfl, rfl, trivial⟩) ?_
      refine awp_loop (fun ((i, w) : Nat × (List Int)) st => ∃ (H40 : AHeap) (b : Nat), st = ⟨113, U [(1, .slice (some ⟨b13, 0, none⟩) sm.length sm.length), (2, .slice (some ⟨b22, 0, none⟩) rt.length rt.length), (7, va3), (8, vb4), (10, .slice (some ⟨b30, 0, none⟩) ((keptL (rows16 e) rt).length) ((keptL (rows16 e) rt).length)), (12, .slice (some ⟨b, 0, none⟩) w.length w.length), (13, .int .i64 ((i : Nat) : Int))], [], H40⟩ ∧ St H0 (none0) (Rd H1) H40 [(b, .cells true (w.map intv) 1), (b30, .cells true ((keptL (rows16 e) rt).map boolv) 1), (b26, .cells true ((keptL (rows16 e) rt).map boolv) 1), (b22, .cells true (rt.map intv) 1), (b13, .cells true (sm.map intv) 1)] ∧ (w = wq (rows16 e) rt (sm.take i) ∧ w.length ≤ i)) (fun ((i, w) : Nat × (List Int)) => sm.length - i) (x0 := (0, ([] : List Int))) ?h0 ?round
      case h0 =>
        exact ⟨_, _, rfl, (s38.sub (.cons_cons _ (.cons_cons _ (.cons_cons _ (.cons_cons _ (.cons _ (.cons_cons _ (.cons _ (.refl _))))))))), ⟨rfl, Nat.le_refl _⟩⟩
      case round =>
        rintro ⟨i, w⟩ _ ⟨H40, b, rfl, s41, hw⟩
        dsimp only at *
        refine awp_seq ?_
        refine awp_seq ?_
        refine awp_regs hF ?_
        refine dv (gyes_none rfl) (q_mv (v := .int .i64 ((i : Nat) : Int)) rfl) rfl (by decide) (cok1 trivial) ?_
        refine dv (gyes_none rfl) (q_mv (v := .slice (some ⟨b13, 0, none⟩) sm.length sm.length) rfl) rfl (by decide) (cok1 trivial) ?_
        refine dv (gyes_none rfl) (q_len_slice Try.underlying23 rfl (s41.rd (j := 4) rfl)) rfl (by decide) (cok1 trivial) ?_
        refine dvb (gyes_none rfl) (q_int rfl rfl rfl) rfl (by decide) (cok2 trivial trivial) (fun c2 => ?_) (fun c2 => ?_)
        ·
          replace c2 := of_decide_eq_true c2
          refine ⟨_, Wk.refl _ _, ?_⟩
          show awp _ _ _ _ _ _ _
          refine awp_cond_t rfl ?_
          refine awp_skip_wk ?_
          refine ⟨_, Wk.refl _ _, ?_⟩
          show awp _ _ _ _ _ _ _
          refine awp_seq ?_
          refine awp_block ?_
          refine awp_seq ?_
          refine awp_regs hF ?_
          refine dv (gyes_none rfl) (q_mv (v := .slice (some ⟨b13, 0, none⟩) sm.length sm.length) rfl) rfl (by decide) (cok1 trivial) ?_
          refine dv (gyes_none rfl) (q_mv (v := .int .i64 ((i : Nat) : Int)) rfl) rfl (by decide) (cok1 trivial) ?_
          refine dv (gyes_none rfl) (OpQ.cast (v' := .pointer (some ⟨b13, i, none⟩)) (q_index1 (i := i) Try.underlying23 Try.sizeOf3 rfl rfl (by omega) (s41.rd (j := 4) rfl)) (by rw [Nat.zero_add])) rfl (by decide) (cok2 trivial trivial) ?_
          refine dv (gyes_none rfl) (q_load (v := intv (nth sm i)) Try.isAgg3 rfl (s41.rd (j := 4) rfl) (get_nth (w := 0) (by omega))) rfl (by decide) (cok1 trivial) ?_
          refine dvb (gyes_none rfl) (q_int rfl rfl rfl) rfl (by decide) (cok2 trivial (cconst rfl)) (fun c3 => ?_) (fun c3 => ?_)
          ·
            replace c3 := of_decide_eq_true c3
            refine dv (gyes_none rfl) (q_mv (v := .bool true) rfl) rfl (by decide) (cok1 trivial) ?_
            refine dv (gyes_some rfl rfl) (q_mv (v := .slice (some ⟨b13, 0, none⟩) sm.length sm.length) rfl) rfl (by decide) (cok1 trivial) ?_
            refine dv (gyes_some rfl rfl) (q_mv (v := .int .i64 ((i : Nat) : Int)) rfl) rfl (by decide) (cok1 trivial) ?_
            refine dv (gyes_some rfl rfl) (OpQ.cast (v' := .pointer (some ⟨b13, i, none⟩)) (q_index1 (i := i) Try.underlying23 Try.sizeOf3 rfl rfl (by omega) (s41.rd (j := 4) rfl)) (by rw [Nat.zero_add])) rfl (by decide) (cok2 trivial trivial) ?_
            refine dv (gyes_some rfl rfl) (q_load (v := intv (nth sm i)) Try.isAgg3 rfl (s41.rd (j := 4) rfl) (get_nth (w := 0) (by omega))) rfl (by decide) (cok1 trivial) ?_
            refine dv (gyes_some rfl rfl) (q_mv (v := vb4) rfl) rfl (by decide) (cok1 trivial) ?_
            refine dv (gyes_some rfl rfl) (q_len_sl2 s41 Try.underlying22 hb6 rfl) rfl (by decide) (cok1 trivial) ?_
            refine dvb (gyes_some rfl rfl) (q_int rfl rfl rfl) rfl (by decide) (cok2 trivial trivial) (fun c4 => ?_) (fun c4 => ?_)
            ·
              replace c4 := of_decide_eq_true c4
              have hva : Valid (rows16 e) (nth sm i) := ⟨by omega, by omega⟩
              refine dv (gyes_none rfl) (q_pt (v := .bool true) rfl rfl) rfl (by decide) (call_ok rfl) ?_
              refine dv (gyes_none rfl) (q_mv (v := .bool true) rfl) rfl (by decide) (cok1 trivial) ?_
              refine dv (gyes_some rfl rfl) (q_mv (v := .slice (some ⟨b30, 0, none⟩) ((keptL (rows16 e) rt).length) ((keptL (rows16 e) rt).length)) rfl) rfl (by decide) (cok1 trivial) ?_
              refine dv (gyes_some rfl rfl) (q_mv (v := .slice (some ⟨b13, 0, none⟩) sm.length sm.length) rfl) rfl (by decide) (cok1 trivial) ?_
              refine dv (gyes_some rfl rfl) (q_mv (v := .int .i64 ((i : Nat) : Int)) rfl) rfl (by decide) (cok1 trivial) ?_
              refine dv (gyes_some rfl rfl) (OpQ.cast (v' := .pointer (some ⟨b13, i, none⟩)) (q_index1 (i := i) Try.underlying23 Try.sizeOf3 rfl rfl (by omega) (s41.rd (j := 4) rfl)) (by rw [Nat.zero_add])) rfl (by decide) (cok2 trivial trivial) ?_
              refine dv (gyes_some rfl rfl) (q_load (v := intv (nth sm i)) Try.isAgg3 rfl (s41.rd (j := 4) rfl) (get_nth (w := 0) (by omega))) rfl (by decide) (cok1 trivial) ?_
              refine dv (gyes_some rfl rfl) (OpQ.cast (v' := .pointer (some ⟨b30, (nth sm i).toNat, none⟩)) (q_indexI1 (z := (nth sm i)) Try.underlying32 Try.sizeOf4 rfl rfl (by omega) (by omega) (s41.rd (j := 1) rfl)) (by rw [Nat.zero_add])) rfl (by decide) (cok2 trivial trivial) ?_
              refine dvb (gyes_some rfl rfl) (q_load (v := boolv (nth (keptL (rows16 e) rt) ((nth sm i).toNat))) Try.isAgg4 rfl (s41.rd (j := 1) rfl) (get_nth (w := 0) (by omega))) rfl (by decide) (cok1 trivial) (fun c5 => ?_) (fun c5 => ?_)
              ·
                refine dv (gyes_some rfl rfl) (q_not (b := true) rfl) rfl (by decide) (cok1 trivial) ?_
                refine dv (gyes_none rfl) (q_pt (v := .bool false) rfl rfl) rfl (by decide) (call_ok rfl) ?_
                refine dv (gyes_none rfl) (q_mv (v := .bool false) rfl) rfl (by decide) (cok1 trivial) ?_
                refine dno rfl (.inl rfl) rfl (by decide) ?_
                refine dno rfl (.inl rfl) rfl (by decide) ?_
                refine dno rfl (.inl rfl) rfl (by decide) ?_
                refine dno rfl (.inl rfl) rfl (by decide) ?_
                refine dno rfl (.inl rfl) rfl (by decide) ?_
                refine dno rfl (.inl rfl) rfl (by decide) ?_
                refine dno rfl (.inl rfl) rfl (by decide) ?_
                refine dv (gyes_none rfl) (q_pf (v := .bool false) rfl rfl) rfl (by decide) (call_ok rfl) ?_
                refine ⟨_, Wk.refl _ _, ?_⟩
                show awp _ _ _ _ _ _ _
                refine awp_cond_f rfl ?_
                refine awp_skip_wk ?_
                refine ⟨_, Wk.refl _ _, ?_⟩
                show awp _ _ _ _ _ _ _
                refine awp_regs hF ?_
                refine dv (gyes_none rfl) (q_mv (v := .int .i64 ((i : Nat) : Int)) rfl) rfl (by decide) (cok1 trivial) ?_
                refine dv (gyes_none rfl) (OpQ.cast (v' := .int .i64 ((i + 1 : Nat) : Int)) (q_int rfl rfl rfl) (congrArg _ ((i64_in (by omega)).trans (by first | rfl | omega | (push_cast; rfl))))) rfl (by decide) (cok2 trivial (cconst rfl)) ?_
                refine dv (gyes_none rfl) (q_as (v := .int .i64 ((i + 1 : Nat) : Int)) rfl) rfl (by decide) (cok1 trivial) ?_
                refine ⟨_, Wk.U [(1, .slice (some ⟨b13, 0, none⟩) sm.length sm.length), (2, .slice (some ⟨b22, 0, none⟩) rt.length rt.length), (7, va3), (8, vb4), (10, .slice (some ⟨b30, 0, none⟩) ((keptL (rows16 e) rt).length) ((keptL (rows16 e) rt).length)), (12, .slice (some ⟨b, 0, none⟩) w.length w.length), (13, .int .i64 (((i + 1) : Nat) : Int))] ⟨rfl, rfl, rfl, rfl, rfl, rfl, rfl, trivial⟩, ((i + 1), w), ⟨_, _, rfl, s41, ⟨wq_no (by omega) hw.1 (by first | exact .inr (.inr (by assumption)) | exact .inr (.inl ⟨hva, by assumption⟩) | exact .inl (fun h => by have := h.1; have := h.2; omega)), by dsimp only; omega⟩⟩, (by omega)⟩
              ·
                refine dv (gyes_some rfl rfl) (q_not (b := false) rfl) rfl (by decide) (cok1 trivial) ?_
                refine dv (gyes_none rfl) (q_pt (v := .bool true) rfl rfl) rfl (by decide) (call_ok rfl) ?_
                refine dv (gyes_none rfl) (q_mv (v := .bool true) rfl) rfl (by decide) (cok1 trivial) ?_
                refine dv (gyes_some rfl rfl) (q_mv (v := .slice (some ⟨b, 0, none⟩) w.length w.length) rfl) rfl (by decide) (cok1 trivial) ?_
                refine dv (gyes_some rfl rfl) (q_mv (v := .slice (some ⟨b13, 0, none⟩) sm.length sm.length) rfl) rfl (by decide) (cok1 trivial) ?_
                refine dv (gyes_some rfl rfl) (q_mv (v := .int .i64 ((i : Nat) : Int)) rfl) rfl (by decide) (cok1 trivial) ?_
                refine dv (gyes_some rfl rfl) (OpQ.cast (v' := .pointer (some ⟨b13, i, none⟩)) (q_index1 (i := i) Try.underlying23 Try.sizeOf3 rfl rfl (by omega) (s41.rd (j := 4) rfl)) (by rw [Nat.zero_add])) rfl (by decide) (cok2 trivial trivial) ?_
                refine dv (gyes_some rfl rfl) (q_load (v := intv (nth sm i)) Try.isAgg3 rfl (s41.rd (j := 4) rfl) (get_nth (w := 0) (by omega))) rfl (by decide) (cok1 trivial) ?_
                refine dvb (gyes_some rfl rfl) (q_call0 Try.call14 rfl (in_ok w _ (s41.slj (j := 0) rfl (by first | rfl | (simp; done) | omega) (by first | exact Nat.le_refl _ | omega)) (by omega) (nth sm i))) rfl (by decide) (call_ok rfl) (fun c6 => ?_) (fun c6 => ?_)
                ·
                  replace c6 := of_decide_eq_true c6
                  refine dv (gyes_some rfl rfl) (q_not (b := true) rfl) rfl (by decide) (cok1 trivial) ?_
                  refine dv (gyes_none rfl) (q_pt (v := .bool false) rfl rfl) rfl (by decide) (call_ok rfl) ?_
                  refine ⟨_, Wk.refl _ _, ?_⟩
                  show awp _ _ _ _ _ _ _
                  refine awp_cond_f rfl ?_
                  refine awp_skip_wk ?_
                  refine ⟨_, Wk.refl _ _, ?_⟩
                  show awp _ _ _ _ _ _ _
                  refine awp_regs hF ?_
                  refine dv (gyes_none rfl) (q_mv (v := .int .i64 ((i : Nat) : Int)) rfl) rfl (by decide) (cok1 trivial) ?_
                  refine dv (gyes_none rfl) (OpQ.cast (v' := .int .i64 ((i + 1 : Nat) : Int)) (q_int rfl rfl rfl) (congrArg _ ((i64_in (by omega)).trans (by first | rfl | omega | (push_cast; rfl))))) rfl (by decide) (cok2 trivial (cconst rfl)) ?_
                  refine dv (gyes_none rfl) (q_as (v := .int .i64 ((i + 1 : Nat) : Int)) rfl) rfl (by decide) (cok1 trivial) ?_
                  refine ⟨_, Wk.U [(1, .slice (some ⟨b13, 0, none⟩) sm.length sm.length), (2, .slice (some ⟨b22, 0, none⟩) rt.length rt.length), (7, va3), (8, vb4), (10, .slice (some ⟨b30, 0, none⟩) ((keptL (rows16 e) rt).length) ((keptL (rows16 e) rt).length)), (12, .slice (some ⟨b, 0, none⟩) w.length w.length), (13, .int .i64 (((i + 1) : Nat) : Int))] ⟨rfl, rfl, rfl, rfl, rfl, rfl, rfl, trivial⟩, ((i + 1), w), ⟨_, _, rfl, s41, ⟨wq_no (by omega) hw.1 (by first | exact .inr (.inr (by assumption)) | exact .inr (.inl ⟨hva, by assumption⟩) | exact .inl (fun h => by have := h.1; have := h.2; omega)), by dsimp only; omega⟩⟩, (by omega)⟩
                ·
                  replace c6 := of_decide_eq_false c6
                  refine dv (gyes_some rfl rfl) (q_not (b := false) rfl) rfl (by decide) (cok1 trivial) ?_
                  refine dv (gyes_none rfl) (q_pt (v := .bool true) rfl rfl) rfl (by decide) (call_ok rfl) ?_
                  refine ⟨_, Wk.refl _ _, ?_⟩
                  show awp _ _ _ _ _ _ _
                  refine awp_cond_t rfl ?_
                  refine awp_regs hF ?_
                  refine dv (gyes_none rfl) (q_mv (v := .slice (some ⟨b, 0, none⟩) w.length w.length) rfl) rfl (by decide) (cok1 trivial) ?_
                  refine dv (gyes_none rfl) (q_mv (v := .slice (some ⟨b13, 0, none⟩) sm.length sm.length) rfl) rfl (by decide) (cok1 trivial) ?_
                  refine dv (gyes_none rfl) (q_mv (v := .int .i64 ((i : Nat) : Int)) rfl) rfl (by decide) (cok1 trivial) ?_
                  refine dv (gyes_none rfl) (OpQ.cast (v' := .pointer (some ⟨b13, i, none⟩)) (q_index1 (i := i) Try.underlying23 Try.sizeOf3 rfl rfl (by omega) (s41.rd (j := 4) rfl)) (by rw [Nat.zero_add])) rfl (by decide) (cok2 trivial trivial) ?_
                  refine dv (gyes_none rfl) (q_load (v := intv (nth sm i)) Try.isAgg3 rfl (s41.rd (j := 4) rfl) (get_nth (w := 0) (by omega))) rfl (by decide) (cok1 trivial) ?_
                  refine x_new (fun b => .slice (some ⟨b, 0, none⟩) 1 1) s41 (gyes_none rfl) (q_buildSliceL (ds := [.int .i64 (nth sm i)]) [.int .i64 (nth sm i)] rfl Try.underlying23 Try.sizeOf3 Try.zeroValue3 rfl (by decide) (by decide) ⟨rfl, trivial⟩ (lvsC (by exact trivial) lvs0) rfl rfl) rfl (by decide) (cok1 trivial) (fun b42 H43 hb45 s44 => ?_)
                  refine x_append (l := [(nth sm i)]) (f := intv) [] hF s44 (by kernel_rfl) (j := 1) ((w ++ [(nth sm i)]).length) (by simp) (gyes_none rfl) Try.underlying23 Try.underlying23 Try.type3 rfl rfl (by decide) rfl rfl rfl rfl (s44.slj (l := [(nth sm i)]) (f := intv) (j := 0) rfl rfl (Nat.le_refl _)) (fun x => lc_scalar rfl) (by simp) (by show (2 * _ + 1000) * 8 ≤ _; first | omega | (simp only [List.length_append, List.length_cons, List.length_nil, List.length_take, List.length_drop]; omega)) trivial trivial (by decide) rfl rfl (vs' := (w ++ [(nth sm i)]).map intv) (by simp) (fun b46 H47 hb49 s48 => ⟨?_, ?_⟩)
                  · exact trivial
                  refine dv (gyes_none rfl) (q_as (v := .slice (some ⟨b46, 0, none⟩) ((w ++ [(nth sm i)]).length) ((w ++ [(nth sm i)]).length)) rfl) rfl (by decide) (cok1 trivial) ?_
                  refine ⟨_, Wk.refl _ _, ?_⟩
                  show awp _ _ _ _ _ _ _
                  refine awp_regs hF ?_
                  refine dv (gyes_none rfl) (q_mv (v := .int .i64 ((i : Nat) : Int)) rfl) rfl (by decide) (cok1 trivial) ?_
                  refine dv (gyes_none rfl) (OpQ.cast (v' := .int .i64 ((i + 1 : Nat) : Int)) (q_int rfl rfl rfl) (congrArg _ ((i64_in (by omega)).trans (by first | rfl | omega | (push_cast; rfl))))) rfl (by decide) (cok2 trivial (cconst rfl)) ?_
                  refine dv (gyes_none rfl) (q_as (v := .int .i64 ((i + 1 : Nat) : Int)) rfl) rfl (by decide) (cok1 trivial) ?_
                  refine ⟨_, Wk.U [(1, .slice (some ⟨b13, 0, none⟩) sm.length sm.length), (2, .slice (some ⟨b22, 0, none⟩) rt.length rt.length), (7, va3), (8, vb4), (10, .slice (some ⟨b30, 0, none⟩) ((keptL (rows16 e) rt).length) ((keptL (rows16 e) rt).length)), (12, .slice (some ⟨b46, 0, none⟩) ((w ++ [nth sm i]).length) ((w ++ [nth sm i]).length)), (13, .int .i64 (((i + 1) : Nat) : Int))] ⟨rfl, rfl, rfl, rfl, rfl, rfl, rfl, trivial⟩, ((i + 1), (w ++ [nth sm i])), ⟨_, _, rfl, (s48.sub (.cons _ (.cons_cons _ (.cons_cons _ (.cons_cons _ (.cons_cons _ (.cons_cons _ (.refl _)))))))), ⟨wq_yes (by omega) hw.1 hva (by assumption) (by assumption), by simp; omega⟩⟩, (by omega)⟩
            ·
              replace c4 := of_decide_eq_false c4
              refine dv (gyes_none rfl) (q_pt (v := .bool false) rfl rfl) rfl (by decide) (call_ok rfl) ?_
              refine dv (gyes_none rfl) (q_mv (v := .bool false) rfl) rfl (by decide) (cok1 trivial) ?_
              refine dno rfl (.inl rfl) rfl (by decide) ?_
              refine dno rfl (.inl rfl) rfl (by decide) ?_
              refine dno rfl (.inl rfl) rfl (by decide) ?_
              refine dno rfl (.inl rfl) rfl (by decide) ?_
              refine dno rfl (.inl rfl) rfl (by decide) ?_
              refine dno rfl (.inl rfl) rfl (by decide) ?_
              refine dno rfl (.inl rfl) rfl (by decide) ?_
              refine dno rfl (.inl rfl) rfl (by decide) ?_
              refine dv (gyes_none rfl) (q_pf (v := .bool false) rfl rfl) rfl (by decide) (call_ok rfl) ?_
              refine dv (gyes_none rfl) (q_mv (v := .bool false) rfl) rfl (by decide) (cok1 trivial) ?_
              refine dno rfl (.inl rfl) rfl (by decide) ?_
              refine dno rfl (.inl rfl) rfl (by decide) ?_
              refine dno rfl (.inl rfl) rfl (by decide) ?_
              refine dno rfl (.inl rfl) rfl (by decide) ?_
              refine dno rfl (.inl rfl) rfl (by decide) ?_
              refine dno rfl (.inl rfl) rfl (by decide) ?_
              refine dno rfl (.inl rfl) rfl (by decide) ?_
              refine dv (gyes_none rfl) (q_pf (v := .bool false) rfl rfl) rfl (by decide) (call_ok rfl) ?_
              refine ⟨_, Wk.refl _ _, ?_⟩
              show awp _ _ _ _ _ _ _
              refine awp_cond_f rfl ?_
              refine awp_skip_wk ?_
              refine ⟨_, Wk.refl _ _, ?_⟩
              show awp _ _ _ _ _ _ _
              refine awp_regs hF ?_
              refine dv (gyes_none rfl) (q_mv (v := .int .i64 ((i : Nat) : Int)) rfl) rfl (by decide) (cok1 trivial) ?_
              refine dv (gyes_none rfl) (OpQ.cast (v' := .int .i64 ((i + 1 : Nat) : Int)) (q_int rfl rfl rfl) (congrArg _ ((i64_in (by omega)).trans (by first | rfl | omega | (push_cast; rfl))))) rfl (by decide) (cok2 trivial (cconst rfl)) ?_
              refine dv (gyes_none rfl) (q_as (v := .int .i64 ((i + 1 : Nat) : Int)) rfl) rfl (by decide) (cok1 trivial) ?_
              refine ⟨_, Wk.U [(1, .slice (some ⟨b13, 0, none⟩) sm.length sm.length), (2, .slice (some ⟨b22, 0, none⟩) rt.length rt.length), (7, va3), (8, vb4), (10, .slice (some ⟨b30, 0, none⟩) ((keptL (rows16 e) rt).length) ((keptL (rows16 e) rt).length)), (12, .slice (some ⟨b, 0, none⟩) w.length w.length), (13, .int .i64 (((i + 1) : Nat) : Int))] ⟨rfl, rfl, rfl, rfl, rfl, rfl, rfl, trivial⟩, ((i + 1), w), ⟨_, _, rfl, s41, ⟨wq_no (by omega) hw.1 (by first | exact .inr (.inr (by assumption)) | exact .inr (.inl ⟨hva, by assumption⟩) | exact .inl (fun h => by have := h.1; have := h.2; omega)), by dsimp only; omega⟩⟩, (by omega)⟩
          ·
            replace c3 := of_decide_eq_false c3
            refine dv (gyes_none rfl) (q_mv (v := .bool false) rfl) rfl (by decide) (cok1 trivial) ?_
            refine dno rfl (.inl rfl) rfl (by decide) ?_
            refine dno rfl (.inl rfl) rfl (by decide) ?_
            refine dno rfl (.inl rfl) rfl (by decide) ?_
            refine dno rfl (.inl rfl) rfl (by decide) ?_
            refine dno rfl (.inl rfl) rfl (by decide) ?_
            refine dno rfl (.inl rfl) rfl (by decide) ?_
            refine dno rfl (.inl rfl) rfl (by decide) ?_
            refine dv (gyes_none rfl) (q_pf (v := .bool false) rfl rfl) rfl (by decide) (call_ok rfl) ?_
            refine dv (gyes_none rfl) (q_mv (v := .bool false) rfl) rfl (by decide) (cok1 trivial) ?_
            refine dno rfl (.inl rfl) rfl (by decide) ?_
            refine dno rfl (.inl rfl) rfl (by decide) ?_
            refine dno rfl (.inl rfl) rfl (by decide) ?_
            refine dno rfl (.inl rfl) rfl (by decide) ?_
            refine dno rfl (.inl rfl) rfl (by decide) ?_
            refine dno rfl (.inl rfl) rfl (by decide) ?_
            refine dno rfl (.inl rfl) rfl (by decide) ?_
            refine dno rfl (.inl rfl) rfl (by decide) ?_
            refine dv (gyes_none rfl) (q_pf (v := .bool false) rfl rfl) rfl (by decide) (call_ok rfl) ?_
            refine dv (gyes_none rfl) (q_mv (v := .bool false) rfl) rfl (by decide) (cok1 trivial) ?_
            refine dno rfl (.inl rfl) rfl (by decide) ?_
            refine dno rfl (.inl rfl) rfl (by decide) ?_
            refine dno rfl (.inl rfl) rfl (by decide) ?_
            refine dno rfl (.inl rfl) rfl (by decide) ?_
            refine dno rfl (.inl rfl) rfl (by decide) ?_
            refine dno rfl (.inl rfl) rfl (by decide) ?_
            refine dno rfl (.inl rfl) rfl (by decide) ?_
            refine dv (gyes_none rfl) (q_pf (v := .bool false) rfl rfl) rfl (by decide) (call_ok rfl) ?_
            refine ⟨_, Wk.refl _ _, ?_⟩
            show awp _ _ _ _ _ _ _
            refine awp_cond_f rfl ?_
            refine awp_skip_wk ?_
            refine ⟨_, Wk.refl _ _, ?_⟩
            show awp _ _ _ _ _ _ _
            refine awp_regs hF ?_
            refine dv (gyes_none rfl) (q_mv (v := .int .i64 ((i : Nat) : Int)) rfl) rfl (by decide) (cok1 trivial) ?_
            refine dv (gyes_none rfl) (OpQ.cast (v' := .int .i64 ((i + 1 : Nat) : Int)) (q_int rfl rfl rfl) (congrArg _ ((i64_in (by omega)).trans (by first | rfl | omega | (push_cast; rfl))))) rfl (by decide) (cok2 trivial (cconst rfl)) ?_
            refine dv (gyes_none rfl) (q_as (v := .int .i64 ((i + 1 : Nat) : Int)) rfl) rfl (by decide) (cok1 trivial) ?_
            refine ⟨_, Wk.U [(1, .slice (some ⟨b13, 0, none⟩) sm.length sm.length), (2, .slice (some ⟨b22, 0, none⟩) rt.length rt.length), (7, va3), (8, vb4), (10, .slice (some ⟨b30, 0, none⟩) ((keptL (rows16 e) rt).length) ((keptL (rows16 e) rt).length)), (12, .slice (some ⟨b, 0, none⟩) w.length w.length), (13, .int .i64 (((i + 1) : Nat) : Int))] ⟨rfl, rfl, rfl, rfl, rfl, rfl, rfl, trivial⟩, ((i + 1), w), ⟨_, _, rfl, s41, ⟨wq_no (by omega) hw.1 (by first | exact .inr (.inr (by assumption)) | exact .inr (.inl ⟨hva, by assumption⟩) | exact .inl (fun h => by have := h.1; have := h.2; omega)), by dsimp only; omega⟩⟩, (by omega)⟩
        ·
          replace c2 := of_decide_eq_false c2
          have hwe : wq (rows16 e) rt sm = w := by rw [hw.1, List.take_of_length_le (by omega)]
          subst hwe
          refine ⟨_, Wk.refl _ _, ?_⟩
          show awp _ _ _ _ _ _ _
          refine awp_cond_f rfl ?_
          refine awp_exit_wk ?_
          refine ⟨_, Wk.refl _ _, ?_⟩
          show awp _ _ _ _ _ _ _
          refine awp_seq ?_
          refine awp_regs hF ?_
          refine dv (gyes_none rfl) (q_mv (v := va3) rfl) rfl (by decide) (cok1 trivial) ?_
          refine dv (gyes_none rfl) (q_mv (v := .slice (some ⟨b13, 0, none⟩) sm.length sm.length) rfl) rfl (by decide) (cok1 trivial) ?_
          refine dv (gyes_none rfl) (q_mv (v := .slice (some ⟨b22, 0, none⟩) rt.length rt.length) rfl) rfl (by decide) (cok1 trivial) ?_
          refine x_new (fun b => .slice (some ⟨b, 0, none⟩) (wq (rows16 e) rt sm).length (wq (rows16 e) rt sm).length) s41 (gyes_none rfl) (q_call (Δ := [.cells true ((wq (rows16 e) rt sm).map intv) 1]) Try.call15 rfl (by simp [AObj.wr]) (acalls_fresh intv_sc (gone_ok (rows16 e) _ (ha5.of s41) (rows16_sized e) sm _ (s41.slj (j := 4) rfl (by first | rfl | (simp; done) | omega) (by first | exact Nat.le_refl _ | omega)) hsm rt _ (s41.slj (j := 3) rfl (by first | rfl | (simp; done) | omega) (by first | exact Nat.le_refl _ | omega)) hrt))) rfl (by decide) (call_ok rfl) (fun b50 H51 hb53 s52 => ?_)
          refine dv (gyes_none rfl) (q_mv (v := .slice (some ⟨b, 0, none⟩) ((wq (rows16 e) rt sm).length) ((wq (rows16 e) rt sm).length)) rfl) rfl (by decide) (cok1 trivial) ?_
          refine dv (gyes_none rfl) (q_call0 Try.call9 rfl (same_ok _ _ _ (s52.slj (j := 0) rfl (by first | rfl | (simp; done) | omega) (by first | exact Nat.le_refl _ | omega)) (s52.slj (j := 1) rfl (by first | rfl | (simp; done) | omega) (by first | exact Nat.le_refl _ | omega)) (by have := wq_len (rows16 e) rt sm; omega))) rfl (by decide) (call_ok rfl) ?_
          refine dv (gyes_none rfl) (q_as (v := .bool true) rfl) rfl (by decide) (cok1 trivial) ?_
          refine ⟨_, Wk.refl _ _, ?_⟩
          show awp _ _ _ _ _ _ _
          refine awp_ret_wk ?_
          refine ⟨_, Wk.refl _ _, ?_⟩
          repeat (with_reducible first | refine then_ret ?_ | refine blk_ret ?_ | refine then_exit ?_ | refine blk_exit ?_ | refine blk_exit' (by decide) ?_ | refine blk_normal ?_ | refine then_normal ?_ | refine retq_ret ?_ | refine retq_normal ?_ | refine ng_normal ?_ | refine ng_ret ?_ | refine ng_exit ?_)
          exact ret_none (v := .bool true) rfl s52.kp (.tmp rfl .nil) rfl rfl ⟨rfl, rfl⟩

end Go.Proofs.YtbjlabokijchpaaA
