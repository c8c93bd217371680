/-
  Walks over abstract states: texts of one claim, merged.
-/
import Derived.Test.YtjgeheookgogaaaM3
import Derived.Test.YtjgeheookgogaaaProg
import Derived.KernelRfl
/-
  Walks of functions of the given program, and what they compute.
-/
namespace Go.Proofs.YtjgeheookgogaaaA
set_option linter.unusedVariables false
open Go Go.RowKit Go.Shelf Go.Proofs
section
variable {P : Program} {T : Nat → Value} {H : AHeap} {dst : Option Tmp} {ty : TypeId} {pos : String} {af : Array Edge} {g : Option (Nat × Bool)} {v : Value} {α : Type} [Inhabited α] {f : α → List Value} {m : Nat} {l : List α}
theorem q_indexArr_sls {t el : TypeId} {x y : Operand} {i j n oo len : Nat} {k : IntKind} (hu : P.underlying t = some (.array len el)) (hs : ∀ w, (sizeOf el).run P w = .ok n w) (h : SlS f m H v l) (hw : Wm f m) (hx : ev T x = .pointer (some ⟨sb v, oo, none⟩)) (hy : ev T y = .int k (j : Nat)) (hj : j < len) (hi : i < l.length) :
    OpQ P ⟨dst, .indexAddr t x y, ty, pos, af, g⟩ T H (.pointer (some ⟨sb v, oo + j * n, none⟩)) [] := by
  obtain ⟨b, o, c, vs, rfl, h2, h3, h4⟩ := h.at' hi hw
  exact q_indexArr hu hs hx hy hj h2
end
theorem arr2_spc : ElemOk Try.prog 28 spc SpW := fun H enc w base fuel cs x h => by
  obtain ⟨n0, g0, b0⟩ := arr_u64 Try.underlying28 (by kernel_rfl) Try.underlying27 h (i := 0) (by decide)
  obtain ⟨n1, g1, b1⟩ := arr_u64 Try.underlying28 (by kernel_rfl) Try.underlying27 h (i := 1) (by decide)
  have hl : cs.length = 2 := (arr_len Try.underlying28 h).trans (by kernel_rfl)
  match cs, hl with
  | [c0, c1], _ =>
    obtain rfl : c0 = _ := Option.some.inj g0
    obtain rfl : c1 = _ := Option.some.inj g1
    exact ⟨(n0, n1), rfl, b0, b1⟩
theorem fitC_free {n al : Nat} {iv : Sp} {l : List Sp} {a : Nat} (h : FitC n al iv l a) : l.any (meetsB (a, a + n)) = false := by
  rw [List.any_eq_false]
  intro x hx q
  have := meets_iff.1 q
  dsimp only at this
  have := h.free x hx
  omega
theorem addV_cov {l : List Sp} {x : Sp} {L : List Sp} (h : AddV l x true L) : (decide (x.2 ≤ x.1) || L.any (withinB x)) = true := by
  obtain ⟨y, h1, h2⟩ := h.sup rfl
  rw [List.any_eq_true.2 ⟨y, h1, within_iff.2 (.inr h2)⟩, Bool.or_true]
theorem remV_no {l : List Sp} {x : Sp} {L : List Sp} (h : RemV l x true L) : L.any (meetsB x) = false := by
  cases e : L.any (meetsB x) with
  | false => rfl
  | true =>
    obtain ⟨a, h1, h2⟩ := any_meets.1 e
    exact absurd ⟨rfl, h1⟩ ((h.ins a).1 h2).2
set_option maxRecDepth 100000 in
set_option maxHeartbeats 4000000 in
theorem spanFits_ok {H0 : AHeap} (va : Value) (z : List Sp) (hz : SlS spc 2 H0 va z) (hzw : ∀ x ∈ z, SpW x) (n al : Nat) (hn : n < 18446744073709551616) (hal : al < 18446744073709551616) : ACalls Try.prog 6 [va, .int .u64 ((n : Nat) : Int), .int .u64 ((al : Nat) : Int)] H0 (Rets (.bool true) H0) := by
  have hF : Wd Fence.wide := .inl rfl
  have hM : Try.prog.follows .mixedOrders = true := by kernel_rfl
  have s0 := St.begin H0
  refine acalls_st Try.func6 rfl Try.ntmps6 rfl ?_
  refine awp_seq ?_
  refine awp_regs hF ?_
  refine dv (gyes_none rfl) (q_as (v := .bool false) rfl) rfl (by decide) (cok1 (cconst rfl)) ?_
  refine ⟨_, Wk.refl _ _, ?_⟩
  show awp _ _ _ _ _ _ _
  refine awp_seq ?_
  refine awp_seq ?_
  refine awp_regs hF ?_
  refine dv (gyes_none rfl) (q_call0 Try.call8 rfl (speaks_ok)) rfl (by decide) (cok1 trivial) ?_
  refine dv (gyes_none rfl) (q_not (b := true) rfl) rfl (by decide) (cok1 trivial) ?_
  refine ⟨_, Wk.refl _ _, ?_⟩
  show awp _ _ _ _ _ _ _
  refine awp_cond_f rfl ?_
  refine awp_skip_wk ?_
  refine ⟨_, Wk.refl _ _, ?_⟩
  show awp _ _ _ _ _ _ _
  refine awp_seq ?_
  refine awp_regs hF ?_
  refine x_new (fun b => .pointer (some ⟨b, 0, none⟩)) s0 (gyes_none rfl) (q_alloc (vs := [.slice none 0 0]) 1 Try.zeroValue26 (by first | exact flat_scalar rfl | exact flat_agg rfl) rfl) rfl (by decide) (by simp [Op.operands, Call.operands]) (fun b1 H2 hb4 s3 => ?_)
  refine ⟨_, Wk.refl _ _, ?_⟩
  show awp _ _ _ _ _ _ _
  refine awp_seq ?_
  refine awp_seq ?_
  refine awp_nilc s3 (j := 0) (o := 0) (sz' := 2) rfl rfl (fun b5 H6 hb8 s7 => ?_)
  refine awp_regs hF ?_
  refine dv (gyes_none rfl) (q_as (v := .int .i64 0) rfl) rfl (by decide) (cok1 (cconst rfl)) ?_
  refine ⟨_, Wk.refl _ _, ?_⟩
  show awp _ _ _ _ _ _ _
  refine awp_block ?_
  refine awp_wk (Wk.U [(0, va), (1, .int .u64 ((n : Nat) : Int)), (2, .int .u64 ((al : Nat) : Int)), (6, .bool false), (7, .pointer (some ⟨b1, 0, none⟩)), (8, .int .i64 0)] ⟨rfl, rfl, rfl, rfl, rfl, rfl, trivial⟩) ?_
  refine awp_loop (fun ((i, L) : Nat × (List Sp)) st => ∃ (H9 : AHeap) (b2 : Nat), st = ⟨93, U [(0, va), (1, .int .u64 ((n : Nat) : Int)), (2, .int .u64 ((al : Nat) : Int)), (6, .bool false), (7, .pointer (some ⟨b1, 0, none⟩)), (8, .int .i64 ((i : Nat) : Int))], [], H9⟩ ∧ St H0 (none0) (Rd H0) H9 [(b2, .cells true (fl spc L) 2), (b1, .cells true [.slice (some ⟨b2, 0, none⟩) L.length L.length] 1)] ∧ (Canon L ∧ (∀ y ∈ L, SpW y) ∧ L.length ≤ i ∧ i ≤ 20)) (fun ((i, L) : Nat × (List Sp)) => z.length - i) (x0 := (0, ([] : List Sp))) ?h0 ?round
  case h0 =>
    exact ⟨_, _, rfl, s7, ⟨canon_nil, (fun _ h => nomatch h), Nat.le_refl _, by decide⟩⟩
  case round =>
    rintro ⟨i, L⟩ _ ⟨H9, b2, rfl, s10, hc⟩
    dsimp only at *
    refine awp_seq ?_
    refine awp_seq ?_
    refine awp_regs hF ?_
    refine dv (gyes_none rfl) (q_mv (v := .int .i64 ((i : Nat) : Int)) rfl) rfl (by decide) (cok1 trivial) ?_
    refine dv (gyes_none rfl) (q_mv (v := va) rfl) rfl (by decide) (cok1 trivial) ?_
    refine dv (gyes_none rfl) (q_len_sls (l := z) Try.underlying22 (s10.sls hz) rfl) rfl (by decide) (cok1 trivial) ?_
    refine dvb (gyes_none rfl) (q_int rfl rfl rfl) rfl (by decide) (cok2 trivial trivial) (fun c1 => ?_) (fun c1 => ?_)
    ·
      replace c1 := of_decide_eq_true c1
      refine dv (gyes_none rfl) (q_mv (v := .bool true) rfl) rfl (by decide) (cok1 trivial) ?_
      refine dv (gyes_some rfl rfl) (q_mv (v := .int .i64 ((i : Nat) : Int)) rfl) rfl (by decide) (cok1 trivial) ?_
      refine dvb (gyes_some rfl rfl) (q_int rfl rfl rfl) rfl (by decide) (cok2 trivial (cconst rfl)) (fun c2 => ?_) (fun c2 => ?_)
      ·
        replace c2 := of_decide_eq_true c2
        refine dv (gyes_none rfl) (q_pt (v := .bool true) rfl rfl) rfl (by decide) (call_ok rfl) ?_
        refine ⟨_, Wk.refl _ _, ?_⟩
        show awp _ _ _ _ _ _ _
        refine awp_cond_t rfl ?_
        refine awp_skip_wk ?_
        refine ⟨_, Wk.refl _ _, ?_⟩
        show awp _ _ _ _ _ _ _
        refine awp_seq ?_
        refine awp_block ?_
        refine awp_regt hF hM (by kernel_rfl) (by kernel_rfl) ?_
        refine dv (gyes_none rfl) (q_mv (v := va) rfl) rfl (by decide) (cok1 trivial) ?_
        refine dv (gyes_none rfl) (q_mv (v := .int .i64 ((i : Nat) : Int)) rfl) rfl (by decide) (cok1 trivial) ?_
        refine dv (gyes_none rfl) (q_index_sls (l := z) (i := i) Try.underlying22 Try.sizeOf28 (s10.sls hz) spc_w rfl rfl (by omega)) rfl (by decide) (cok2 trivial trivial) ?_
        refine dv (gyes_none rfl) (OpQ.cast (v' := .pointer (some ⟨sb va, so va + i * 2, none⟩)) (q_indexArr_sls (l := z) (i := i) (j := 0) Try.underlying28 Try.sizeOf27 (s10.sls hz) spc_w rfl rfl (by decide) (by omega)) rfl) rfl (by decide) (cok2 trivial (cconst rfl)) ?_
        refine dv (gyes_none rfl) (q_load_sls0 (l := z) (i := i) (u := .int .u64 (((nth z i).1 : Nat) : Int)) Try.isAgg27 (s10.sls hz) spc_w rfl (by omega) (by decide) rfl) rfl (by decide) (cok1 trivial) ?_
        refine dv (gyes_none rfl) (q_mv (v := va) rfl) rfl (by decide) (cok1 trivial) ?_
        refine dv (gyes_none rfl) (q_mv (v := .int .i64 ((i : Nat) : Int)) rfl) rfl (by decide) (cok1 trivial) ?_
        refine dv (gyes_none rfl) (q_index_sls (l := z) (i := i) Try.underlying22 Try.sizeOf28 (s10.sls hz) spc_w rfl rfl (by omega)) rfl (by decide) (cok2 trivial trivial) ?_
        refine dv (gyes_none rfl) (OpQ.cast (v' := .pointer (some ⟨sb va, so va + i * 2 + 1, none⟩)) (q_indexArr_sls (l := z) (i := i) (j := 1) Try.underlying28 Try.sizeOf27 (s10.sls hz) spc_w rfl rfl (by decide) (by omega)) rfl) rfl (by decide) (cok2 trivial (cconst rfl)) ?_
        refine dv (gyes_none rfl) (q_load_sls (l := z) (i := i) (u := .int .u64 (((nth z i).2 : Nat) : Int)) Try.isAgg27 (s10.sls hz) spc_w rfl (by omega) (by decide) rfl) rfl (by decide) (cok1 trivial) ?_
        refine dv (gyes_none rfl) (q_buildL (ds := [.int .u64 (((nth z i).1 : Nat) : Int), .int .u64 (((nth z i).2 : Nat) : Int)]) [(0, 1), (1, 1)] [.int .u64 (((nth z i).1 : Nat) : Int), .int .u64 (((nth z i).2 : Nat) : Int)] Try.underlying30 Try.zeroValue30 (by first | exact flat_agg rfl | exact flat_scalar rfl) (by kernel_rfl) ⟨rfl, rfl, trivial⟩ (lvsC (by exact trivial) (lvsC (by exact trivial) lvs0)) rfl) rfl (by decide) (cok2 trivial trivial) ?_
        refine x_call [] hF (by kernel_rfl) (gyes_none rfl) Try.call9 rfl (args := [.pointer (some ⟨b1, 0, none⟩), .agg #[.int .u64 (((nth z i).1 : Nat) : Int), .int .u64 (((nth z i).2 : Nat) : Int)]]) rfl (add_ok b1 b2 L (by first | decide | omega) (nod2 (s10.nej (i := 1) (j := 0) rfl rfl (by decide))) (s10.getj (j := 1) rfl) (s10.getj (j := 0) rfl) (nth z i)) (show _ < _ by decide) (call_ok rfl) rfl rfl (fun _ _ _ _ hd => by cases hd) ?_
        rintro _ H11 ⟨ok20, L21, b12, rfl, hr13, hk14, ho15, hn16, h17, h18⟩
        have s19 := s10.turn2 (j9 := 1) (jl := 0) rfl rfl (by decide) hk14 ho15 hn16 h17 h18
        have hv := addR_v hr13 hc.1 hc.2.1 (hzw _ (nthN_mem (by omega)))
        have hlen := hv.len
        refine ⟨trivial, ?_⟩
        show dList _ _ _ _ _ _ _ _ _ _
        refine ⟨_, Wk.refl _ _, ?_⟩
        show awp _ _ _ _ _ _ _
        refine awp_regs hF ?_
        refine dv (gyes_none rfl) (q_mv (v := .int .i64 ((i : Nat) : Int)) rfl) rfl (by decide) (cok1 trivial) ?_
        refine dv (gyes_none rfl) (OpQ.cast (v' := .int .i64 ((i + 1 : Nat) : Int)) (q_int rfl rfl rfl) (congrArg _ ((i64_in (by omega)).trans (by first | rfl | omega | (push_cast; rfl))))) rfl (by decide) (cok2 trivial (cconst rfl)) ?_
        refine dv (gyes_none rfl) (q_as (v := .int .i64 ((i + 1 : Nat) : Int)) rfl) rfl (by decide) (cok1 trivial) ?_
        refine ⟨_, Wk.U [(0, va), (1, .int .u64 ((n : Nat) : Int)), (2, .int .u64 ((al : Nat) : Int)), (6, .bool false), (7, .pointer (some ⟨b1, 0, none⟩)), (8, .int .i64 (((i + 1) : Nat) : Int))] ⟨rfl, rfl, rfl, rfl, rfl, rfl, trivial⟩, ((i + 1), L21), ⟨_, _, rfl, s19, ⟨hv.canon, hv.spw, by dsimp only; omega, by dsimp only; omega⟩⟩, (by omega)⟩
      ·
        replace c2 := of_decide_eq_false c2
        refine dv (gyes_none rfl) (q_pt (v := .bool false) rfl rfl) rfl (by decide) (call_ok rfl) ?_
        refine ⟨_, Wk.refl _ _, ?_⟩
        show awp _ _ _ _ _ _ _
        refine awp_cond_f rfl ?_
        refine awp_exit_wk ?_
        refine ⟨_, Wk.refl _ _, ?_⟩
        show awp _ _ _ _ _ _ _
        refine awp_seq ?_
        refine awp_regs hF ?_
        refine dv (gyes_none rfl) (q_buildL (ds := [.int .u64 65536, .int .u64 4294967296]) [(0, 1), (1, 1)] [.int .u64 65536, .int .u64 4294967296] Try.underlying30 Try.zeroValue30 (by first | exact flat_agg rfl | exact flat_scalar rfl) (by kernel_rfl) ⟨rfl, rfl, trivial⟩ (lvsC (by exact trivial) (lvsC (by exact trivial) lvs0)) rfl) rfl (by decide) (cok2 (cconst rfl) (cconst rfl)) ?_
        refine x_new (fun b => .pointer (some ⟨b, 0, none⟩)) s10 (gyes_none rfl) (q_alloc (vs := [.int .u64 0, .int .u64 0]) 2 Try.zeroValue30 (by first | exact flat_scalar rfl | exact flat_agg rfl) rfl) rfl (by decide) (by simp [Op.operands, Call.operands]) (fun b22 H23 hb25 s24 => ?_)
        refine x_store [] hF s24 (by kernel_rfl) (gyes_none rfl) (j := 0) (v := .agg #[.int .u64 65536, .int .u64 4294967296]) rfl Try.sizeOf30 rfl rfl rfl rfl rfl trivial (lcsA ⟨(lc_scalar rfl), (lc_scalar rfl), trivial⟩) (Nat.le_of_ble_eq_true rfl) trivial trivial rfl rfl (F' := [(b22, .cells true [.int .u64 65536, .int .u64 4294967296] 2), (b2, .cells true (fl spc L) 2), (b1, .cells true [.slice (some ⟨b2, 0, none⟩) L.length L.length] 1)]) rfl (fun H26 s27 => ⟨?_, ?_⟩)
        · exact trivial
        refine ⟨_, Wk.refl _ _, ?_⟩
        show awp _ _ _ _ _ _ _
        refine awp_seq ?_
        refine awp_regs hF ?_
        refine dv (gyes_none rfl) (q_mv (v := .int .u64 ((n : Nat) : Int)) rfl) rfl (by decide) (cok1 trivial) ?_
        refine dv (gyes_none rfl) (q_mv (v := .int .u64 ((al : Nat) : Int)) rfl) rfl (by decide) (cok1 trivial) ?_
        refine dv (gyes_none rfl) (q_loadAgg Try.isAgg30 Try.sizeOf30 rfl (s27.rd (j := 0) rfl) (Nat.le_of_ble_eq_true rfl) rfl) rfl (by decide) (cok1 trivial) ?_
        refine dv (gyes_none rfl) (q_call0 Try.call23 rfl (fit_ok b1 _ L (s27.rd (j := 2) rfl) (s27.slsj (l := L) spc_w (j := 1) rfl rfl (Nat.le_refl _)) (by first | decide | omega) hc.2.1 n al (65536, 4294967296) hn hal (by unfold SpW; decide))) rfl (by decide) (call_ok rfl) ?_
        refine dv (gyes_none rfl) (q_mv (v := .tuple #[.int .u64 (((fitV n al (65536, 4294967296) L).1 : Nat) : Int), .bool ((fitV n al (65536, 4294967296) L).2)]) rfl) rfl (by decide) (cok1 trivial) ?_
        refine dv (gyes_none rfl) (q_extract (v := .int .u64 (((fitV n al (65536, 4294967296) L).1 : Nat) : Int)) rfl rfl) rfl (by decide) (cok1 trivial) ?_
        refine dvb (gyes_none rfl) (q_extract (v := .bool ((fitV n al (65536, 4294967296) L).2)) rfl rfl) rfl (by decide) (cok1 trivial) (fun c3 => ?_) (fun c3 => ?_)
        ·
          refine dv (gyes_none rfl) (q_as (v := .int .u64 (((fitV n al (65536, 4294967296) L).1 : Nat) : Int)) rfl) rfl (by decide) (cok1 trivial) ?_
          refine dv (gyes_none rfl) (q_as (v := .bool true) rfl) rfl (by decide) (cok1 trivial) ?_
          refine ⟨_, Wk.refl _ _, ?_⟩
          show awp _ _ _ _ _ _ _
          refine awp_seq ?_
          refine awp_seq ?_
          refine awp_regs hF ?_
          refine dv (gyes_none rfl) (q_mv (v := .bool true) rfl) rfl (by decide) (cok1 trivial) ?_
          refine dv (gyes_none rfl) (q_not (b := true) rfl) rfl (by decide) (cok1 trivial) ?_
          refine ⟨_, Wk.refl _ _, ?_⟩
          show awp _ _ _ _ _ _ _
          refine awp_cond_f rfl ?_
          refine awp_skip_wk ?_
          refine ⟨_, Wk.refl _ _, ?_⟩
          show awp _ _ _ _ _ _ _
          refine awp_seq ?_
          have hFt := fitV_ok (n := n) (al := al) (iv := (65536, 4294967296)) (l := L) hc.1 hc.2.1 (by unfold SpW; decide) hal (by assumption)
          have hn0 := hFt.n0
          have hal0 := hFt.al0
          have hmul := hFt.mul
          have hlo := hFt.lo
          have hhi := hFt.hi
          dsimp only at hlo hhi
          have hxw : SpW ((fitV n al (65536, 4294967296) L).1, (fitV n al (65536, 4294967296) L).1 + n) := ⟨by dsimp only; omega, by dsimp only; omega⟩
          refine awp_regs hF ?_
          refine dv (gyes_none rfl) (q_mv (v := .int .u64 (((fitV n al (65536, 4294967296) L).1 : Nat) : Int)) rfl) rfl (by decide) (cok1 trivial) ?_
          refine dv (gyes_none rfl) (q_mv (v := .int .u64 (((fitV n al (65536, 4294967296) L).1 : Nat) : Int)) rfl) rfl (by decide) (cok1 trivial) ?_
          refine dv (gyes_none rfl) (q_mv (v := .int .u64 ((n : Nat) : Int)) rfl) rfl (by decide) (cok1 trivial) ?_
          refine dv (gyes_none rfl) (OpQ.cast (v' := .int .u64 (((fitV n al (65536, 4294967296) L).1 + n : Nat) : Int)) (q_int rfl rfl rfl) (congrArg _ ((u64_in (by omega)).trans (by first | rfl | omega | (push_cast; rfl))))) rfl (by decide) (cok2 trivial trivial) ?_
          refine dv (gyes_none rfl) (q_buildL (ds := [.int .u64 (((fitV n al (65536, 4294967296) L).1 : Nat) : Int), .int .u64 (((fitV n al (65536, 4294967296) L).1 + n : Nat) : Int)]) [(0, 1), (1, 1)] [.int .u64 (((fitV n al (65536, 4294967296) L).1 : Nat) : Int), .int .u64 (((fitV n al (65536, 4294967296) L).1 + n : Nat) : Int)] Try.underlying30 Try.zeroValue30 (by first | exact flat_agg rfl | exact flat_scalar rfl) (by kernel_rfl) ⟨rfl, rfl, trivial⟩ (lvsC (by exact trivial) (lvsC (by exact trivial) lvs0)) rfl) rfl (by decide) (cok2 trivial trivial) ?_
          refine x_new (fun b => .pointer (some ⟨b, 0, none⟩)) s27 (gyes_none rfl) (q_alloc (vs := [.int .u64 0, .int .u64 0]) 2 Try.zeroValue30 (by first | exact flat_scalar rfl | exact flat_agg rfl) rfl) rfl (by decide) (by simp [Op.operands, Call.operands]) (fun b28 H29 hb31 s30 => ?_)
          refine x_store [] hF s30 (by kernel_rfl) (gyes_none rfl) (j := 0) (v := .agg #[.int .u64 (((fitV n al (65536, 4294967296) L).1 : Nat) : Int), .int .u64 (((fitV n al (65536, 4294967296) L).1 + n : Nat) : Int)]) rfl Try.sizeOf30 rfl rfl rfl rfl rfl trivial (lcsA ⟨(lc_scalar rfl), (lc_scalar rfl), trivial⟩) (Nat.le_of_ble_eq_true rfl) trivial trivial rfl rfl (F' := [(b28, .cells true [.int .u64 (((fitV n al (65536, 4294967296) L).1 : Nat) : Int), .int .u64 (((fitV n al (65536, 4294967296) L).1 + n : Nat) : Int)] 2), (b22, .cells true [.int .u64 65536, .int .u64 4294967296] 2), (b2, .cells true (fl spc L) 2), (b1, .cells true [.slice (some ⟨b2, 0, none⟩) L.length L.length] 1)]) rfl (fun H32 s33 => ⟨?_, ?_⟩)
          · exact trivial
          refine ⟨_, Wk.refl _ _, ?_⟩
          show awp _ _ _ _ _ _ _
          refine awp_seq ?_
          refine awp_regs hF ?_
          refine dv (gyes_none rfl) (q_mv (v := .int .u64 ((n : Nat) : Int)) rfl) rfl (by decide) (cok1 trivial) ?_
          refine dv (gyes_none rfl) (OpQ.cast (v' := .bool true) (q_int rfl rfl rfl) (congrArg Value.bool (decide_eq_true (by omega)))) rfl (by decide) (cok2 trivial (cconst rfl)) ?_
          refine dv (gyes_none rfl) (q_mv (v := .bool true) rfl) rfl (by decide) (cok1 trivial) ?_
          refine dv (gyes_some rfl rfl) (q_mv (v := .int .u64 ((al : Nat) : Int)) rfl) rfl (by decide) (cok1 trivial) ?_
          refine dv (gyes_some rfl rfl) (OpQ.cast (v' := .bool true) (q_int rfl rfl rfl) (congrArg Value.bool (decide_eq_true (by omega)))) rfl (by decide) (cok2 trivial (cconst rfl)) ?_
          refine dv (gyes_none rfl) (q_pt (v := .bool true) rfl rfl) rfl (by decide) (call_ok rfl) ?_
          refine dv (gyes_none rfl) (q_mv (v := .bool true) rfl) rfl (by decide) (cok1 trivial) ?_
          refine dv (gyes_some rfl rfl) (q_mv (v := .int .u64 (((fitV n al (65536, 4294967296) L).1 : Nat) : Int)) rfl) rfl (by decide) (cok1 trivial) ?_
          refine dv (gyes_some rfl rfl) (q_mv (v := .int .u64 ((al : Nat) : Int)) rfl) rfl (by decide) (cok1 trivial) ?_
          refine dv (gyes_some rfl rfl) (q_remM (a := ((fitV n al (65536, 4294967296) L).1)) (b := al) rfl rfl (by first | decide | omega)) rfl (by decide) (cok2 trivial trivial) ?_
          refine dv (gyes_some rfl rfl) (OpQ.cast (v' := .bool true) (q_int rfl rfl rfl) (congrArg Value.bool (beq_iff_eq.2 (by omega)))) rfl (by decide) (cok2 trivial (cconst rfl)) ?_
          refine dv (gyes_none rfl) (q_pt (v := .bool true) rfl rfl) rfl (by decide) (call_ok rfl) ?_
          refine dv (gyes_none rfl) (q_mv (v := .bool true) rfl) rfl (by decide) (cok1 trivial) ?_
          refine dv (gyes_some rfl rfl) (q_loadAgg Try.isAgg30 Try.sizeOf30 rfl (s33.rd (j := 0) rfl) (Nat.le_of_ble_eq_true rfl) rfl) rfl (by decide) (cok1 trivial) ?_
          refine dv (gyes_some rfl rfl) (q_loadAgg Try.isAgg30 Try.sizeOf30 rfl (s33.rd (j := 1) rfl) (Nat.le_of_ble_eq_true rfl) rfl) rfl (by decide) (cok1 trivial) ?_
          refine dv (gyes_some rfl rfl) (q_call0 Try.call18 rfl (ACalls.castV (v' := .bool true) (spwithin_ok ((fitV n al (65536, 4294967296) L).1, (fitV n al (65536, 4294967296) L).1 + n) (65536, 4294967296)) (congrArg Value.bool (within_iff.2 (.inr ⟨hlo, hhi⟩))))) rfl (by decide) (call_ok rfl) ?_
          refine dv (gyes_none rfl) (q_pt (v := .bool true) rfl rfl) rfl (by decide) (call_ok rfl) ?_
          refine dv (gyes_none rfl) (q_mv (v := .bool true) rfl) rfl (by decide) (cok1 trivial) ?_
          refine dv (gyes_some rfl rfl) (q_loadAgg Try.isAgg30 Try.sizeOf30 rfl (s33.rd (j := 0) rfl) (Nat.le_of_ble_eq_true rfl) rfl) rfl (by decide) (cok1 trivial) ?_
          refine dv (gyes_some rfl rfl) (q_call0 Try.call20 rfl (ACalls.castV (v' := .bool false) (meets_ok b1 _ L (s33.rd (j := 3) rfl) (s33.slsj (l := L) spc_w (j := 2) rfl rfl (Nat.le_refl _)) (by first | decide | omega) ((fitV n al (65536, 4294967296) L).1, (fitV n al (65536, 4294967296) L).1 + n)) (congrArg Value.bool (fitC_free hFt)))) rfl (by decide) (call_ok rfl) ?_
          refine dv (gyes_some rfl rfl) (q_not (b := false) rfl) rfl (by decide) (cok1 trivial) ?_
          refine dv (gyes_none rfl) (q_pt (v := .bool true) rfl rfl) rfl (by decide) (call_ok rfl) ?_
          refine dv (gyes_none rfl) (q_mv (v := .bool true) rfl) rfl (by decide) (cok1 trivial) ?_
          refine dv (gyes_some rfl rfl) (q_loadAgg Try.isAgg30 Try.sizeOf30 rfl (s33.rd (j := 0) rfl) (Nat.le_of_ble_eq_true rfl) rfl) rfl (by decide) (cok1 trivial) ?_
          refine x_call [] hF (by kernel_rfl) (gyes_some rfl rfl) Try.call9 rfl (args := [.pointer (some ⟨b1, 0, none⟩), .agg #[.int .u64 (((fitV n al (65536, 4294967296) L).1 : Nat) : Int), .int .u64 (((fitV n al (65536, 4294967296) L).1 + n : Nat) : Int)]]) rfl (add_ok b1 b2 L (by first | decide | omega) (nod2 (s33.nej (i := 3) (j := 2) rfl rfl (by decide))) (s33.getj (j := 3) rfl) (s33.getj (j := 2) rfl) ((fitV n al (65536, 4294967296) L).1, (fitV n al (65536, 4294967296) L).1 + n)) (show _ < _ by decide) (call_ok rfl) rfl rfl (fun _ _ _ _ hd => by cases hd) ?_
          rintro _ H34 ⟨ok43, L44, b35, rfl, hr36, hk37, ho38, hn39, h40, h41⟩
          have s42 := s33.turn2 (j9 := 3) (jl := 2) rfl rfl (by decide) hk37 ho38 hn39 h40 h41
          have hv := addR_v hr36 hc.1 hc.2.1 hxw
          obtain rfl : ok43 = true := hv.is.trans (by rw [fitC_free hFt, decide_eq_false (by dsimp only; omega)]; rfl)
          have hlen := hv.len
          refine ⟨trivial, ?_⟩
          show dList _ _ _ _ _ _ _ _ _ _
          refine dv (gyes_none rfl) (q_pt (v := .bool true) rfl rfl) rfl (by decide) (call_ok rfl) ?_
          refine dv (gyes_none rfl) (q_mv (v := .bool true) rfl) rfl (by decide) (cok1 trivial) ?_
          refine dv (gyes_some rfl rfl) (q_loadAgg Try.isAgg30 Try.sizeOf30 rfl (s42.rd (j := 0) rfl) (Nat.le_of_ble_eq_true rfl) rfl) rfl (by decide) (cok1 trivial) ?_
          refine dv (gyes_some rfl rfl) (q_call0 Try.call14 rfl (ACalls.castV (v' := .bool true) (covers_ok b1 _ L44 (s42.rd (j := 3) rfl) (s42.slsj (l := L44) spc_w (j := 2) rfl rfl (Nat.le_refl _)) (by first | decide | omega) ((fitV n al (65536, 4294967296) L).1, (fitV n al (65536, 4294967296) L).1 + n)) (congrArg Value.bool (addV_cov hv)))) rfl (by decide) (call_ok rfl) ?_
          refine dv (gyes_none rfl) (q_pt (v := .bool true) rfl rfl) rfl (by decide) (call_ok rfl) ?_
          refine dv (gyes_none rfl) (q_mv (v := .bool true) rfl) rfl (by decide) (cok1 trivial) ?_
          refine dv (gyes_some rfl rfl) (q_loadAgg Try.isAgg30 Try.sizeOf30 rfl (s42.rd (j := 0) rfl) (Nat.le_of_ble_eq_true rfl) rfl) rfl (by decide) (cok1 trivial) ?_
          refine x_call [] hF (by kernel_rfl) (gyes_some rfl rfl) Try.call21 rfl (args := [.pointer (some ⟨b1, 0, none⟩), .agg #[.int .u64 (((fitV n al (65536, 4294967296) L).1 : Nat) : Int), .int .u64 (((fitV n al (65536, 4294967296) L).1 + n : Nat) : Int)]]) rfl (remove_ok b1 b35 L44 (by first | decide | omega) (nod2 (s42.nej (i := 3) (j := 2) rfl rfl (by decide))) (s42.getj (j := 3) rfl) (s42.getj (j := 2) rfl) ((fitV n al (65536, 4294967296) L).1, (fitV n al (65536, 4294967296) L).1 + n)) (show _ < _ by decide) (call_ok rfl) rfl rfl (fun _ _ _ _ hd => by cases hd) ?_
          rintro _ H45 ⟨ok54, L55, b46, rfl, hr47, hk48, ho49, hn50, h51, h52⟩
          have s53 := s42.turn2 (j9 := 3) (jl := 2) rfl rfl (by decide) hk48 ho49 hn50 h51 h52
          have hw := remR_v hr47 hv.canon hv.spw hxw
          obtain rfl : ok54 = true := hw.is.trans (by have q := addV_cov hv; rw [decide_eq_false (by dsimp only; omega)] at q ⊢; exact q)
          have hlen2 := hw.len
          refine ⟨trivial, ?_⟩
          show dList _ _ _ _ _ _ _ _ _ _
          refine dv (gyes_none rfl) (q_pt (v := .bool true) rfl rfl) rfl (by decide) (call_ok rfl) ?_
          refine dv (gyes_none rfl) (q_mv (v := .bool true) rfl) rfl (by decide) (cok1 trivial) ?_
          refine dv (gyes_some rfl rfl) (q_loadAgg Try.isAgg30 Try.sizeOf30 rfl (s53.rd (j := 0) rfl) (Nat.le_of_ble_eq_true rfl) rfl) rfl (by decide) (cok1 trivial) ?_
          refine dv (gyes_some rfl rfl) (q_call0 Try.call20 rfl (ACalls.castV (v' := .bool false) (meets_ok b1 _ L55 (s53.rd (j := 3) rfl) (s53.slsj (l := L55) spc_w (j := 2) rfl rfl (Nat.le_refl _)) (by first | decide | omega) ((fitV n al (65536, 4294967296) L).1, (fitV n al (65536, 4294967296) L).1 + n)) (congrArg Value.bool (remV_no hw)))) rfl (by decide) (call_ok rfl) ?_
          refine dv (gyes_some rfl rfl) (q_not (b := false) rfl) rfl (by decide) (cok1 trivial) ?_
          refine dv (gyes_none rfl) (q_pt (v := .bool true) rfl rfl) rfl (by decide) (call_ok rfl) ?_
          refine dv (gyes_none rfl) (q_as (v := .bool true) rfl) rfl (by decide) (cok1 trivial) ?_
          refine ⟨_, Wk.refl _ _, ?_⟩
          show awp _ _ _ _ _ _ _
          refine awp_ret_wk ?_
          refine ⟨_, Wk.refl _ _, ?_⟩
          repeat (with_reducible first | refine then_ret ?_ | refine blk_ret ?_ | refine then_exit ?_ | refine blk_exit ?_ | refine blk_exit' (by decide) ?_ | refine blk_normal ?_ | refine then_normal ?_ | refine retq_ret ?_ | refine retq_normal ?_ | refine ng_normal ?_ | refine ng_ret ?_ | refine ng_exit ?_)
          exact ret_none (v := .bool true) rfl s53.kp (.tmp rfl .nil) rfl rfl ⟨rfl, rfl⟩
        ·
          refine dv (gyes_none rfl) (q_as (v := .int .u64 (((fitV n al (65536, 4294967296) L).1 : Nat) : Int)) rfl) rfl (by decide) (cok1 trivial) ?_
          refine dv (gyes_none rfl) (q_as (v := .bool false) rfl) rfl (by decide) (cok1 trivial) ?_
          refine ⟨_, Wk.refl _ _, ?_⟩
          show awp _ _ _ _ _ _ _
          refine awp_seq ?_
          refine awp_seq ?_
          refine awp_regs hF ?_
          refine dv (gyes_none rfl) (q_mv (v := .bool false) rfl) rfl (by decide) (cok1 trivial) ?_
          refine dv (gyes_none rfl) (q_not (b := false) rfl) rfl (by decide) (cok1 trivial) ?_
          refine ⟨_, Wk.refl _ _, ?_⟩
          show awp _ _ _ _ _ _ _
          refine awp_cond_t rfl ?_
          refine awp_seq ?_
          refine awp_regs hF ?_
          refine dv (gyes_none rfl) (q_mv (v := .int .u64 (((fitV n al (65536, 4294967296) L).1 : Nat) : Int)) rfl) rfl (by decide) (cok1 trivial) ?_
          refine dv (gyes_none rfl) (q_int rfl rfl rfl) rfl (by decide) (cok2 trivial (cconst rfl)) ?_
          refine dv (gyes_none rfl) (q_as (v := .bool (((((fitV n al (65536, 4294967296) L).1 : Nat) : Int) : Int) == 0)) rfl) rfl (by decide) (cok1 trivial) ?_
          refine ⟨_, Wk.refl _ _, ?_⟩
          show awp _ _ _ _ _ _ _
          refine awp_ret_wk ?_
          refine ⟨_, Wk.refl _ _, ?_⟩
          repeat (with_reducible first | refine then_ret ?_ | refine blk_ret ?_ | refine then_exit ?_ | refine blk_exit ?_ | refine blk_exit' (by decide) ?_ | refine blk_normal ?_ | refine then_normal ?_ | refine retq_ret ?_ | refine retq_normal ?_ | refine ng_normal ?_ | refine ng_ret ?_ | refine ng_exit ?_)
          exact ret_none (v := .bool (((((fitV n al (65536, 4294967296) L).1 : Nat) : Int) : Int) == 0)) rfl s27.kp (.tmp rfl .nil) rfl rfl ⟨by rw [fitV_0 (by assumption)]; rfl, rfl⟩
    ·
      replace c1 := of_decide_eq_false c1
      refine dv (gyes_none rfl) (q_mv (v := .bool false) rfl) rfl (by decide) (cok1 trivial) ?_
      refine dno rfl (.inl rfl) rfl (by decide) ?_
      refine dno rfl (.inl rfl) rfl (by decide) ?_
      refine dv (gyes_none rfl) (q_pf (v := .bool false) rfl rfl) rfl (by decide) (call_ok rfl) ?_
      refine ⟨_, Wk.refl _ _, ?_⟩
      show awp _ _ _ _ _ _ _
      refine awp_cond_f rfl ?_
      refine awp_exit_wk ?_
      refine ⟨_, Wk.refl _ _, ?_⟩
      show awp _ _ _ _ _ _ _
      refine awp_seq ?_
      refine awp_regs hF ?_
      refine dv (gyes_none rfl) (q_buildL (ds := [.int .u64 65536, .int .u64 4294967296]) [(0, 1), (1, 1)] [.int .u64 65536, .int .u64 4294967296] Try.underlying30 Try.zeroValue30 (by first | exact flat_agg rfl | exact flat_scalar rfl) (by kernel_rfl) ⟨rfl, rfl, trivial⟩ (lvsC (by exact trivial) (lvsC (by exact trivial) lvs0)) rfl) rfl (by decide) (cok2 (cconst rfl) (cconst rfl)) ?_
      refine x_new (fun b => .pointer (some ⟨b, 0, none⟩)) s10 (gyes_none rfl) (q_alloc (vs := [.int .u64 0, .int .u64 0]) 2 Try.zeroValue30 (by first | exact flat_scalar rfl | exact flat_agg rfl) rfl) rfl (by decide) (by simp [Op.operands, Call.operands]) (fun b56 H57 hb59 s58 => ?_)
      refine x_store [] hF s58 (by kernel_rfl) (gyes_none rfl) (j := 0) (v := .agg #[.int .u64 65536, .int .u64 4294967296]) rfl Try.sizeOf30 rfl rfl rfl rfl rfl trivial (lcsA ⟨(lc_scalar rfl), (lc_scalar rfl), trivial⟩) (Nat.le_of_ble_eq_true rfl) trivial trivial rfl rfl (F' := [(b56, .cells true [.int .u64 65536, .int .u64 4294967296] 2), (b2, .cells true (fl spc L) 2), (b1, .cells true [.slice (some ⟨b2, 0, none⟩) L.length L.length] 1)]) rfl (fun H60 s61 => ⟨?_, ?_⟩)
      · exact trivial
      refine ⟨_, Wk.refl _ _, ?_⟩
      show awp _ _ _ _ _ _ _
      refine awp_seq ?_
      refine awp_regs hF ?_
      refine dv (gyes_none rfl) (q_mv (v := .int .u64 ((n : Nat) : Int)) rfl) rfl (by decide) (cok1 trivial) ?_
      refine dv (gyes_none rfl) (q_mv (v := .int .u64 ((al : Nat) : Int)) rfl) rfl (by decide) (cok1 trivial) ?_
      refine dv (gyes_none rfl) (q_loadAgg Try.isAgg30 Try.sizeOf30 rfl (s61.rd (j := 0) rfl) (Nat.le_of_ble_eq_true rfl) rfl) rfl (by decide) (cok1 trivial) ?_
      refine dv (gyes_none rfl) (q_call0 Try.call23 rfl (fit_ok b1 _ L (s61.rd (j := 2) rfl) (s61.slsj (l := L) spc_w (j := 1) rfl rfl (Nat.le_refl _)) (by first | decide | omega) hc.2.1 n al (65536, 4294967296) hn hal (by unfold SpW; decide))) rfl (by decide) (call_ok rfl) ?_
      refine dv (gyes_none rfl) (q_mv (v := .tuple #[.int .u64 (((fitV n al (65536, 4294967296) L).1 : Nat) : Int), .bool ((fitV n al (65536, 4294967296) L).2)]) rfl) rfl (by decide) (cok1 trivial) ?_
      refine dv (gyes_none rfl) (q_extract (v := .int .u64 (((fitV n al (65536, 4294967296) L).1 : Nat) : Int)) rfl rfl) rfl (by decide) (cok1 trivial) ?_
      refine dvb (gyes_none rfl) (q_extract (v := .bool ((fitV n al (65536, 4294967296) L).2)) rfl rfl) rfl (by decide) (cok1 trivial) (fun c4 => ?_) (fun c4 => ?_)
      ·
        refine dv (gyes_none rfl) (q_as (v := .int .u64 (((fitV n al (65536, 4294967296) L).1 : Nat) : Int)) rfl) rfl (by decide) (cok1 trivial) ?_
        refine dv (gyes_none rfl) (q_as (v := .bool true) rfl) rfl (by decide) (cok1 trivial) ?_
        refine ⟨_, Wk.refl _ _, ?_⟩
        show awp _ _ _ _ _ _ _
        refine awp_seq ?_
        refine awp_seq ?_
        refine awp_regs hF ?_
        refine dv (gyes_none rfl) (q_mv (v := .bool true) rfl) rfl (by decide) (cok1 trivial) ?_
        refine dv (gyes_none rfl) (q_not (b := true) rfl) rfl (by decide) (cok1 trivial) ?_
        refine ⟨_, Wk.refl _ _, ?_⟩
        show awp _ _ _ _ _ _ _
        refine awp_cond_f rfl ?_
        refine awp_skip_wk ?_
        refine ⟨_, Wk.refl _ _, ?_⟩
        show awp _ _ _ _ _ _ _
        refine awp_seq ?_
        have hFt := fitV_ok (n := n) (al := al) (iv := (65536, 4294967296)) (l := L) hc.1 hc.2.1 (by unfold SpW; decide) hal (by assumption)
        have hn0 := hFt.n0
        have hal0 := hFt.al0
        have hmul := hFt.mul
        have hlo := hFt.lo
        have hhi := hFt.hi
        dsimp only at hlo hhi
        have hxw : SpW ((fitV n al (65536, 4294967296) L).1, (fitV n al (65536, 4294967296) L).1 + n) := ⟨by dsimp only; omega, by dsimp only; omega⟩
        refine awp_regs hF ?_
        refine dv (gyes_none rfl) (q_mv (v := .int .u64 (((fitV n al (65536, 4294967296) L).1 : Nat) : Int)) rfl) rfl (by decide) (cok1 trivial) ?_
        refine dv (gyes_none rfl) (q_mv (v := .int .u64 (((fitV n al (65536, 4294967296) L).1 : Nat) : Int)) rfl) rfl (by decide) (cok1 trivial) ?_
        refine dv (gyes_none rfl) (q_mv (v := .int .u64 ((n : Nat) : Int)) rfl) rfl (by decide) (cok1 trivial) ?_
        refine dv (gyes_none rfl) (OpQ.cast (v' := .int .u64 (((fitV n al (65536, 4294967296) L).1 + n : Nat) : Int)) (q_int rfl rfl rfl) (congrArg _ ((u64_in (by omega)).trans (by first | rfl | omega | (push_cast; rfl))))) rfl (by decide) (cok2 trivial trivial) ?_
        refine dv (gyes_none rfl) (q_buildL (ds := [.int .u64 (((fitV n al (65536, 4294967296) L).1 : Nat) : Int), .int .u64 (((fitV n al (65536, 4294967296) L).1 + n : Nat) : Int)]) [(0, 1), (1, 1)] [.int .u64 (((fitV n al (65536, 4294967296) L).1 : Nat) : Int), .int .u64 (((fitV n al (65536, 4294967296) L).1 + n : Nat) : Int)] Try.underlying30 Try.zeroValue30 (by first | exact flat_agg rfl | exact flat_scalar rfl) (by kernel_rfl) ⟨rfl, rfl, trivial⟩ (lvsC (by exact trivial) (lvsC (by exact trivial) lvs0)) rfl) rfl (by decide) (cok2 trivial trivial) ?_
        refine x_new (fun b => .pointer (some ⟨b, 0, none⟩)) s61 (gyes_none rfl) (q_alloc (vs := [.int .u64 0, .int .u64 0]) 2 Try.zeroValue30 (by first | exact flat_scalar rfl | exact flat_agg rfl) rfl) rfl (by decide) (by simp [Op.operands, Call.operands]) (fun b62 H63 hb65 s64 => ?_)
        refine x_store [] hF s64 (by kernel_rfl) (gyes_none rfl) (j := 0) (v := .agg #[.int .u64 (((fitV n al (65536, 4294967296) L).1 : Nat) : Int), .int .u64 (((fitV n al (65536, 4294967296) L).1 + n : Nat) : Int)]) rfl Try.sizeOf30 rfl rfl rfl rfl rfl trivial (lcsA ⟨(lc_scalar rfl), (lc_scalar rfl), trivial⟩) (Nat.le_of_ble_eq_true rfl) trivial trivial rfl rfl (F' := [(b62, .cells true [.int .u64 (((fitV n al (65536, 4294967296) L).1 : Nat) : Int), .int .u64 (((fitV n al (65536, 4294967296) L).1 + n : Nat) : Int)] 2), (b56, .cells true [.int .u64 65536, .int .u64 4294967296] 2), (b2, .cells true (fl spc L) 2), (b1, .cells true [.slice (some ⟨b2, 0, none⟩) L.length L.length] 1)]) rfl (fun H66 s67 => ⟨?_, ?_⟩)
        · exact trivial
        refine ⟨_, Wk.refl _ _, ?_⟩
        show awp _ _ _ _ _ _ _
        refine awp_seq ?_
        refine awp_regs hF ?_
        refine dv (gyes_none rfl) (q_mv (v := .int .u64 ((n : Nat) : Int)) rfl) rfl (by decide) (cok1 trivial) ?_
        refine dv (gyes_none rfl) (OpQ.cast (v' := .bool true) (q_int rfl rfl rfl) (congrArg Value.bool (decide_eq_true (by omega)))) rfl (by decide) (cok2 trivial (cconst rfl)) ?_
        refine dv (gyes_none rfl) (q_mv (v := .bool true) rfl) rfl (by decide) (cok1 trivial) ?_
        refine dv (gyes_some rfl rfl) (q_mv (v := .int .u64 ((al : Nat) : Int)) rfl) rfl (by decide) (cok1 trivial) ?_
        refine dv (gyes_some rfl rfl) (OpQ.cast (v' := .bool true) (q_int rfl rfl rfl) (congrArg Value.bool (decide_eq_true (by omega)))) rfl (by decide) (cok2 trivial (cconst rfl)) ?_
        refine dv (gyes_none rfl) (q_pt (v := .bool true) rfl rfl) rfl (by decide) (call_ok rfl) ?_
        refine dv (gyes_none rfl) (q_mv (v := .bool true) rfl) rfl (by decide) (cok1 trivial) ?_
        refine dv (gyes_some rfl rfl) (q_mv (v := .int .u64 (((fitV n al (65536, 4294967296) L).1 : Nat) : Int)) rfl) rfl (by decide) (cok1 trivial) ?_
        refine dv (gyes_some rfl rfl) (q_mv (v := .int .u64 ((al : Nat) : Int)) rfl) rfl (by decide) (cok1 trivial) ?_
        refine dv (gyes_some rfl rfl) (q_remM (a := ((fitV n al (65536, 4294967296) L).1)) (b := al) rfl rfl (by first | decide | omega)) rfl (by decide) (cok2 trivial trivial) ?_
        refine dv (gyes_some rfl rfl) (OpQ.cast (v' := .bool true) (q_int rfl rfl rfl) (congrArg Value.bool (beq_iff_eq.2 (by omega)))) rfl (by decide) (cok2 trivial (cconst rfl)) ?_
        refine dv (gyes_none rfl) (q_pt (v := .bool true) rfl rfl) rfl (by decide) (call_ok rfl) ?_
        refine dv (gyes_none rfl) (q_mv (v := .bool true) rfl) rfl (by decide) (cok1 trivial) ?_
        refine dv (gyes_some rfl rfl) (q_loadAgg Try.isAgg30 Try.sizeOf30 rfl (s67.rd (j := 0) rfl) (Nat.le_of_ble_eq_true rfl) rfl) rfl (by decide) (cok1 trivial) ?_
        refine dv (gyes_some rfl rfl) (q_loadAgg Try.isAgg30 Try.sizeOf30 rfl (s67.rd (j := 1) rfl) (Nat.le_of_ble_eq_true rfl) rfl) rfl (by decide) (cok1 trivial) ?_
        refine dv (gyes_some rfl rfl) (q_call0 Try.call18 rfl (ACalls.castV (v' := .bool true) (spwithin_ok ((fitV n al (65536, 4294967296) L).1, (fitV n al (65536, 4294967296) L).1 + n) (65536, 4294967296)) (congrArg Value.bool (within_iff.2 (.inr ⟨hlo, hhi⟩))))) rfl (by decide) (call_ok rfl) ?_
        refine dv (gyes_none rfl) (q_pt (v := .bool true) rfl rfl) rfl (by decide) (call_ok rfl) ?_
        refine dv (gyes_none rfl) (q_mv (v := .bool true) rfl) rfl (by decide) (cok1 trivial) ?_
        refine dv (gyes_some rfl rfl) (q_loadAgg Try.isAgg30 Try.sizeOf30 rfl (s67.rd (j := 0) rfl) (Nat.le_of_ble_eq_true rfl) rfl) rfl (by decide) (cok1 trivial) ?_
        refine dv (gyes_some rfl rfl) (q_call0 Try.call20 rfl (ACalls.castV (v' := .bool false) (meets_ok b1 _ L (s67.rd (j := 3) rfl) (s67.slsj (l := L) spc_w (j := 2) rfl rfl (Nat.le_refl _)) (by first | decide | omega) ((fitV n al (65536, 4294967296) L).1, (fitV n al (65536, 4294967296) L).1 + n)) (congrArg Value.bool (fitC_free hFt)))) rfl (by decide) (call_ok rfl) ?_
        refine dv (gyes_some rfl rfl) (q_not (b := false) rfl) rfl (by decide) (cok1 trivial) ?_
        refine dv (gyes_none rfl) (q_pt (v := .bool true) rfl rfl) rfl (by decide) (call_ok rfl) ?_
        refine dv (gyes_none rfl) (q_mv (v := .bool true) rfl) rfl (by decide) (cok1 trivial) ?_
        refine dv (gyes_some rfl rfl) (q_loadAgg Try.isAgg30 Try.sizeOf30 rfl (s67.rd (j := 0) rfl) (Nat.le_of_ble_eq_true rfl) rfl) rfl (by decide) (cok1 trivial) ?_
        refine x_call [] hF (by kernel_rfl) (gyes_some rfl rfl) Try.call9 rfl (args := [.pointer (some ⟨b1, 0, none⟩), .agg #[.int .u64 (((fitV n al (65536, 4294967296) L).1 : Nat) : Int), .int .u64 (((fitV n al (65536, 4294967296) L).1 + n : Nat) : Int)]]) rfl (add_ok b1 b2 L (by first | decide | omega) (nod2 (s67.nej (i := 3) (j := 2) rfl rfl (by decide))) (s67.getj (j := 3) rfl) (s67.getj (j := 2) rfl) ((fitV n al (65536, 4294967296) L).1, (fitV n al (65536, 4294967296) L).1 + n)) (show _ < _ by decide) (call_ok rfl) rfl rfl (fun _ _ _ _ hd => by cases hd) ?_
        rintro _ H68 ⟨ok77, L78, b69, rfl, hr70, hk71, ho72, hn73, h74, h75⟩
        have s76 := s67.turn2 (j9 := 3) (jl := 2) rfl rfl (by decide) hk71 ho72 hn73 h74 h75
        have hv := addR_v hr70 hc.1 hc.2.1 hxw
        obtain rfl : ok77 = true := hv.is.trans (by rw [fitC_free hFt, decide_eq_false (by dsimp only; omega)]; rfl)
        have hlen := hv.len
        refine ⟨trivial, ?_⟩
        show dList _ _ _ _ _ _ _ _ _ _
        refine dv (gyes_none rfl) (q_pt (v := .bool true) rfl rfl) rfl (by decide) (call_ok rfl) ?_
        refine dv (gyes_none rfl) (q_mv (v := .bool true) rfl) rfl (by decide) (cok1 trivial) ?_
        refine dv (gyes_some rfl rfl) (q_loadAgg Try.isAgg30 Try.sizeOf30 rfl (s76.rd (j := 0) rfl) (Nat.le_of_ble_eq_true rfl) rfl) rfl (by decide) (cok1 trivial) ?_
        refine dv (gyes_some rfl rfl) (q_call0 Try.call14 rfl (ACalls.castV (v' := .bool true) (covers_ok b1 _ L78 (s76.rd (j := 3) rfl) (s76.slsj (l := L78) spc_w (j := 2) rfl rfl (Nat.le_refl _)) (by first | decide | omega) ((fitV n al (65536, 4294967296) L).1, (fitV n al (65536, 4294967296) L).1 + n)) (congrArg Value.bool (addV_cov hv)))) rfl (by decide) (call_ok rfl) ?_
        refine dv (gyes_none rfl) (q_pt (v := .bool true) rfl rfl) rfl (by decide) (call_ok rfl) ?_
        refine dv (gyes_none rfl) (q_mv (v := .bool true) rfl) rfl (by decide) (cok1 trivial) ?_
        refine dv (gyes_some rfl rfl) (q_loadAgg Try.isAgg30 Try.sizeOf30 rfl (s76.rd (j := 0) rfl) (Nat.le_of_ble_eq_true rfl) rfl) rfl (by decide) (cok1 trivial) ?_
        refine x_call [] hF (by kernel_rfl) (gyes_some rfl rfl) Try.call21 rfl (args := [.pointer (some ⟨b1, 0, none⟩), .agg #[.int .u64 (((fitV n al (65536, 4294967296) L).1 : Nat) : Int), .int .u64 (((fitV n al (65536, 4294967296) L).1 + n : Nat) : Int)]]) rfl (remove_ok b1 b69 L78 (by first | decide | omega) (nod2 (s76.nej (i := 3) (j := 2) rfl rfl (by decide))) (s76.getj (j := 3) rfl) (s76.getj (j := 2) rfl) ((fitV n al (65536, 4294967296) L).1, (fitV n al (65536, 4294967296) L).1 + n)) (show _ < _ by decide) (call_ok rfl) rfl rfl (fun _ _ _ _ hd => by cases hd) ?_
        rintro _ H79 ⟨ok88, L89, b80, rfl, hr81, hk82, ho83, hn84, h85, h86⟩
        have s87 := s76.turn2 (j9 := 3) (jl := 2) rfl rfl (by decide) hk82 ho83 hn84 h85 h86
        have hw := remR_v hr81 hv.canon hv.spw hxw
        obtain rfl : ok88 = true := hw.is.trans (by have q := addV_cov hv; rw [decide_eq_false (by dsimp only; omega)] at q ⊢; exact q)
        have hlen2 := hw.len
        refine ⟨trivial, ?_⟩
        show dList _ _ _ _ _ _ _ _ _ _
        refine dv (gyes_none rfl) (q_pt (v := .bool true) rfl rfl) rfl (by decide) (call_ok rfl) ?_
        refine dv (gyes_none rfl) (q_mv (v := .bool true) rfl) rfl (by decide) (cok1 trivial) ?_
        refine dv (gyes_some rfl rfl) (q_loadAgg Try.isAgg30 Try.sizeOf30 rfl (s87.rd (j := 0) rfl) (Nat.le_of_ble_eq_true rfl) rfl) rfl (by decide) (cok1 trivial) ?_
        refine dv (gyes_some rfl rfl) (q_call0 Try.call20 rfl (ACalls.castV (v' := .bool false) (meets_ok b1 _ L89 (s87.rd (j := 3) rfl) (s87.slsj (l := L89) spc_w (j := 2) rfl rfl (Nat.le_refl _)) (by first | decide | omega) ((fitV n al (65536, 4294967296) L).1, (fitV n al (65536, 4294967296) L).1 + n)) (congrArg Value.bool (remV_no hw)))) rfl (by decide) (call_ok rfl) ?_
        refine dv (gyes_some rfl rfl) (q_not (b := false) rfl) rfl (by decide) (cok1 trivial) ?_
        refine dv (gyes_none rfl) (q_pt (v := .bool true) rfl rfl) rfl (by decide) (call_ok rfl) ?_
        refine dv (gyes_none rfl) (q_as (v := .bool true) rfl) rfl (by decide) (cok1 trivial) ?_
        refine ⟨_, Wk.refl _ _, ?_⟩
        show awp _ _ _ _ _ _ _
        refine awp_ret_wk ?_
        refine ⟨_, Wk.refl _ _, ?_⟩
        repeat (with_reducible first | refine then_ret ?_ | refine blk_ret ?_ | refine then_exit ?_ | refine blk_exit ?_ | refine blk_exit' (by decide) ?_ | refine blk_normal ?_ | refine then_normal ?_ | refine retq_ret ?_ | refine retq_normal ?_ | refine ng_normal ?_ | refine ng_ret ?_ | refine ng_exit ?_)
        exact ret_none (v := .bool true) rfl s87.kp (.tmp rfl .nil) rfl rfl ⟨rfl, rfl⟩
      ·
        refine dv (gyes_none rfl) (q_as (v := .int .u64 (((fitV n al (65536, 4294967296) L).1 : Nat) : Int)) rfl) rfl (by decide) (cok1 trivial) ?_
        refine dv (gyes_none rfl) (q_as (v := .bool false) rfl) rfl (by decide) (cok1 trivial) ?_
        refine ⟨_, Wk.refl _ _, ?_⟩
        show awp _ _ _ _ _ _ _
        refine awp_seq ?_
        refine awp_seq ?_
        refine awp_regs hF ?_
        refine dv (gyes_none rfl) (q_mv (v := .bool false) rfl) rfl (by decide) (cok1 trivial) ?_
        refine dv (gyes_none rfl) (q_not (b := false) rfl) rfl (by decide) (cok1 trivial) ?_
        refine ⟨_, Wk.refl _ _, ?_⟩
        show awp _ _ _ _ _ _ _
        refine awp_cond_t rfl ?_
        refine awp_seq ?_
        refine awp_regs hF ?_
        refine dv (gyes_none rfl) (q_mv (v := .int .u64 (((fitV n al (65536, 4294967296) L).1 : Nat) : Int)) rfl) rfl (by decide) (cok1 trivial) ?_
        refine dv (gyes_none rfl) (q_int rfl rfl rfl) rfl (by decide) (cok2 trivial (cconst rfl)) ?_
        refine dv (gyes_none rfl) (q_as (v := .bool (((((fitV n al (65536, 4294967296) L).1 : Nat) : Int) : Int) == 0)) rfl) rfl (by decide) (cok1 trivial) ?_
        refine ⟨_, Wk.refl _ _, ?_⟩
        show awp _ _ _ _ _ _ _
        refine awp_ret_wk ?_
        refine ⟨_, Wk.refl _ _, ?_⟩
        repeat (with_reducible first | refine then_ret ?_ | refine blk_ret ?_ | refine then_exit ?_ | refine blk_exit ?_ | refine blk_exit' (by decide) ?_ | refine blk_normal ?_ | refine then_normal ?_ | refine retq_ret ?_ | refine retq_normal ?_ | refine ng_normal ?_ | refine ng_ret ?_ | refine ng_exit ?_)
        exact ret_none (v := .bool (((((fitV n al (65536, 4294967296) L).1 : Nat) : Int) : Int) == 0)) rfl s61.kp (.tmp rfl .nil) rfl rfl ⟨by rw [fitV_0 (by assumption)]; rfl, rfl⟩

end Go.Proofs.YtjgeheookgogaaaA

