/-
  Walks over abstract states: texts of one claim, merged.
-/
import Derived.Test.YtponfeigjmjbmaaM6
import Derived.Test.YtponfeigjmjbmaaProg
import Derived.KernelRfl
/-
  Walks of functions of the given program, and what they compute.
-/
namespace Go.Proofs.YtponfeigjmjbmaaA
set_option linter.unusedVariables false
open Go Go.RowKit Go.Shelf Go.Proofs
set_option maxRecDepth 100000 in
set_option maxHeartbeats 4000000 in
theorem builds_ok {H0 : AHeap} (va : Value) (z : List ByteArray) (hz : Sl strv H0 va z) (hzs : ∀ x ∈ z, x.size ≤ 140737488355328) (a0 a1 a2 a3 : Int) (o : ByteArray) (hos : o.size ≤ 140737488355328) : ACalls Try.prog 6 [va, .agg #[.int .i64 a0, .int .i64 a1, .int .i64 a2, .int .i64 a3], .string o] H0 (Rets (.bool true) H0) := by
  have hF : Wd Fence.wide := .inl rfl
  have hM : Try.prog.follows .mixedOrders = true := by kernel_rfl
  obtain ⟨nm, hnm⟩ : ∃ nm, nm = z.take (min z.length 40) := ⟨_, rfl⟩
  have hnl : nm.length ≤ 40 := by rw [hnm, List.length_take]; omega
  have hns : ∀ x ∈ nm, x.size ≤ 140737488355328 := fun x hx => hzs x (List.mem_of_mem_take (hnm ▸ hx))
  have hk0 := imask_le a0 31
  have hk1 := imask_le a1 15
  have hk2 := imask_le a2 7
  have hk3 := imask_le a3 63
  have s0 := St.begin H0
  refine acalls_st Try.func6 rfl Try.ntmps6 rfl ?_
  refine awp_seq ?_
  refine awp_regs hF ?_
  refine x_new (fun b => .pointer (some ⟨b, 0, none⟩)) s0 (gyes_none rfl) (q_box (v := .agg #[.int .i64 a0, .int .i64 a1, .int .i64 a2, .int .i64 a3]) (vs := [.int .i64 a0, .int .i64 a1, .int .i64 a2, .int .i64 a3]) 4 rfl (by exact trivial) rfl) rfl (by decide) (cok1 trivial) (fun b1 H2 hb4 s3 => ?_)
  refine dv (gyes_none rfl) (q_as (v := .bool false) rfl) rfl (by decide) (cok1 (cconst rfl)) ?_
  refine ⟨_, Wk.refl _ _, ?_⟩
  show awp _ _ _ _ _ _ _
  refine awp_seq ?_
  refine awp_seq ?_
  refine awp_regs hF ?_
  refine dv (gyes_none rfl) (q_call0 Try.call7 rfl (speaks_ok)) rfl (by decide) (cok1 trivial) ?_
  refine dv (gyes_none rfl) (q_not (b := true) rfl) rfl (by decide) (cok1 trivial) ?_
  refine ⟨_, Wk.refl _ _, ?_⟩
  show awp _ _ _ _ _ _ _
  refine awp_cond_f rfl ?_
  refine awp_skip_wk ?_
  refine ⟨_, Wk.refl _ _, ?_⟩
  show awp _ _ _ _ _ _ _
  refine awp_seq ?_
  refine awp_regs hF ?_
  refine dv (gyes_none rfl) (q_mv (v := va) rfl) rfl (by decide) (cok1 trivial) ?_
  refine dv (gyes_none rfl) (q_mv (v := va) rfl) rfl (by decide) (cok1 trivial) ?_
  refine dv (gyes_none rfl) (q_len_sl (l := z) Try.underlying23 (s3.sl hz) rfl) rfl (by decide) (cok1 trivial) ?_
  refine dv (gyes_none rfl) (OpQ.cast (v' := .int .i64 ((min z.length 40 : Nat) : Int)) (q_min rfl rfl) (by congr 1; split <;> omega)) rfl (by decide) (cok2 trivial (cconst rfl)) ?_
  obtain ⟨w5, hw5, qw5⟩ := slice_z hz (min z.length 40) (by omega)
  rw [← hnm] at hw5
  refine dv (gyes_none rfl) (qw5 s3 Try.underlying23 Try.sizeOf9 rfl rfl) rfl (by decide) (cok2 trivial trivial) ?_
  refine dv (gyes_none rfl) (q_as (v := w5) rfl) rfl (by decide) (cok1 trivial) ?_
  refine ⟨_, Wk.refl _ _, ?_⟩
  show awp _ _ _ _ _ _ _
  refine awp_seq ?_
  refine awp_regt hF hM (by kernel_rfl) (by kernel_rfl) ?_
  refine dv (gyes_none rfl) (q_indexArr (i := 0) Try.underlying22 Try.sizeOf3 rfl rfl (by first | decide | omega) (s3.rd (j := 0) rfl)) rfl (by decide) (cok2 trivial (cconst rfl)) ?_
  refine dv (gyes_none rfl) (q_load (v := .int .i64 a0) Try.isAgg3 rfl (s3.rd (j := 0) rfl) rfl) rfl (by decide) (cok1 trivial) ?_
  refine dv (gyes_none rfl) (q_imask (m := 31) rfl rfl (by first | decide | omega)) rfl (by decide) (cok2 trivial (cconst rfl)) ?_
  refine dv (gyes_none rfl) (OpQ.cast (v' := .int .i64 ((1 + (imask a0 31) : Nat) : Int)) (q_int rfl rfl rfl) (congrArg _ ((i64_in (by omega)).trans (by first | rfl | omega | (push_cast; rfl))))) rfl (by decide) (cok2 (cconst rfl) trivial) ?_
  refine dv (gyes_none rfl) (q_indexArr (i := 1) Try.underlying22 Try.sizeOf3 rfl rfl (by first | decide | omega) (s3.rd (j := 0) rfl)) rfl (by decide) (cok2 trivial (cconst rfl)) ?_
  refine dv (gyes_none rfl) (q_load (v := .int .i64 a1) Try.isAgg3 rfl (s3.rd (j := 0) rfl) rfl) rfl (by decide) (cok1 trivial) ?_
  refine dv (gyes_none rfl) (q_imask (m := 15) rfl rfl (by first | decide | omega)) rfl (by decide) (cok2 trivial (cconst rfl)) ?_
  refine dv (gyes_none rfl) (OpQ.cast (v' := .int .i64 ((1 + (imask a1 15) : Nat) : Int)) (q_int rfl rfl rfl) (congrArg _ ((i64_in (by omega)).trans (by first | rfl | omega | (push_cast; rfl))))) rfl (by decide) (cok2 (cconst rfl) trivial) ?_
  refine dv (gyes_none rfl) (q_indexArr (i := 2) Try.underlying22 Try.sizeOf3 rfl rfl (by first | decide | omega) (s3.rd (j := 0) rfl)) rfl (by decide) (cok2 trivial (cconst rfl)) ?_
  refine dv (gyes_none rfl) (q_load (v := .int .i64 a2) Try.isAgg3 rfl (s3.rd (j := 0) rfl) rfl) rfl (by decide) (cok1 trivial) ?_
  refine dv (gyes_none rfl) (q_imask (m := 7) rfl rfl (by first | decide | omega)) rfl (by decide) (cok2 trivial (cconst rfl)) ?_
  refine dv (gyes_none rfl) (OpQ.cast (v' := .int .i64 ((1 + (imask a2 7) : Nat) : Int)) (q_int rfl rfl rfl) (congrArg _ ((i64_in (by omega)).trans (by first | rfl | omega | (push_cast; rfl))))) rfl (by decide) (cok2 (cconst rfl) trivial) ?_
  refine dv (gyes_none rfl) (q_indexArr (i := 3) Try.underlying22 Try.sizeOf3 rfl rfl (by first | decide | omega) (s3.rd (j := 0) rfl)) rfl (by decide) (cok2 trivial (cconst rfl)) ?_
  refine dv (gyes_none rfl) (q_load (v := .int .i64 a3) Try.isAgg3 rfl (s3.rd (j := 0) rfl) rfl) rfl (by decide) (cok1 trivial) ?_
  refine dv (gyes_none rfl) (q_imask (m := 63) rfl rfl (by first | decide | omega)) rfl (by decide) (cok2 trivial (cconst rfl)) ?_
  refine dv (gyes_none rfl) (q_as (v := .int .i64 ((1 + (imask a0 31) : Nat) : Int)) rfl) rfl (by decide) (cok1 trivial) ?_
  refine dv (gyes_none rfl) (q_as (v := .int .i64 ((1 + (imask a1 15) : Nat) : Int)) rfl) rfl (by decide) (cok1 trivial) ?_
  refine dv (gyes_none rfl) (q_as (v := .int .i64 ((1 + (imask a2 7) : Nat) : Int)) rfl) rfl (by decide) (cok1 trivial) ?_
  refine dv (gyes_none rfl) (q_as (v := .int .i64 ((imask a3 63 : Nat) : Int)) rfl) rfl (by decide) (cok1 trivial) ?_
  refine ⟨_, Wk.refl _ _, ?_⟩
  show awp _ _ _ _ _ _ _
  refine awp_seq ?_
  have hfx : 1 ≤ 1 + imask a0 31 ∧ 1 + imask a0 31 ≤ 32 := ⟨by omega, by omega⟩
  have hnb : 1 ≤ 1 + imask a1 15 ∧ 1 + imask a1 15 ≤ 16 := ⟨by omega, by omega⟩
  have hnw : 1 ≤ 1 + imask a2 7 ∧ 1 + imask a2 7 ≤ 8 := ⟨by omega, by omega⟩
  generalize 1 + imask a0 31 = f at *
  generalize 1 + imask a1 15 = nb at *
  generalize 1 + imask a2 7 = nw at *
  generalize imask a3 63 = sh at *
  refine awp_regs hF ?_
  refine dv (gyes_none rfl) (q_mv (v := w5) rfl) rfl (by decide) (cok1 trivial) ?_
  refine dv (gyes_none rfl) (q_mv (v := .int .i64 ((nb : Nat) : Int)) rfl) rfl (by decide) (cok1 trivial) ?_
  refine x_call [] hF (by kernel_rfl) (gyes_none rfl) Try.call8 rfl (args := [w5, .int .i64 ((nb : Nat) : Int)]) rfl (order_ok _ nm (s3.sl hw5) hns (by omega) nb (by omega) (by omega)) (show _ < _ by decide) (call_ok rfl) rfl rfl (fun _ _ _ _ hd => by cases hd) ?_
  rintro _ H8 ⟨b6, l7, hk9, hb10, rfl, ho11, hg12⟩
  have s13 := s3.callN hk9 hb10 hg12
  have hol := ho11.len
  refine ⟨trivial, ?_⟩
  show dList _ _ _ _ _ _ _ _ _ _
  refine dv (gyes_none rfl) (q_as (v := .slice (some ⟨b6, 0, none⟩) nm.length nm.length) rfl) rfl (by decide) (cok1 trivial) ?_
  refine ⟨_, Wk.refl _ _, ?_⟩
  show awp _ _ _ _ _ _ _
  refine awp_seq ?_
  refine awp_regs hF ?_
  refine dv (gyes_none rfl) (q_as (v := .slice none 0 0) rfl) rfl (by decide) (cok1 (cconst rfl)) ?_
  refine ⟨_, Wk.refl _ _, ?_⟩
  show awp _ _ _ _ _ _ _
  refine awp_seq ?_
  refine awp_seq ?_
  refine awp_regs hF ?_
  refine dv (gyes_none rfl) (q_as (v := .int .i64 0) rfl) rfl (by decide) (cok1 (cconst rfl)) ?_
  refine ⟨_, Wk.refl _ _, ?_⟩
  show awp _ _ _ _ _ _ _
  refine awp_block ?_
  refine awp_nil s13 12 1 rfl (fun b14 H15 hb17 s16 => ?_)
  refine awp_wk (Wk.U [(0, w5), (2, .string o), (7, .int .i64 ((f : Nat) : Int)), (8, .int .i64 ((nb : Nat) : Int)), (9, .int .i64 ((nw : Nat) : Int)), (10, .int .i64 ((sh : Nat) : Int)), (11, .slice (some ⟨b6, 0, none⟩) nm.length nm.length), (12, .slice (some ⟨b14, 0, none⟩) 0 0), (13, .int .i64 0)] ⟨rfl, rfl, rfl, rfl, rfl, rfl, rfl, rfl, rfl, trivial⟩) ?_
  refine awp_loop (fun (qn : Nat) st => ∃ (H18 : AHeap) (bn : Nat), st = ⟨250, U [(0, w5), (2, .string o), (7, .int .i64 ((f : Nat) : Int)), (8, .int .i64 ((nb : Nat) : Int)), (9, .int .i64 ((nw : Nat) : Int)), (10, .int .i64 ((sh : Nat) : Int)), (11, .slice (some ⟨b6, 0, none⟩) nm.length nm.length), (12, .slice (some ⟨bn, 0, none⟩) qn qn), (13, .int .i64 ((qn : Nat) : Int))], [], H18⟩ ∧ St H0 (none0) (Rd H0) H18 [(bn, .cells true ((List.replicate qn (⟨#[]⟩ : ByteArray)).map strv) 1), (b6, .cells true (l7.map i64v) 1), (b1, .cells true [.int .i64 a0, .int .i64 a1, .int .i64 a2, .int .i64 a3] 4)] ∧ (qn ≤ f)) (fun (qn : Nat) => f - qn) (x0 := (0)) ?h0 ?round
  case h0 =>
    exact ⟨_, _, rfl, s16, Nat.zero_le _⟩
  case round =>
    rintro qn _ ⟨H18, bn, rfl, s19, hi⟩
    refine awp_seq ?_
    refine awp_seq ?_
    refine awp_regs hF ?_
    refine dv (gyes_none rfl) (q_mv (v := .int .i64 ((qn : Nat) : Int)) rfl) rfl (by decide) (cok1 trivial) ?_
    refine dv (gyes_none rfl) (q_mv (v := .int .i64 ((f : Nat) : Int)) rfl) rfl (by decide) (cok1 trivial) ?_
    refine dvb (gyes_none rfl) (q_int rfl rfl rfl) rfl (by decide) (cok2 trivial trivial) (fun c1 => ?_) (fun c1 => ?_)
    ·
      replace c1 := of_decide_eq_true c1
      refine ⟨_, Wk.refl _ _, ?_⟩
      show awp _ _ _ _ _ _ _
      refine awp_cond_t rfl ?_
      refine awp_skip_wk ?_
      refine ⟨_, Wk.refl _ _, ?_⟩
      show awp _ _ _ _ _ _ _
      refine awp_seq ?_
      refine awp_block ?_
      refine awp_regs hF ?_
      refine dv (gyes_none rfl) (q_mv (v := .slice (some ⟨bn, 0, none⟩) qn qn) rfl) rfl (by decide) (cok1 trivial) ?_
      refine x_new (fun b => .slice (some ⟨b, 0, none⟩) 1 1) s19 (gyes_none rfl) (q_buildSliceL (ds := [.string (⟨#[]⟩ : ByteArray)]) [.string (⟨#[]⟩ : ByteArray)] rfl Try.underlying23 Try.sizeOf9 Try.zeroValue9 rfl (by decide) (by decide) ⟨rfl, trivial⟩ (lvsC (by exact trivial) lvs0) rfl rfl) rfl (by decide) (cok1 (cconst rfl)) (fun b20 H21 hb23 s22 => ?_)
      refine x_append (l := [(⟨#[]⟩ : ByteArray)]) (f := strv) [] hF s22 (by kernel_rfl) (j := 1) (qn + 1) rfl (gyes_none rfl) Try.underlying23 Try.underlying23 Try.type9 rfl rfl (by decide) rfl rfl rfl rfl (s22.slj (l := [(⟨#[]⟩ : ByteArray)]) (f := strv) (j := 0) rfl rfl (Nat.le_refl _)) (fun x => lc_scalar rfl) (by rw [List.length_map, List.length_replicate, Nat.zero_add]) (by show (2 * (qn + 1) + 1000) * 16 ≤ _; omega) trivial trivial (by decide) rfl rfl (vs' := (List.replicate (qn + 1) (⟨#[]⟩ : ByteArray)).map strv) (by rw [List.replicate_succ', List.map_append]; rfl) (fun b24 H25 hb27 s26 => ⟨?_, ?_⟩)
      · exact trivial
      refine dv (gyes_none rfl) (q_as (v := .slice (some ⟨b24, 0, none⟩) (qn + 1) (qn + 1)) rfl) rfl (by decide) (cok1 trivial) ?_
      refine ⟨_, Wk.refl _ _, ?_⟩
      show awp _ _ _ _ _ _ _
      refine awp_regs hF ?_
      refine dv (gyes_none rfl) (q_mv (v := .int .i64 ((qn : Nat) : Int)) rfl) rfl (by decide) (cok1 trivial) ?_
      refine dv (gyes_none rfl) (OpQ.cast (v' := .int .i64 ((qn + 1 : Nat) : Int)) (q_int rfl rfl rfl) (congrArg _ ((i64_in (by omega)).trans (by first | rfl | omega | (push_cast; rfl))))) rfl (by decide) (cok2 trivial (cconst rfl)) ?_
      refine dv (gyes_none rfl) (q_as (v := .int .i64 ((qn + 1 : Nat) : Int)) rfl) rfl (by decide) (cok1 trivial) ?_
      refine ⟨_, Wk.U [(0, w5), (2, .string o), (7, .int .i64 ((f : Nat) : Int)), (8, .int .i64 ((nb : Nat) : Int)), (9, .int .i64 ((nw : Nat) : Int)), (10, .int .i64 ((sh : Nat) : Int)), (11, .slice (some ⟨b6, 0, none⟩) nm.length nm.length), (12, .slice (some ⟨b24, 0, none⟩) (qn + 1) (qn + 1)), (13, .int .i64 (((qn + 1) : Nat) : Int))] ⟨rfl, rfl, rfl, rfl, rfl, rfl, rfl, rfl, rfl, trivial⟩, (qn + 1), ⟨_, _, rfl, (s26.sub (.cons _ (.cons_cons _ (.cons_cons _ (.cons_cons _ (.refl _)))))), (by omega)⟩, (by omega)⟩
    ·
      replace c1 := of_decide_eq_false c1
      refine ⟨_, Wk.refl _ _, ?_⟩
      show awp _ _ _ _ _ _ _
      refine awp_cond_f rfl ?_
      refine awp_exit_wk ?_
      refine ⟨_, Wk.refl _ _, ?_⟩
      show awp _ _ _ _ _ _ _
      refine awp_seq ?_
      obtain rfl : f = qn := by omega
      refine awp_regs hF ?_
      refine dv (gyes_none rfl) (q_as (v := .slice none 0 0) rfl) rfl (by decide) (cok1 (cconst rfl)) ?_
      refine ⟨_, Wk.refl _ _, ?_⟩
      show awp _ _ _ _ _ _ _
      refine awp_seq ?_
      refine awp_seq ?_
      refine awp_regs hF ?_
      refine dv (gyes_none rfl) (q_as (v := .int .i64 0) rfl) rfl (by decide) (cok1 (cconst rfl)) ?_
      refine ⟨_, Wk.refl _ _, ?_⟩
      show awp _ _ _ _ _ _ _
      refine awp_block ?_
      refine awp_nil s19 14 1 rfl (fun b28 H29 hb31 s30 => ?_)
      refine awp_wk (Wk.U [(0, w5), (2, .string o), (7, .int .i64 ((f : Nat) : Int)), (8, .int .i64 ((nb : Nat) : Int)), (9, .int .i64 ((nw : Nat) : Int)), (10, .int .i64 ((sh : Nat) : Int)), (11, .slice (some ⟨b6, 0, none⟩) nm.length nm.length), (12, .slice (some ⟨bn, 0, none⟩) f f), (14, .slice (some ⟨b28, 0, none⟩) 0 0), (15, .int .i64 0)] ⟨rfl, rfl, rfl, rfl, rfl, rfl, rfl, rfl, rfl, rfl, trivial⟩) ?_
      refine awp_loop (fun (i : Nat) st => ∃ (H32 : AHeap) (bs : Nat), st = ⟨250, U [(0, w5), (2, .string o), (7, .int .i64 ((f : Nat) : Int)), (8, .int .i64 ((nb : Nat) : Int)), (9, .int .i64 ((nw : Nat) : Int)), (10, .int .i64 ((sh : Nat) : Int)), (11, .slice (some ⟨b6, 0, none⟩) nm.length nm.length), (12, .slice (some ⟨bn, 0, none⟩) f f), (14, .slice (some ⟨bs, 0, none⟩) i i), (15, .int .i64 ((i : Nat) : Int))], [], H32⟩ ∧ St H0 (none0) (Rd H0) H32 [(bs, .cells true ((srtL nm (l7.take i)).map strv) 1), (bn, .cells true ((List.replicate f (⟨#[]⟩ : ByteArray)).map strv) 1), (b6, .cells true (l7.map i64v) 1), (b1, .cells true [.int .i64 a0, .int .i64 a1, .int .i64 a2, .int .i64 a3] 4)] ∧ (i ≤ nm.length)) (fun (i : Nat) => nm.length - i) (x0 := (0)) ?h0 ?round
      case h0 =>
        exact ⟨_, _, rfl, s30, Nat.zero_le _⟩
      case round =>
        rintro i _ ⟨H32, bs, rfl, s33, hi⟩
        have hsl : (srtL nm (l7.take i)).length = i := by rw [srtL, List.length_map, List.length_take]; omega
        refine awp_seq ?_
        refine awp_seq ?_
        refine awp_regs hF ?_
        refine dv (gyes_none rfl) (q_mv (v := .int .i64 ((i : Nat) : Int)) rfl) rfl (by decide) (cok1 trivial) ?_
        refine dv (gyes_none rfl) (q_mv (v := .slice (some ⟨b6, 0, none⟩) nm.length nm.length) rfl) rfl (by decide) (cok1 trivial) ?_
        refine dv (gyes_none rfl) (q_len_slice Try.underlying25 rfl (s33.rd (j := 2) rfl)) rfl (by decide) (cok1 trivial) ?_
        refine dvb (gyes_none rfl) (q_int rfl rfl rfl) rfl (by decide) (cok2 trivial trivial) (fun c2 => ?_) (fun c2 => ?_)
        ·
          replace c2 := of_decide_eq_true c2
          refine ⟨_, Wk.refl _ _, ?_⟩
          show awp _ _ _ _ _ _ _
          refine awp_cond_t rfl ?_
          refine awp_skip_wk ?_
          refine ⟨_, Wk.refl _ _, ?_⟩
          show awp _ _ _ _ _ _ _
          refine awp_seq ?_
          refine awp_block ?_
          refine awp_seq ?_
          have hx := ho11.lt _ (nthS_mem (show i < l7.length by omega))
          have hx2 := ho11.lt _ (nthS_mem (show i - 1 < l7.length by omega))
          refine awp_regs hF ?_
          refine dv (gyes_none rfl) (q_mv (v := .slice (some ⟨bs, 0, none⟩) i i) rfl) rfl (by decide) (cok1 trivial) ?_
          refine dv (gyes_none rfl) (q_mv (v := w5) rfl) rfl (by decide) (cok1 trivial) ?_
          refine dv (gyes_none rfl) (q_mv (v := .slice (some ⟨b6, 0, none⟩) nm.length nm.length) rfl) rfl (by decide) (cok1 trivial) ?_
          refine dv (gyes_none rfl) (q_mv (v := .int .i64 ((i : Nat) : Int)) rfl) rfl (by decide) (cok1 trivial) ?_
          refine dv (gyes_none rfl) (OpQ.cast (v' := .pointer (some ⟨b6, i, none⟩)) (q_index1 (i := i) Try.underlying25 Try.sizeOf3 rfl rfl (by omega) (s33.rd (j := 2) rfl)) (by rw [Nat.zero_add])) rfl (by decide) (cok2 trivial trivial) ?_
          refine dv (gyes_none rfl) (q_load (v := i64v (nth l7 i)) Try.isAgg3 rfl (s33.rd (j := 2) rfl) (get_nth (w := 0) (by omega))) rfl (by decide) (cok1 trivial) ?_
          refine dv (gyes_none rfl) (q_index_sl (l := nm) (i := (nth l7 i)) Try.underlying23 Try.sizeOf9 (s33.sl hw5) rfl rfl (by omega)) rfl (by decide) (cok2 trivial trivial) ?_
          refine dv (gyes_none rfl) (q_load_sl (l := nm) (i := (nth l7 i)) Try.isAgg9 (s33.sl hw5) rfl (by omega)) rfl (by decide) (cok1 trivial) ?_
          refine x_new (fun b => .slice (some ⟨b, 0, none⟩) 1 1) s33 (gyes_none rfl) (q_buildSliceL (ds := [.string (nth nm (nth l7 i))]) [.string (nth nm (nth l7 i))] rfl Try.underlying23 Try.sizeOf9 Try.zeroValue9 rfl (by decide) (by decide) ⟨rfl, trivial⟩ (lvsC (by exact trivial) lvs0) rfl rfl) rfl (by decide) (cok1 trivial) (fun b34 H35 hb37 s36 => ?_)
          refine x_append (l := [(nth nm (nth l7 i))]) (f := strv) [] hF s36 (by kernel_rfl) (j := 1) (i + 1) rfl (gyes_none rfl) Try.underlying23 Try.underlying23 Try.type9 rfl rfl (by decide) rfl rfl rfl rfl (s36.slj (l := [(nth nm (nth l7 i))]) (f := strv) (j := 0) rfl rfl (Nat.le_refl _)) (fun x => lc_scalar rfl) (by rw [List.length_map, hsl, Nat.zero_add]) (by show (2 * (i + 1) + 1000) * 16 ≤ _; omega) trivial trivial (by decide) rfl rfl (vs' := (srtL nm (l7.take (i + 1))).map strv) (by rw [← srtL_snoc (show i < l7.length by omega), List.map_append]; rfl) (fun b38 H39 hb41 s40 => ⟨?_, ?_⟩)
          · exact trivial
          refine dv (gyes_none rfl) (q_as (v := .slice (some ⟨b38, 0, none⟩) (i + 1) (i + 1)) rfl) rfl (by decide) (cok1 trivial) ?_
          refine ⟨_, Wk.refl _ _, ?_⟩
          show awp _ _ _ _ _ _ _
          refine awp_seq ?_
          refine awp_regt hF hM (by kernel_rfl) (by kernel_rfl) ?_
          refine dv (gyes_none rfl) (q_mv (v := .int .i64 ((i : Nat) : Int)) rfl) rfl (by decide) (cok1 trivial) ?_
          refine dvb (gyes_none rfl) (q_int rfl rfl rfl) rfl (by decide) (cok2 trivial (cconst rfl)) (fun c3 => ?_) (fun c3 => ?_)
          ·
            replace c3 := of_decide_eq_true c3
            have hlx : gh (nth nm (nth l7 (i - 1))) % nb < gh (nth nm (nth l7 i)) % nb ∨ (gh (nth nm (nth l7 (i - 1))) % nb = gh (nth nm (nth l7 i)) % nb ∧ nth l7 (i - 1) < nth l7 i) := ord_step ho11 (by omega) (by omega)
            refine dv (gyes_none rfl) (q_mv (v := .bool true) rfl) rfl (by decide) (cok1 trivial) ?_
            refine dv (gyes_some rfl rfl) (q_mv (v := w5) rfl) rfl (by decide) (cok1 trivial) ?_
            refine dv (gyes_some rfl rfl) (q_mv (v := .slice (some ⟨b6, 0, none⟩) nm.length nm.length) rfl) rfl (by decide) (cok1 trivial) ?_
            refine dv (gyes_some rfl rfl) (q_mv (v := .int .i64 ((i : Nat) : Int)) rfl) rfl (by decide) (cok1 trivial) ?_
            refine dv (gyes_some rfl rfl) (OpQ.cast (v' := .int .i64 ((i - 1 : Nat) : Int)) (q_int rfl rfl rfl) (congrArg _ ((i64_in (by omega)).trans (by omega)))) rfl (by decide) (cok2 trivial (cconst rfl)) ?_
            refine dv (gyes_some rfl rfl) (OpQ.cast (v' := .pointer (some ⟨b6, i - 1, none⟩)) (q_index1 (i := (i - 1)) Try.underlying25 Try.sizeOf3 rfl rfl (by omega) (s40.rd (j := 3) rfl)) (by rw [Nat.zero_add])) rfl (by decide) (cok2 trivial trivial) ?_
            refine dv (gyes_some rfl rfl) (q_load (v := i64v (nth l7 (i - 1))) Try.isAgg3 rfl (s40.rd (j := 3) rfl) (get_nth (w := 0) (by omega))) rfl (by decide) (cok1 trivial) ?_
            refine dv (gyes_some rfl rfl) (q_index_sl (l := nm) (i := (nth l7 (i - 1))) Try.underlying23 Try.sizeOf9 (s40.sl hw5) rfl rfl (by omega)) rfl (by decide) (cok2 trivial trivial) ?_
            refine dv (gyes_some rfl rfl) (q_load_sl (l := nm) (i := (nth l7 (i - 1))) Try.isAgg9 (s40.sl hw5) rfl (by omega)) rfl (by decide) (cok1 trivial) ?_
            refine dv (gyes_some rfl rfl) (q_call0 Try.call19 rfl (hash_ok (nth nm (nth l7 (i - 1))) (hns _ (nthS_mem (by omega))))) rfl (by decide) (cok2 trivial trivial) ?_
            refine dv (gyes_some rfl rfl) (q_mv (v := .int .i64 ((nb : Nat) : Int)) rfl) rfl (by decide) (cok1 trivial) ?_
            refine dv (gyes_some rfl rfl) (q_convin (a := ((nb : Nat) : Int)) Try.underlying3 Try.underlying27 rfl (u32_in (by omega))) rfl (by decide) (cok1 trivial) ?_
            refine dv (gyes_some rfl rfl) (q_remM (a := (gh (nth nm (nth l7 (i - 1))))) (b := nb) rfl rfl (by first | decide | omega)) rfl (by decide) (cok2 trivial trivial) ?_
            refine dv (gyes_some rfl rfl) (q_mv (v := w5) rfl) rfl (by decide) (cok1 trivial) ?_
            refine dv (gyes_some rfl rfl) (q_mv (v := .slice (some ⟨b6, 0, none⟩) nm.length nm.length) rfl) rfl (by decide) (cok1 trivial) ?_
            refine dv (gyes_some rfl rfl) (q_mv (v := .int .i64 ((i : Nat) : Int)) rfl) rfl (by decide) (cok1 trivial) ?_
            refine dv (gyes_some rfl rfl) (OpQ.cast (v' := .pointer (some ⟨b6, i, none⟩)) (q_index1 (i := i) Try.underlying25 Try.sizeOf3 rfl rfl (by omega) (s40.rd (j := 3) rfl)) (by rw [Nat.zero_add])) rfl (by decide) (cok2 trivial trivial) ?_
            refine dv (gyes_some rfl rfl) (q_load (v := i64v (nth l7 i)) Try.isAgg3 rfl (s40.rd (j := 3) rfl) (get_nth (w := 0) (by omega))) rfl (by decide) (cok1 trivial) ?_
            refine dv (gyes_some rfl rfl) (q_index_sl (l := nm) (i := (nth l7 i)) Try.underlying23 Try.sizeOf9 (s40.sl hw5) rfl rfl (by omega)) rfl (by decide) (cok2 trivial trivial) ?_
            refine dv (gyes_some rfl rfl) (q_load_sl (l := nm) (i := (nth l7 i)) Try.isAgg9 (s40.sl hw5) rfl (by omega)) rfl (by decide) (cok1 trivial) ?_
            refine dv (gyes_some rfl rfl) (q_call0 Try.call19 rfl (hash_ok (nth nm (nth l7 i)) (hns _ (nthS_mem (by omega))))) rfl (by decide) (cok2 trivial trivial) ?_
            refine dv (gyes_some rfl rfl) (q_mv (v := .int .i64 ((nb : Nat) : Int)) rfl) rfl (by decide) (cok1 trivial) ?_
            refine dv (gyes_some rfl rfl) (q_convin (a := ((nb : Nat) : Int)) Try.underlying3 Try.underlying27 rfl (u32_in (by omega))) rfl (by decide) (cok1 trivial) ?_
            refine dv (gyes_some rfl rfl) (q_remM (a := (gh (nth nm (nth l7 i)))) (b := nb) rfl rfl (by first | decide | omega)) rfl (by decide) (cok2 trivial trivial) ?_
            refine dv (gyes_some rfl rfl) (OpQ.cast (v' := .bool false) (q_int rfl rfl rfl) (congrArg Value.bool (decide_eq_false (by omega)))) rfl (by decide) (cok2 trivial trivial) ?_
            refine dv (gyes_some rfl rfl) (q_mv (v := .bool false) rfl) rfl (by decide) (cok1 trivial) ?_
            refine dv (gyes_some rfl rfl) (q_mv (v := w5) rfl) rfl (by decide) (cok1 trivial) ?_
            refine dv (gyes_some rfl rfl) (q_mv (v := .slice (some ⟨b6, 0, none⟩) nm.length nm.length) rfl) rfl (by decide) (cok1 trivial) ?_
            refine dv (gyes_some rfl rfl) (q_mv (v := .int .i64 ((i : Nat) : Int)) rfl) rfl (by decide) (cok1 trivial) ?_
            refine dv (gyes_some rfl rfl) (OpQ.cast (v' := .int .i64 ((i - 1 : Nat) : Int)) (q_int rfl rfl rfl) (congrArg _ ((i64_in (by omega)).trans (by omega)))) rfl (by decide) (cok2 trivial (cconst rfl)) ?_
            refine dv (gyes_some rfl rfl) (OpQ.cast (v' := .pointer (some ⟨b6, i - 1, none⟩)) (q_index1 (i := (i - 1)) Try.underlying25 Try.sizeOf3 rfl rfl (by omega) (s40.rd (j := 3) rfl)) (by rw [Nat.zero_add])) rfl (by decide) (cok2 trivial trivial) ?_
            refine dv (gyes_some rfl rfl) (q_load (v := i64v (nth l7 (i - 1))) Try.isAgg3 rfl (s40.rd (j := 3) rfl) (get_nth (w := 0) (by omega))) rfl (by decide) (cok1 trivial) ?_
            refine dv (gyes_some rfl rfl) (q_index_sl (l := nm) (i := (nth l7 (i - 1))) Try.underlying23 Try.sizeOf9 (s40.sl hw5) rfl rfl (by omega)) rfl (by decide) (cok2 trivial trivial) ?_
            refine dv (gyes_some rfl rfl) (q_load_sl (l := nm) (i := (nth l7 (i - 1))) Try.isAgg9 (s40.sl hw5) rfl (by omega)) rfl (by decide) (cok1 trivial) ?_
            refine dv (gyes_some rfl rfl) (q_call0 Try.call19 rfl (hash_ok (nth nm (nth l7 (i - 1))) (hns _ (nthS_mem (by omega))))) rfl (by decide) (cok2 trivial trivial) ?_
            refine dv (gyes_some rfl rfl) (q_mv (v := .int .i64 ((nb : Nat) : Int)) rfl) rfl (by decide) (cok1 trivial) ?_
            refine dv (gyes_some rfl rfl) (q_convin (a := ((nb : Nat) : Int)) Try.underlying3 Try.underlying27 rfl (u32_in (by omega))) rfl (by decide) (cok1 trivial) ?_
            refine dv (gyes_some rfl rfl) (q_remM (a := (gh (nth nm (nth l7 (i - 1))))) (b := nb) rfl rfl (by first | decide | omega)) rfl (by decide) (cok2 trivial trivial) ?_
            refine dv (gyes_some rfl rfl) (q_mv (v := w5) rfl) rfl (by decide) (cok1 trivial) ?_
            refine dv (gyes_some rfl rfl) (q_mv (v := .slice (some ⟨b6, 0, none⟩) nm.length nm.length) rfl) rfl (by decide) (cok1 trivial) ?_
            refine dv (gyes_some rfl rfl) (q_mv (v := .int .i64 ((i : Nat) : Int)) rfl) rfl (by decide) (cok1 trivial) ?_
            refine dv (gyes_some rfl rfl) (OpQ.cast (v' := .pointer (some ⟨b6, i, none⟩)) (q_index1 (i := i) Try.underlying25 Try.sizeOf3 rfl rfl (by omega) (s40.rd (j := 3) rfl)) (by rw [Nat.zero_add])) rfl (by decide) (cok2 trivial trivial) ?_
            refine dv (gyes_some rfl rfl) (q_load (v := i64v (nth l7 i)) Try.isAgg3 rfl (s40.rd (j := 3) rfl) (get_nth (w := 0) (by omega))) rfl (by decide) (cok1 trivial) ?_
            refine dv (gyes_some rfl rfl) (q_index_sl (l := nm) (i := (nth l7 i)) Try.underlying23 Try.sizeOf9 (s40.sl hw5) rfl rfl (by omega)) rfl (by decide) (cok2 trivial trivial) ?_
            refine dv (gyes_some rfl rfl) (q_load_sl (l := nm) (i := (nth l7 i)) Try.isAgg9 (s40.sl hw5) rfl (by omega)) rfl (by decide) (cok1 trivial) ?_
            refine dv (gyes_some rfl rfl) (q_call0 Try.call19 rfl (hash_ok (nth nm (nth l7 i)) (hns _ (nthS_mem (by omega))))) rfl (by decide) (cok2 trivial trivial) ?_
            refine dv (gyes_some rfl rfl) (q_mv (v := .int .i64 ((nb : Nat) : Int)) rfl) rfl (by decide) (cok1 trivial) ?_
            refine dv (gyes_some rfl rfl) (q_convin (a := ((nb : Nat) : Int)) Try.underlying3 Try.underlying27 rfl (u32_in (by omega))) rfl (by decide) (cok1 trivial) ?_
            refine dv (gyes_some rfl rfl) (q_remM (a := (gh (nth nm (nth l7 i)))) (b := nb) rfl rfl (by first | decide | omega)) rfl (by decide) (cok2 trivial trivial) ?_
            refine dvb (gyes_some rfl rfl) (q_int rfl rfl rfl) rfl (by decide) (cok2 trivial trivial) (fun c4 => ?_) (fun c4 => ?_)
            ·
              replace c4 := eq_of_beq c4
              refine dv (gyes_some rfl rfl) (q_mv (v := .bool true) rfl) rfl (by decide) (cok1 trivial) ?_
              refine dv (gyes_some rfl rfl) (q_mv (v := .slice (some ⟨b6, 0, none⟩) nm.length nm.length) rfl) rfl (by decide) (cok1 trivial) ?_
              refine dv (gyes_some rfl rfl) (q_mv (v := .int .i64 ((i : Nat) : Int)) rfl) rfl (by decide) (cok1 trivial) ?_
              refine dv (gyes_some rfl rfl) (OpQ.cast (v' := .int .i64 ((i - 1 : Nat) : Int)) (q_int rfl rfl rfl) (congrArg _ ((i64_in (by omega)).trans (by omega)))) rfl (by decide) (cok2 trivial (cconst rfl)) ?_
              refine dv (gyes_some rfl rfl) (OpQ.cast (v' := .pointer (some ⟨b6, i - 1, none⟩)) (q_index1 (i := (i - 1)) Try.underlying25 Try.sizeOf3 rfl rfl (by omega) (s40.rd (j := 3) rfl)) (by rw [Nat.zero_add])) rfl (by decide) (cok2 trivial trivial) ?_
              refine dv (gyes_some rfl rfl) (q_load (v := i64v (nth l7 (i - 1))) Try.isAgg3 rfl (s40.rd (j := 3) rfl) (get_nth (w := 0) (by omega))) rfl (by decide) (cok1 trivial) ?_
              refine dv (gyes_some rfl rfl) (q_mv (v := .slice (some ⟨b6, 0, none⟩) nm.length nm.length) rfl) rfl (by decide) (cok1 trivial) ?_
              refine dv (gyes_some rfl rfl) (q_mv (v := .int .i64 ((i : Nat) : Int)) rfl) rfl (by decide) (cok1 trivial) ?_
              refine dv (gyes_some rfl rfl) (OpQ.cast (v' := .pointer (some ⟨b6, i, none⟩)) (q_index1 (i := i) Try.underlying25 Try.sizeOf3 rfl rfl (by omega) (s40.rd (j := 3) rfl)) (by rw [Nat.zero_add])) rfl (by decide) (cok2 trivial trivial) ?_
              refine dv (gyes_some rfl rfl) (q_load (v := i64v (nth l7 i)) Try.isAgg3 rfl (s40.rd (j := 3) rfl) (get_nth (w := 0) (by omega))) rfl (by decide) (cok1 trivial) ?_
              refine dv (gyes_some rfl rfl) (OpQ.cast (v' := .bool false) (q_int rfl rfl rfl) (congrArg Value.bool (decide_eq_false (by omega)))) rfl (by decide) (cok2 trivial trivial) ?_
              refine dv (gyes_some rfl rfl) (q_pt (v := .bool false) rfl rfl) rfl (by decide) (call_ok rfl) ?_
              refine dv (gyes_some rfl rfl) (q_pf (v := .bool false) rfl rfl) rfl (by decide) (call_ok rfl) ?_
              refine dv (gyes_none rfl) (q_pt (v := .bool false) rfl rfl) rfl (by decide) (call_ok rfl) ?_
              refine ⟨_, Wk.refl _ _, ?_⟩
              show awp _ _ _ _ _ _ _
              refine awp_cond_f rfl ?_
              refine awp_skip_wk ?_
              refine ⟨_, Wk.refl _ _, ?_⟩
              show awp _ _ _ _ _ _ _
              refine awp_regs hF ?_
              refine dv (gyes_none rfl) (q_mv (v := .int .i64 ((i : Nat) : Int)) rfl) rfl (by decide) (cok1 trivial) ?_
              refine dv (gyes_none rfl) (OpQ.cast (v' := .int .i64 ((i + 1 : Nat) : Int)) (q_int rfl rfl rfl) (congrArg _ ((i64_in (by omega)).trans (by first | rfl | omega | (push_cast; rfl))))) rfl (by decide) (cok2 trivial (cconst rfl)) ?_
              refine dv (gyes_none rfl) (q_as (v := .int .i64 ((i + 1 : Nat) : Int)) rfl) rfl (by decide) (cok1 trivial) ?_
              refine ⟨_, Wk.U [(0, w5), (2, .string o), (7, .int .i64 ((f : Nat) : Int)), (8, .int .i64 ((nb : Nat) : Int)), (9, .int .i64 ((nw : Nat) : Int)), (10, .int .i64 ((sh : Nat) : Int)), (11, .slice (some ⟨b6, 0, none⟩) nm.length nm.length), (12, .slice (some ⟨bn, 0, none⟩) f f), (14, .slice (some ⟨b38, 0, none⟩) (i + 1) (i + 1)), (15, .int .i64 (((i + 1) : Nat) : Int))] ⟨rfl, rfl, rfl, rfl, rfl, rfl, rfl, rfl, rfl, rfl, trivial⟩, (i + 1), ⟨_, _, rfl, (s40.sub (.cons _ (.cons_cons _ (.cons_cons _ (.cons_cons _ (.cons_cons _ (.refl _))))))), (by omega)⟩, (by omega)⟩
            ·
              replace c4 := ne_of_beq_false c4
              refine dv (gyes_some rfl rfl) (q_mv (v := .bool false) rfl) rfl (by decide) (cok1 trivial) ?_
              refine dno rfl (.inl rfl) rfl (by decide) ?_
              refine dno rfl (.inl rfl) rfl (by decide) ?_
              refine dno rfl (.inl rfl) rfl (by decide) ?_
              refine dno rfl (.inl rfl) rfl (by decide) ?_
              refine dno rfl (.inl rfl) rfl (by decide) ?_
              refine dno rfl (.inl rfl) rfl (by decide) ?_
              refine dno rfl (.inl rfl) rfl (by decide) ?_
              refine dno rfl (.inl rfl) rfl (by decide) ?_
              refine dno rfl (.inl rfl) rfl (by decide) ?_
              refine dno rfl (.inl rfl) rfl (by decide) ?_
              refine dv (gyes_some rfl rfl) (q_pf (v := .bool false) rfl rfl) rfl (by decide) (call_ok rfl) ?_
              refine dv (gyes_some rfl rfl) (q_pf (v := .bool false) rfl rfl) rfl (by decide) (call_ok rfl) ?_
              refine dv (gyes_none rfl) (q_pt (v := .bool false) rfl rfl) rfl (by decide) (call_ok rfl) ?_
              refine ⟨_, Wk.refl _ _, ?_⟩
              show awp _ _ _ _ _ _ _
              refine awp_cond_f rfl ?_
              refine awp_skip_wk ?_
              refine ⟨_, Wk.refl _ _, ?_⟩
              show awp _ _ _ _ _ _ _
              refine awp_regs hF ?_
              refine dv (gyes_none rfl) (q_mv (v := .int .i64 ((i : Nat) : Int)) rfl) rfl (by decide) (cok1 trivial) ?_
              refine dv (gyes_none rfl) (OpQ.cast (v' := .int .i64 ((i + 1 : Nat) : Int)) (q_int rfl rfl rfl) (congrArg _ ((i64_in (by omega)).trans (by first | rfl | omega | (push_cast; rfl))))) rfl (by decide) (cok2 trivial (cconst rfl)) ?_
              refine dv (gyes_none rfl) (q_as (v := .int .i64 ((i + 1 : Nat) : Int)) rfl) rfl (by decide) (cok1 trivial) ?_
              refine ⟨_, Wk.U [(0, w5), (2, .string o), (7, .int .i64 ((f : Nat) : Int)), (8, .int .i64 ((nb : Nat) : Int)), (9, .int .i64 ((nw : Nat) : Int)), (10, .int .i64 ((sh : Nat) : Int)), (11, .slice (some ⟨b6, 0, none⟩) nm.length nm.length), (12, .slice (some ⟨bn, 0, none⟩) f f), (14, .slice (some ⟨b38, 0, none⟩) (i + 1) (i + 1)), (15, .int .i64 (((i + 1) : Nat) : Int))] ⟨rfl, rfl, rfl, rfl, rfl, rfl, rfl, rfl, rfl, rfl, trivial⟩, (i + 1), ⟨_, _, rfl, (s40.sub (.cons _ (.cons_cons _ (.cons_cons _ (.cons_cons _ (.cons_cons _ (.refl _))))))), (by omega)⟩, (by omega)⟩
          ·
            replace c3 := of_decide_eq_false c3
            refine dv (gyes_none rfl) (q_mv (v := .bool false) rfl) rfl (by decide) (cok1 trivial) ?_
            refine dno rfl (.inl rfl) rfl (by decide) ?_
            refine dno rfl (.inl rfl) rfl (by decide) ?_
            refine dno rfl (.inl rfl) rfl (by decide) ?_
            refine dno rfl (.inl rfl) rfl (by decide) ?_
            refine dno rfl (.inl rfl) rfl (by decide) ?_
            refine dno rfl (.inl rfl) rfl (by decide) ?_
            refine dno rfl (.inl rfl) rfl (by decide) ?_
            refine dno rfl (.inl rfl) rfl (by decide) ?_
            refine dno rfl (.inl rfl) rfl (by decide) ?_
            refine dno rfl (.inl rfl) rfl (by decide) ?_
            refine dno rfl (.inl rfl) rfl (by decide) ?_
            refine dno rfl (.inl rfl) rfl (by decide) ?_
            refine dno rfl (.inl rfl) rfl (by decide) ?_
            refine dno rfl (.inl rfl) rfl (by decide) ?_
            refine dno rfl (.inl rfl) rfl (by decide) ?_
            refine dno rfl (.inl rfl) rfl (by decide) ?_
            refine dno rfl (.inl rfl) rfl (by decide) ?_
            refine dno rfl (.inl rfl) rfl (by decide) ?_
            refine dno rfl (.inl rfl) rfl (by decide) ?_
            refine dno rfl (.inl rfl) rfl (by decide) ?_
            refine dno rfl (.inl rfl) rfl (by decide) ?_
            refine dno rfl (.inl rfl) rfl (by decide) ?_
            refine dno rfl (.inl rfl) rfl (by decide) ?_
            refine dno rfl (.inl rfl) rfl (by decide) ?_
            refine dno rfl (.inl rfl) rfl (by decide) ?_
            refine dno rfl (.inr rfl) rfl (by decide) ?_
            refine dno rfl (.inr rfl) rfl (by decide) ?_
            refine dno rfl (.inr rfl) rfl (by decide) ?_
            refine dno rfl (.inr rfl) rfl (by decide) ?_
            refine dno rfl (.inr rfl) rfl (by decide) ?_
            refine dno rfl (.inr rfl) rfl (by decide) ?_
            refine dno rfl (.inr rfl) rfl (by decide) ?_
            refine dno rfl (.inr rfl) rfl (by decide) ?_
            refine dno rfl (.inr rfl) rfl (by decide) ?_
            refine dno rfl (.inr rfl) rfl (by decide) ?_
            refine dno rfl (.inr rfl) rfl (by decide) ?_
            refine dno rfl (.inr rfl) rfl (by decide) ?_
            refine dno rfl (.inr rfl) rfl (by decide) ?_
            refine dno rfl (.inr rfl) rfl (by decide) ?_
            refine dno rfl (.inr rfl) rfl (by decide) ?_
            refine dno rfl (.inr rfl) rfl (by decide) ?_
            refine dno rfl (.inr rfl) rfl (by decide) ?_
            refine dno rfl (.inr rfl) rfl (by decide) ?_
            refine dno rfl (.inr rfl) rfl (by decide) ?_
            refine dno rfl (.inr rfl) rfl (by decide) ?_
            refine dno rfl (.inr rfl) rfl (by decide) ?_
            refine dno rfl (.inr rfl) rfl (by decide) ?_
            refine dno rfl (.inr rfl) rfl (by decide) ?_
            refine dno rfl (.inr rfl) rfl (by decide) ?_
            refine dno rfl (.inr rfl) rfl (by decide) ?_
            refine dno rfl (.inr rfl) rfl (by decide) ?_
            refine dno rfl (.inr rfl) rfl (by decide) ?_
            refine dno rfl (.inr rfl) rfl (by decide) ?_
            refine dno rfl (.inr rfl) rfl (by decide) ?_
            refine dno rfl (.inr rfl) rfl (by decide) ?_
            refine dno rfl (.inr rfl) rfl (by decide) ?_
            refine dno rfl (.inr rfl) rfl (by decide) ?_
            refine dno rfl (.inr rfl) rfl (by decide) ?_
            refine dno rfl (.inr rfl) rfl (by decide) ?_
            refine dno rfl (.inr rfl) rfl (by decide) ?_
            refine dno rfl (.inr rfl) rfl (by decide) ?_
            refine dno rfl (.inl rfl) rfl (by decide) ?_
            refine dv (gyes_none rfl) (q_pf (v := .bool false) rfl rfl) rfl (by decide) (call_ok rfl) ?_
            refine ⟨_, Wk.refl _ _, ?_⟩
            show awp _ _ _ _ _ _ _
            refine awp_cond_f rfl ?_
            refine awp_skip_wk ?_
            refine ⟨_, Wk.refl _ _, ?_⟩
            show awp _ _ _ _ _ _ _
            refine awp_regs hF ?_
            refine dv (gyes_none rfl) (q_mv (v := .int .i64 ((i : Nat) : Int)) rfl) rfl (by decide) (cok1 trivial) ?_
            refine dv (gyes_none rfl) (OpQ.cast (v' := .int .i64 ((i + 1 : Nat) : Int)) (q_int rfl rfl rfl) (congrArg _ ((i64_in (by omega)).trans (by first | rfl | omega | (push_cast; rfl))))) rfl (by decide) (cok2 trivial (cconst rfl)) ?_
            refine dv (gyes_none rfl) (q_as (v := .int .i64 ((i + 1 : Nat) : Int)) rfl) rfl (by decide) (cok1 trivial) ?_
            refine ⟨_, Wk.U [(0, w5), (2, .string o), (7, .int .i64 ((f : Nat) : Int)), (8, .int .i64 ((nb : Nat) : Int)), (9, .int .i64 ((nw : Nat) : Int)), (10, .int .i64 ((sh : Nat) : Int)), (11, .slice (some ⟨b6, 0, none⟩) nm.length nm.length), (12, .slice (some ⟨bn, 0, none⟩) f f), (14, .slice (some ⟨b38, 0, none⟩) (i + 1) (i + 1)), (15, .int .i64 (((i + 1) : Nat) : Int))] ⟨rfl, rfl, rfl, rfl, rfl, rfl, rfl, rfl, rfl, rfl, trivial⟩, (i + 1), ⟨_, _, rfl, (s40.sub (.cons _ (.cons_cons _ (.cons_cons _ (.cons_cons _ (.cons_cons _ (.refl _))))))), (by omega)⟩, (by omega)⟩
        ·
          replace c2 := of_decide_eq_false c2
          refine ⟨_, Wk.refl _ _, ?_⟩
          show awp _ _ _ _ _ _ _
          refine awp_cond_f rfl ?_
          refine awp_exit_wk ?_
          refine ⟨_, Wk.refl _ _, ?_⟩
          show awp _ _ _ _ _ _ _
          refine awp_seq ?_
          have hsd0 : srtL nm (l7.take i) = srtL nm l7 := by rw [List.take_of_length_le (by omega)]
          obtain ⟨sd, hsd⟩ : ∃ sd, sd = srtL nm l7 := ⟨_, rfl⟩
          rw [hsd0, ← hsd] at s33
          have hsl : sd.length = i := by rw [hsd, srtL, List.length_map]; omega
          have hss : ∀ x ∈ sd, x.size ≤ 140737488355328 := fun x hx => hns x (srtL_mem ho11.lt x (hsd ▸ hx))
          have hsk : sortedK sd nb = true := by rw [hsd]; exact srtL_sorted ho11
          have hg : GBt sd nb f nw sh := ⟨hsk, by omega, by omega, by omega, by omega, by omega, by omega, by omega⟩
          refine awp_regs hF ?_
          refine dv (gyes_none rfl) (q_mv (v := .slice (some ⟨bn, 0, none⟩) f f) rfl) rfl (by decide) (cok1 trivial) ?_
          refine dv (gyes_none rfl) (q_mv (v := .slice (some ⟨bs, 0, none⟩) i i) rfl) rfl (by decide) (cok1 trivial) ?_
          refine x_append (l := sd) (f := strv) [] hF s33 (by kernel_rfl) (j := 1) (f + i) (by omega) (gyes_none rfl) Try.underlying23 Try.underlying23 Try.type9 rfl rfl (by decide) rfl rfl rfl rfl (s33.slj (j := 0) rfl (by omega) (Nat.le_refl _)) (fun x => lc_scalar rfl) (by rw [List.length_map, List.length_replicate, Nat.zero_add]) (by show (2 * (f + i) + 1000) * 16 ≤ _; omega) trivial trivial (by decide) rfl rfl (vs' := ((List.replicate f (⟨#[]⟩ : ByteArray)) ++ sd).map strv) (by simp) (fun b42 H43 hb45 s44 => ⟨?_, ?_⟩)
          · exact trivial
          refine dv (gyes_none rfl) (q_as (v := .slice (some ⟨b42, 0, none⟩) (f + i) (f + i)) rfl) rfl (by decide) (cok1 trivial) ?_
          refine ⟨_, Wk.refl _ _, ?_⟩
          show awp _ _ _ _ _ _ _
          refine awp_seq ?_
          refine awp_regs hF ?_
          refine dv (gyes_none rfl) (q_mv (v := .slice (some ⟨bs, 0, none⟩) i i) rfl) rfl (by decide) (cok1 trivial) ?_
          refine dv (gyes_none rfl) (q_mv (v := .int .i64 ((f : Nat) : Int)) rfl) rfl (by decide) (cok1 trivial) ?_
          refine dv (gyes_none rfl) (q_mv (v := .int .i64 ((nb : Nat) : Int)) rfl) rfl (by decide) (cok1 trivial) ?_
          refine dv (gyes_none rfl) (q_mv (v := .int .i64 ((nw : Nat) : Int)) rfl) rfl (by decide) (cok1 trivial) ?_
          refine dv (gyes_none rfl) (q_mv (v := .int .i64 ((sh : Nat) : Int)) rfl) rfl (by decide) (cok1 trivial) ?_
          refine x_call [] hF (by kernel_rfl) (gyes_none rfl) Try.call9 rfl (args := [.slice (some ⟨bs, 0, none⟩) i i, .int .i64 ((f : Nat) : Int), .int .i64 ((nb : Nat) : Int), .int .i64 ((nw : Nat) : Int), .int .i64 ((sh : Nat) : Int)]) rfl (build_yes _ sd (s44.slj (j := 0) rfl (by first | rfl | (simp; done) | omega | exact blN_len _ | exact bkN_len _ | exact chN_len _ | (rw [chN_len]; omega) | (rw [List.length_append, List.length_replicate]; omega)) (by first | exact Nat.le_refl _ | omega)) hss (by omega) f nb nw sh ⟨by omega, by omega, by omega, by omega, by omega, by omega, by omega⟩ hsk) (show _ < _ by decide) (call_ok rfl) rfl rfl (fun _ _ _ _ hd => by cases hd) ?_
          rintro _ H49 ⟨b46, b47, b48, rfl, hn50⟩
          have s51 := s44.callL hn50
          refine ⟨trivial, ?_⟩
          show dList _ _ _ _ _ _ _ _ _ _
          refine dv (gyes_none rfl) (q_mv (v := .tuple #[.agg #[.int .u32 ((f : Nat) : Int), .int .u32 ((sh : Nat) : Int), .slice (some ⟨b46, 0, none⟩) nw nw, .slice (some ⟨b47, 0, none⟩) nb nb, .slice (some ⟨b48, 0, none⟩) sd.length sd.length], .bool true]) rfl) rfl (by decide) (cok1 trivial) ?_
          refine dv (gyes_none rfl) (q_extract (v := .agg #[.int .u32 ((f : Nat) : Int), .int .u32 ((sh : Nat) : Int), .slice (some ⟨b46, 0, none⟩) nw nw, .slice (some ⟨b47, 0, none⟩) nb nb, .slice (some ⟨b48, 0, none⟩) sd.length sd.length]) rfl rfl) rfl (by decide) (cok1 trivial) ?_
          refine dv (gyes_none rfl) (q_extract (v := .bool true) rfl rfl) rfl (by decide) (cok1 trivial) ?_
          refine x_new (fun b => .pointer (some ⟨b, 0, none⟩)) s51 (gyes_none rfl) (q_alloc (vs := [.int .u32 0, .int .u32 0, .slice none 0 0, .slice none 0 0, .slice none 0 0]) 5 Try.zeroValue31 (by first | exact flat_scalar rfl | exact flat_agg rfl) rfl) rfl (by decide) (by simp [Op.operands, Call.operands]) (fun b52 H53 hb55 s54 => ?_)
          refine x_store [] hF s54 (by kernel_rfl) (gyes_none rfl) (j := 0) (v := .agg #[.int .u32 ((f : Nat) : Int), .int .u32 ((sh : Nat) : Int), .slice (some ⟨b46, 0, none⟩) nw nw, .slice (some ⟨b47, 0, none⟩) nb nb, .slice (some ⟨b48, 0, none⟩) sd.length sd.length]) rfl Try.sizeOf31 rfl rfl rfl rfl rfl trivial (lcsA ⟨(lc_scalar rfl), (lc_scalar rfl), (lc_slice (s54.live (j := 3) rfl)), (lc_slice (s54.live (j := 2) rfl)), (lc_slice (s54.live (j := 1) rfl)), trivial⟩) (Nat.le_of_ble_eq_true rfl) trivial trivial rfl rfl (F' := [(b52, .cells true [.int .u32 ((f : Nat) : Int), .int .u32 ((sh : Nat) : Int), .slice (some ⟨b46, 0, none⟩) nw nw, .slice (some ⟨b47, 0, none⟩) nb nb, .slice (some ⟨b48, 0, none⟩) sd.length sd.length] 5), (b48, .cells true ((chN sd nb sd.length).map u32v) 1), (b47, .cells true ((bkN sd nb f sd.length).map u32v) 1), (b46, .cells true ((blN sd nw sh sd.length).map u64v) 1), (bs, .cells true (sd.map strv) 1), (b42, .cells true (((List.replicate f (⟨#[]⟩ : ByteArray)) ++ sd).map strv) 1), (b6, .cells true (l7.map i64v) 1), (b1, .cells true [.int .i64 a0, .int .i64 a1, .int .i64 a2, .int .i64 a3] 4)]) rfl (fun H56 s57 => ⟨?_, ?_⟩)
          · exact trivial
          refine dv (gyes_none rfl) (q_as (v := .bool true) rfl) rfl (by decide) (cok1 trivial) ?_
          refine ⟨_, Wk.refl _ _, ?_⟩
          show awp _ _ _ _ _ _ _
          refine awp_seq ?_
          refine awp_regs hF ?_
          refine dv (gyes_none rfl) (q_loadAgg Try.isAgg31 Try.sizeOf31 rfl (s57.rd (j := 0) rfl) (Nat.le_of_ble_eq_true rfl) rfl) rfl (by decide) (cok1 trivial) ?_
          refine dv (gyes_none rfl) (q_call0 Try.call17 rfl (gput_ok f sh _ _ _ (blN sd nw sh sd.length) (bkN sd nb f sd.length) (chN sd nb sd.length) (s57.slj (j := 3) rfl (by first | rfl | (simp; done) | omega | exact blN_len _ | exact bkN_len _ | exact chN_len _ | (rw [chN_len]; omega) | (rw [List.length_append, List.length_replicate]; omega)) (by first | exact Nat.le_refl _ | omega)) (s57.slj (j := 2) rfl (by first | rfl | (simp; done) | omega | exact blN_len _ | exact bkN_len _ | exact chN_len _ | (rw [chN_len]; omega) | (rw [List.length_append, List.length_replicate]; omega)) (by first | exact Nat.le_refl _ | omega)) (s57.slj (j := 1) rfl (by first | rfl | (simp; done) | omega | exact blN_len _ | exact bkN_len _ | exact chN_len _ | (rw [chN_len]; omega) | (rw [List.length_append, List.length_replicate]; omega)) (by first | exact Nat.le_refl _ | omega)) (by omega) (by omega) (by first | (rw [blN_len]; omega) | (rw [bkN_len]; omega) | (rw [chN_len]; omega)) (by first | (rw [blN_len]; omega) | (rw [bkN_len]; omega) | (rw [chN_len]; omega)) (by first | (rw [blN_len]; omega) | (rw [bkN_len]; omega) | (rw [chN_len]; omega)) (by first | exact blN_w _ | exact fun x hx => Nat.lt_trans (bkN_w (by omega) x hx) (by decide) | exact chN_w _) (by first | exact blN_w _ | exact fun x hx => Nat.lt_trans (bkN_w (by omega) x hx) (by decide) | exact chN_w _) (by first | exact blN_w _ | exact fun x hx => Nat.lt_trans (bkN_w (by omega) x hx) (by decide) | exact chN_w _))) rfl (by decide) (cok2 trivial trivial) ?_
          refine x_call [] hF (by kernel_rfl) (gyes_none rfl) Try.call15 rfl (args := [.string (putG (blN sd nw sh sd.length) (bkN sd nb f sd.length) (chN sd nb sd.length) f sh)]) rfl (bread_ok hg) (show _ < _ by decide) (call_ok rfl) rfl rfl (fun _ _ _ _ hd => by cases hd) ?_
          rintro _ H61 ⟨b58, b59, b60, rfl, hn62⟩
          have s63 := s57.callL hn62
          refine ⟨trivial, ?_⟩
          show dList _ _ _ _ _ _ _ _ _ _
          refine dv (gyes_none rfl) (q_mv (v := .tuple #[.agg #[.int .u32 ((f : Nat) : Int), .int .u32 ((sh : Nat) : Int), .slice (some ⟨b58, 0, none⟩) nw nw, .slice (some ⟨b59, 0, none⟩) nb nb, .slice (some ⟨b60, 0, none⟩) sd.length sd.length], .agg #[.int .i64 0, .int .u64 0, .string (⟨#[]⟩ : ByteArray)]]) rfl) rfl (by decide) (cok1 trivial) ?_
          refine dv (gyes_none rfl) (q_extract (v := .agg #[.int .u32 ((f : Nat) : Int), .int .u32 ((sh : Nat) : Int), .slice (some ⟨b58, 0, none⟩) nw nw, .slice (some ⟨b59, 0, none⟩) nb nb, .slice (some ⟨b60, 0, none⟩) sd.length sd.length]) rfl rfl) rfl (by decide) (cok1 trivial) ?_
          refine dv (gyes_none rfl) (q_extract (v := .agg #[.int .i64 0, .int .u64 0, .string (⟨#[]⟩ : ByteArray)]) rfl rfl) rfl (by decide) (cok1 trivial) ?_
          refine x_new (fun b => .pointer (some ⟨b, 0, none⟩)) s63 (gyes_none rfl) (q_alloc (vs := [.int .u32 0, .int .u32 0, .slice none 0 0, .slice none 0 0, .slice none 0 0]) 5 Try.zeroValue31 (by first | exact flat_scalar rfl | exact flat_agg rfl) rfl) rfl (by decide) (by simp [Op.operands, Call.operands]) (fun b64 H65 hb67 s66 => ?_)
          refine x_new (fun b => .pointer (some ⟨b, 0, none⟩)) s66 (gyes_none rfl) (q_alloc (vs := [.int .i64 0, .int .u64 0, .string ⟨#[]⟩]) 3 Try.zeroValue47 (by first | exact flat_scalar rfl | exact flat_agg rfl) rfl) rfl (by decide) (by simp [Op.operands, Call.operands]) (fun b68 H69 hb71 s70 => ?_)
          refine x_store [] hF s70 (by kernel_rfl) (gyes_none rfl) (j := 1) (v := .agg #[.int .u32 ((f : Nat) : Int), .int .u32 ((sh : Nat) : Int), .slice (some ⟨b58, 0, none⟩) nw nw, .slice (some ⟨b59, 0, none⟩) nb nb, .slice (some ⟨b60, 0, none⟩) sd.length sd.length]) rfl Try.sizeOf31 rfl rfl rfl rfl rfl trivial (lcsA ⟨(lc_scalar rfl), (lc_scalar rfl), (lc_slice (s70.live (j := 4) rfl)), (lc_slice (s70.live (j := 3) rfl)), (lc_slice (s70.live (j := 2) rfl)), trivial⟩) (Nat.le_of_ble_eq_true rfl) trivial trivial rfl rfl (F' := [(b68, .cells true [.int .i64 0, .int .u64 0, .string ⟨#[]⟩] 3), (b64, .cells true [.int .u32 ((f : Nat) : Int), .int .u32 ((sh : Nat) : Int), .slice (some ⟨b58, 0, none⟩) nw nw, .slice (some ⟨b59, 0, none⟩) nb nb, .slice (some ⟨b60, 0, none⟩) sd.length sd.length] 5), (b60, .cells true ((chN sd nb sd.length).map u32v) 1), (b59, .cells true ((bkN sd nb f sd.length).map u32v) 1), (b58, .cells true ((blN sd nw sh sd.length).map u64v) 1), (b52, .cells true [.int .u32 ((f : Nat) : Int), .int .u32 ((sh : Nat) : Int), .slice (some ⟨b46, 0, none⟩) nw nw, .slice (some ⟨b47, 0, none⟩) nb nb, .slice (some ⟨b48, 0, none⟩) sd.length sd.length] 5), (b48, .cells true ((chN sd nb sd.length).map u32v) 1), (b47, .cells true ((bkN sd nb f sd.length).map u32v) 1), (b46, .cells true ((blN sd nw sh sd.length).map u64v) 1), (bs, .cells true (sd.map strv) 1), (b42, .cells true (((List.replicate f (⟨#[]⟩ : ByteArray)) ++ sd).map strv) 1), (b6, .cells true (l7.map i64v) 1), (b1, .cells true [.int .i64 a0, .int .i64 a1, .int .i64 a2, .int .i64 a3] 4)]) rfl (fun H72 s73 => ⟨?_, ?_⟩)
          · exact trivial
          refine x_store [] hF s73 (by kernel_rfl) (gyes_none rfl) (j := 0) (v := .agg #[.int .i64 0, .int .u64 0, .string (⟨#[]⟩ : ByteArray)]) rfl Try.sizeOf47 rfl rfl rfl rfl rfl trivial (lcsA ⟨(lc_scalar rfl), (lc_scalar rfl), (lc_scalar rfl), trivial⟩) (Nat.le_of_ble_eq_true rfl) trivial trivial rfl rfl (F' := [(b68, .cells true [.int .i64 0, .int .u64 0, .string (⟨#[]⟩ : ByteArray)] 3), (b64, .cells true [.int .u32 ((f : Nat) : Int), .int .u32 ((sh : Nat) : Int), .slice (some ⟨b58, 0, none⟩) nw nw, .slice (some ⟨b59, 0, none⟩) nb nb, .slice (some ⟨b60, 0, none⟩) sd.length sd.length] 5), (b60, .cells true ((chN sd nb sd.length).map u32v) 1), (b59, .cells true ((bkN sd nb f sd.length).map u32v) 1), (b58, .cells true ((blN sd nw sh sd.length).map u64v) 1), (b52, .cells true [.int .u32 ((f : Nat) : Int), .int .u32 ((sh : Nat) : Int), .slice (some ⟨b46, 0, none⟩) nw nw, .slice (some ⟨b47, 0, none⟩) nb nb, .slice (some ⟨b48, 0, none⟩) sd.length sd.length] 5), (b48, .cells true ((chN sd nb sd.length).map u32v) 1), (b47, .cells true ((bkN sd nb f sd.length).map u32v) 1), (b46, .cells true ((blN sd nw sh sd.length).map u64v) 1), (bs, .cells true (sd.map strv) 1), (b42, .cells true (((List.replicate f (⟨#[]⟩ : ByteArray)) ++ sd).map strv) 1), (b6, .cells true (l7.map i64v) 1), (b1, .cells true [.int .i64 a0, .int .i64 a1, .int .i64 a2, .int .i64 a3] 4)]) rfl (fun H74 s75 => ⟨?_, ?_⟩)
          · exact trivial
          refine ⟨_, Wk.refl _ _, ?_⟩
          show awp _ _ _ _ _ _ _
          refine awp_seq ?_
          refine awp_seq ?_
          refine awp_regt hF hM (by kernel_rfl) (by kernel_rfl) ?_
          refine dv (gyes_none rfl) (q_mv (v := .slice (some ⟨b6, 0, none⟩) nm.length nm.length) rfl) rfl (by decide) (cok1 trivial) ?_
          refine dv (gyes_none rfl) (q_len_slice Try.underlying25 rfl (s75.rd (j := 11) rfl)) rfl (by decide) (cok1 trivial) ?_
          refine dv (gyes_none rfl) (q_mv (v := w5) rfl) rfl (by decide) (cok1 trivial) ?_
          refine dv (gyes_none rfl) (q_len_sl (l := nm) Try.underlying23 (s75.sl hw5) rfl) rfl (by decide) (cok1 trivial) ?_
          refine dv (gyes_none rfl) (OpQ.cast (v' := .bool false) (q_int rfl rfl rfl) (congrArg Value.bool (bne_self_eq_false _))) rfl (by decide) (cok2 trivial trivial) ?_
          refine dv (gyes_none rfl) (q_mv (v := .bool false) rfl) rfl (by decide) (cok1 trivial) ?_
          refine dv (gyes_some rfl rfl) (q_mv (v := .bool true) rfl) rfl (by decide) (cok1 trivial) ?_
          refine dv (gyes_some rfl rfl) (q_not (b := true) rfl) rfl (by decide) (cok1 trivial) ?_
          refine dv (gyes_none rfl) (q_pf (v := .bool false) rfl rfl) rfl (by decide) (call_ok rfl) ?_
          refine dv (gyes_none rfl) (q_mv (v := .bool false) rfl) rfl (by decide) (cok1 trivial) ?_
          refine dv (gyes_some rfl rfl) (q_loadAgg Try.isAgg47 Try.sizeOf47 rfl (s75.rd (j := 0) rfl) (Nat.le_of_ble_eq_true rfl) rfl) rfl (by decide) (cok1 trivial) ?_
          refine dv (gyes_some rfl rfl) (q_call0 Try.call20 rfl (ACalls.castV (v' := .bool true) (faultOK_ok 0 0 ⟨#[]⟩) rfl)) rfl (by decide) (cok2 trivial trivial) ?_
          refine dv (gyes_some rfl rfl) (q_not (b := true) rfl) rfl (by decide) (cok1 trivial) ?_
          refine dv (gyes_none rfl) (q_pf (v := .bool false) rfl rfl) rfl (by decide) (call_ok rfl) ?_
          refine dv (gyes_none rfl) (q_mv (v := .bool false) rfl) rfl (by decide) (cok1 trivial) ?_
          refine dv (gyes_some rfl rfl) (q_loadAgg Try.isAgg31 Try.sizeOf31 rfl (s75.rd (j := 5) rfl) (Nat.le_of_ble_eq_true rfl) rfl) rfl (by decide) (cok1 trivial) ?_
          refine dv (gyes_some rfl rfl) (q_call0 Try.call11 rfl (plain_ok f sh _ _ _ (blN sd nw sh sd.length) (bkN sd nb f sd.length) (chN sd nb sd.length) (s75.slj (j := 8) rfl (by first | rfl | (simp; done) | omega | exact blN_len _ | exact bkN_len _ | exact chN_len _ | (rw [chN_len]; omega) | (rw [List.length_append, List.length_replicate]; omega)) (by first | exact Nat.le_refl _ | omega)) (s75.slj (j := 7) rfl (by first | rfl | (simp; done) | omega | exact blN_len _ | exact bkN_len _ | exact chN_len _ | (rw [chN_len]; omega) | (rw [List.length_append, List.length_replicate]; omega)) (by first | exact Nat.le_refl _ | omega)) (s75.slj (j := 6) rfl (by first | rfl | (simp; done) | omega | exact blN_len _ | exact bkN_len _ | exact chN_len _ | (rw [chN_len]; omega) | (rw [List.length_append, List.length_replicate]; omega)) (by first | exact Nat.le_refl _ | omega)))) rfl (by decide) (cok2 trivial trivial) ?_
          refine dv (gyes_some rfl rfl) (q_loadAgg Try.isAgg31 Try.sizeOf31 rfl (s75.rd (j := 1) rfl) (Nat.le_of_ble_eq_true rfl) rfl) rfl (by decide) (cok1 trivial) ?_
          refine dv (gyes_some rfl rfl) (q_call0 Try.call11 rfl (plain_ok f sh _ _ _ (blN sd nw sh sd.length) (bkN sd nb f sd.length) (chN sd nb sd.length) (s75.slj (j := 4) rfl (by first | rfl | (simp; done) | omega | exact blN_len _ | exact bkN_len _ | exact chN_len _ | (rw [chN_len]; omega) | (rw [List.length_append, List.length_replicate]; omega)) (by first | exact Nat.le_refl _ | omega)) (s75.slj (j := 3) rfl (by first | rfl | (simp; done) | omega | exact blN_len _ | exact bkN_len _ | exact chN_len _ | (rw [chN_len]; omega) | (rw [List.length_append, List.length_replicate]; omega)) (by first | exact Nat.le_refl _ | omega)) (s75.slj (j := 2) rfl (by first | rfl | (simp; done) | omega | exact blN_len _ | exact bkN_len _ | exact chN_len _ | (rw [chN_len]; omega) | (rw [List.length_append, List.length_replicate]; omega)) (by first | exact Nat.le_refl _ | omega)))) rfl (by decide) (cok2 trivial trivial) ?_
          refine dv (gyes_some rfl rfl) (q_call0 Try.call10 rfl (same_ok f sh _ _ _ (blN sd nw sh sd.length) (bkN sd nb f sd.length) (chN sd nb sd.length) (s75.slj (j := 8) rfl (by first | rfl | (simp; done) | omega | exact blN_len _ | exact bkN_len _ | exact chN_len _ | (rw [chN_len]; omega) | (rw [List.length_append, List.length_replicate]; omega)) (by first | exact Nat.le_refl _ | omega)) (s75.slj (j := 7) rfl (by first | rfl | (simp; done) | omega | exact blN_len _ | exact bkN_len _ | exact chN_len _ | (rw [chN_len]; omega) | (rw [List.length_append, List.length_replicate]; omega)) (by first | exact Nat.le_refl _ | omega)) (s75.slj (j := 6) rfl (by first | rfl | (simp; done) | omega | exact blN_len _ | exact bkN_len _ | exact chN_len _ | (rw [chN_len]; omega) | (rw [List.length_append, List.length_replicate]; omega)) (by first | exact Nat.le_refl _ | omega)) _ _ _ (s75.slj (j := 4) rfl (by first | rfl | (simp; done) | omega | exact blN_len _ | exact bkN_len _ | exact chN_len _ | (rw [chN_len]; omega) | (rw [List.length_append, List.length_replicate]; omega)) (by first | exact Nat.le_refl _ | omega)) (s75.slj (j := 3) rfl (by first | rfl | (simp; done) | omega | exact blN_len _ | exact bkN_len _ | exact chN_len _ | (rw [chN_len]; omega) | (rw [List.length_append, List.length_replicate]; omega)) (by first | exact Nat.le_refl _ | omega)) (s75.slj (j := 2) rfl (by first | rfl | (simp; done) | omega | exact blN_len _ | exact bkN_len _ | exact chN_len _ | (rw [chN_len]; omega) | (rw [List.length_append, List.length_replicate]; omega)) (by first | exact Nat.le_refl _ | omega)) (by first | decide | omega | (rw [blN_len]; omega) | (rw [bkN_len]; omega) | (rw [chN_len]; omega)) (by first | decide | omega | (rw [blN_len]; omega) | (rw [bkN_len]; omega) | (rw [chN_len]; omega)) (by first | decide | omega | (rw [blN_len]; omega) | (rw [bkN_len]; omega) | (rw [chN_len]; omega)))) rfl (by decide) (call_ok rfl) ?_
          refine dv (gyes_some rfl rfl) (q_not (b := true) rfl) rfl (by decide) (cok1 trivial) ?_
          refine dv (gyes_none rfl) (q_pf (v := .bool false) rfl rfl) rfl (by decide) (call_ok rfl) ?_
          refine ⟨_, Wk.refl _ _, ?_⟩
          show awp _ _ _ _ _ _ _
          refine awp_cond_f rfl ?_
          refine awp_skip_wk ?_
          refine ⟨_, Wk.refl _ _, ?_⟩
          show awp _ _ _ _ _ _ _
          refine awp_seq ?_
          refine awp_regs hF ?_
          refine dv (gyes_none rfl) (q_as (v := .bool false) rfl) rfl (by decide) (cok1 (cconst rfl)) ?_
          refine ⟨_, Wk.refl _ _, ?_⟩
          show awp _ _ _ _ _ _ _
          refine awp_seq ?_
          refine awp_seq ?_
          refine awp_regs hF ?_
          refine dv (gyes_none rfl) (q_as (v := .int .i64 0) rfl) rfl (by decide) (cok1 (cconst rfl)) ?_
          refine ⟨_, Wk.refl _ _, ?_⟩
          show awp _ _ _ _ _ _ _
          refine awp_block ?_
          refine awp_wk (Wk.U [(2, .string o), (7, .int .i64 ((f : Nat) : Int)), (12, .slice (some ⟨b42, 0, none⟩) (f + i) (f + i)), (14, .slice (some ⟨bs, 0, none⟩) i i), (16, .pointer (some ⟨b52, 0, none⟩)), (20, .bool false), (21, .int .i64 0)] ⟨rfl, rfl, rfl, rfl, rfl, rfl, rfl, trivial⟩) ?_
          refine awp_loop (fun ((q, th) : Nat × Bool) st => ∃ (H76 : AHeap), st = ⟨250, U [(2, .string o), (7, .int .i64 ((f : Nat) : Int)), (12, .slice (some ⟨b42, 0, none⟩) (f + i) (f + i)), (14, .slice (some ⟨bs, 0, none⟩) i i), (16, .pointer (some ⟨b52, 0, none⟩)), (20, .bool th), (21, .int .i64 ((q : Nat) : Int))], [], H76⟩ ∧ St H0 (none0) (Rd H0) H76 [(b68, .cells true [.int .i64 0, .int .u64 0, .string (⟨#[]⟩ : ByteArray)] 3), (b64, .cells true [.int .u32 ((f : Nat) : Int), .int .u32 ((sh : Nat) : Int), .slice (some ⟨b58, 0, none⟩) nw nw, .slice (some ⟨b59, 0, none⟩) nb nb, .slice (some ⟨b60, 0, none⟩) sd.length sd.length] 5), (b60, .cells true ((chN sd nb sd.length).map u32v) 1), (b59, .cells true ((bkN sd nb f sd.length).map u32v) 1), (b58, .cells true ((blN sd nw sh sd.length).map u64v) 1), (b52, .cells true [.int .u32 ((f : Nat) : Int), .int .u32 ((sh : Nat) : Int), .slice (some ⟨b46, 0, none⟩) nw nw, .slice (some ⟨b47, 0, none⟩) nb nb, .slice (some ⟨b48, 0, none⟩) sd.length sd.length] 5), (b48, .cells true ((chN sd nb sd.length).map u32v) 1), (b47, .cells true ((bkN sd nb f sd.length).map u32v) 1), (b46, .cells true ((blN sd nw sh sd.length).map u64v) 1), (bs, .cells true (sd.map strv) 1), (b42, .cells true (((List.replicate f (⟨#[]⟩ : ByteArray)) ++ sd).map strv) 1), (b6, .cells true (l7.map i64v) 1), (b1, .cells true [.int .i64 a0, .int .i64 a1, .int .i64 a2, .int .i64 a3] 4)] ∧ (q ≤ i) ∧ (th = inL sd o q)) (fun ((q, th) : Nat × Bool) => i - q) (x0 := (0, false)) ?h0 ?round
          case h0 =>
            exact ⟨_, rfl, s75, Nat.zero_le _, rfl⟩
          case round =>
            rintro ⟨q, th⟩ _ ⟨H76, rfl, s77, hq, hth⟩
            dsimp only at *
            refine awp_seq ?_
            refine awp_seq ?_
            refine awp_regs hF ?_
            refine dv (gyes_none rfl) (q_mv (v := .int .i64 ((q : Nat) : Int)) rfl) rfl (by decide) (cok1 trivial) ?_
            refine dv (gyes_none rfl) (q_mv (v := .slice (some ⟨bs, 0, none⟩) i i) rfl) rfl (by decide) (cok1 trivial) ?_
            refine dv (gyes_none rfl) (q_len_slice Try.underlying23 rfl (s77.rd (j := 9) rfl)) rfl (by decide) (cok1 trivial) ?_
            refine dvb (gyes_none rfl) (q_int rfl rfl rfl) rfl (by decide) (cok2 trivial trivial) (fun c5 => ?_) (fun c5 => ?_)
            ·
              replace c5 := of_decide_eq_true c5
              refine ⟨_, Wk.refl _ _, ?_⟩
              show awp _ _ _ _ _ _ _
              refine awp_cond_t rfl ?_
              refine awp_skip_wk ?_
              refine ⟨_, Wk.refl _ _, ?_⟩
              show awp _ _ _ _ _ _ _
              refine awp_seq ?_
              refine awp_block ?_
              refine awp_seq ?_
              obtain ⟨kq, hk1, hk2, hk3⟩ := find_has hg (show q < sd.length by omega)
              have hnl9 : (List.replicate f (⟨#[]⟩ : ByteArray) ++ sd).length = f + i := by rw [List.length_append, List.length_replicate]; omega
              refine awp_regt hF hM (by kernel_rfl) (by kernel_rfl) ?_
              refine dv (gyes_none rfl) (q_loadAgg Try.isAgg31 Try.sizeOf31 rfl (s77.rd (j := 5) rfl) (Nat.le_of_ble_eq_true rfl) rfl) rfl (by decide) (cok1 trivial) ?_
              refine dv (gyes_none rfl) (q_mv (v := .slice (some ⟨bs, 0, none⟩) i i) rfl) rfl (by decide) (cok1 trivial) ?_
              refine dv (gyes_none rfl) (q_mv (v := .int .i64 ((q : Nat) : Int)) rfl) rfl (by decide) (cok1 trivial) ?_
              refine dv (gyes_none rfl) (OpQ.cast (v' := .pointer (some ⟨bs, q, none⟩)) (q_index1 (i := q) Try.underlying23 Try.sizeOf9 rfl rfl (by omega) (s77.rd (j := 9) rfl)) (by rw [Nat.zero_add])) rfl (by decide) (cok2 trivial trivial) ?_
              refine dv (gyes_none rfl) (q_load (v := strv (nth sd q)) Try.isAgg9 rfl (s77.rd (j := 9) rfl) (get_nth (w := 0) (by omega))) rfl (by decide) (cok1 trivial) ?_
              refine dv (gyes_none rfl) (q_mv (v := .slice (some ⟨b42, 0, none⟩) (f + i) (f + i)) rfl) rfl (by decide) (cok1 trivial) ?_
              refine dv (gyes_none rfl) (q_call0 Try.call21 rfl (ACalls.castV (v' := .tuple #[.int .i64 ((kq + f : Nat) : Int), .bool true]) (find_ok f sh _ _ _ (blN sd nw sh sd.length) (bkN sd nb f sd.length) (chN sd nb sd.length) (by first | omega | decide) (by rw [blN_len]; first | omega | decide) (by rw [bkN_len]; first | omega | decide) (by rw [chN_len]; first | omega | decide) (blN_w _) (fun x hx => Nat.lt_trans (bkN_w (by first | omega | decide) x hx) (by decide)) (chN_w _) (nth sd q) (hss _ (nthS_mem (by omega))) (s77.slj (j := 8) rfl (by first | rfl | (simp; done) | omega | exact blN_len _ | exact bkN_len _ | exact chN_len _ | (rw [chN_len]; omega) | (rw [List.length_append, List.length_replicate]; omega)) (by first | exact Nat.le_refl _ | omega)) (s77.slj (j := 7) rfl (by first | rfl | (simp; done) | omega | exact blN_len _ | exact bkN_len _ | exact chN_len _ | (rw [chN_len]; omega) | (rw [List.length_append, List.length_replicate]; omega)) (by first | exact Nat.le_refl _ | omega)) (s77.slj (j := 6) rfl (by first | rfl | (simp; done) | omega | exact blN_len _ | exact bkN_len _ | exact chN_len _ | (rw [chN_len]; omega) | (rw [List.length_append, List.length_replicate]; omega)) (by first | exact Nat.le_refl _ | omega)) _ ((List.replicate f (⟨#[]⟩ : ByteArray)) ++ sd) (s77.slj (j := 10) rfl (by first | rfl | (simp; done) | omega | exact blN_len _ | exact bkN_len _ | exact chN_len _ | (rw [chN_len]; omega) | (rw [List.length_append, List.length_replicate]; omega)) (by first | exact Nat.le_refl _ | omega)) (by first | omega | decide | (simp; omega))) (by rw [hk1]; try rfl))) rfl (by decide) (call_ok rfl) ?_
              refine dv (gyes_none rfl) (q_mv (v := .tuple #[.int .i64 ((kq + f : Nat) : Int), .bool true]) rfl) rfl (by decide) (cok1 trivial) ?_
              refine dv (gyes_none rfl) (q_extract (v := .int .i64 ((kq + f : Nat) : Int)) rfl rfl) rfl (by decide) (cok1 trivial) ?_
              refine dv (gyes_none rfl) (q_extract (v := .bool true) rfl rfl) rfl (by decide) (cok1 trivial) ?_
              refine dv (gyes_none rfl) (q_as (v := .int .i64 ((kq + f : Nat) : Int)) rfl) rfl (by decide) (cok1 trivial) ?_
              refine dv (gyes_none rfl) (q_as (v := .bool true) rfl) rfl (by decide) (cok1 trivial) ?_
              refine ⟨_, Wk.refl _ _, ?_⟩
              show awp _ _ _ _ _ _ _
              refine awp_seq ?_
              refine awp_seq ?_
              refine awp_regt hF hM (by kernel_rfl) (by kernel_rfl) ?_
              refine dv (gyes_none rfl) (q_mv (v := .bool true) rfl) rfl (by decide) (cok1 trivial) ?_
              refine dv (gyes_none rfl) (q_not (b := true) rfl) rfl (by decide) (cok1 trivial) ?_
              refine dv (gyes_none rfl) (q_mv (v := .bool false) rfl) rfl (by decide) (cok1 trivial) ?_
              refine dv (gyes_some rfl rfl) (q_mv (v := .slice (some ⟨b42, 0, none⟩) (f + i) (f + i)) rfl) rfl (by decide) (cok1 trivial) ?_
              refine dv (gyes_some rfl rfl) (q_mv (v := .int .i64 ((kq + f : Nat) : Int)) rfl) rfl (by decide) (cok1 trivial) ?_
              refine dv (gyes_some rfl rfl) (OpQ.cast (v' := .pointer (some ⟨b42, kq + f, none⟩)) (q_index1 (i := (kq + f)) Try.underlying23 Try.sizeOf9 rfl rfl (by omega) (s77.rd (j := 10) rfl)) (by rw [Nat.zero_add])) rfl (by decide) (cok2 trivial trivial) ?_
              refine dv (gyes_some rfl rfl) (q_load (v := strv (nth ((List.replicate f (⟨#[]⟩ : ByteArray)) ++ sd) (kq + f))) Try.isAgg9 rfl (s77.rd (j := 10) rfl) (get_nth (w := 0) (by omega))) rfl (by decide) (cok1 trivial) ?_
              refine dv (gyes_some rfl rfl) (q_mv (v := .slice (some ⟨bs, 0, none⟩) i i) rfl) rfl (by decide) (cok1 trivial) ?_
              refine dv (gyes_some rfl rfl) (q_mv (v := .int .i64 ((q : Nat) : Int)) rfl) rfl (by decide) (cok1 trivial) ?_
              refine dv (gyes_some rfl rfl) (OpQ.cast (v' := .pointer (some ⟨bs, q, none⟩)) (q_index1 (i := q) Try.underlying23 Try.sizeOf9 rfl rfl (by omega) (s77.rd (j := 9) rfl)) (by rw [Nat.zero_add])) rfl (by decide) (cok2 trivial trivial) ?_
              refine dv (gyes_some rfl rfl) (q_load (v := strv (nth sd q)) Try.isAgg9 rfl (s77.rd (j := 9) rfl) (get_nth (w := 0) (by omega))) rfl (by decide) (cok1 trivial) ?_
              refine dv (gyes_some rfl rfl) (OpQ.cast (v' := .bool false) (q_strne rfl rfl) (congrArg Value.bool (by rw [decide_eq_true hk3]; rfl))) rfl (by decide) (cok2 trivial trivial) ?_
              refine dv (gyes_none rfl) (q_pf (v := .bool false) rfl rfl) rfl (by decide) (call_ok rfl) ?_
              refine dv (gyes_none rfl) (q_mv (v := .bool false) rfl) rfl (by decide) (cok1 trivial) ?_
              refine dv (gyes_some rfl rfl) (q_mv (v := .int .i64 ((kq + f : Nat) : Int)) rfl) rfl (by decide) (cok1 trivial) ?_
              refine dv (gyes_some rfl rfl) (q_mv (v := .int .i64 ((f : Nat) : Int)) rfl) rfl (by decide) (cok1 trivial) ?_
              refine dv (gyes_some rfl rfl) (q_mv (v := .int .i64 ((q : Nat) : Int)) rfl) rfl (by decide) (cok1 trivial) ?_
              refine dv (gyes_some rfl rfl) (OpQ.cast (v' := .int .i64 ((f + q : Nat) : Int)) (q_int rfl rfl rfl) (congrArg _ ((i64_in (by omega)).trans (by first | rfl | omega | (push_cast; rfl))))) rfl (by decide) (cok2 trivial trivial) ?_
              refine dv (gyes_some rfl rfl) (OpQ.cast (v' := .bool false) (q_int rfl rfl rfl) (congrArg Value.bool (decide_eq_false (by omega)))) rfl (by decide) (cok2 trivial trivial) ?_
              refine dv (gyes_none rfl) (q_pf (v := .bool false) rfl rfl) rfl (by decide) (call_ok rfl) ?_
              refine dv (gyes_none rfl) (q_mv (v := .bool false) rfl) rfl (by decide) (cok1 trivial) ?_
              refine dv (gyes_some rfl rfl) (q_mv (v := .int .i64 ((kq + f : Nat) : Int)) rfl) rfl (by decide) (cok1 trivial) ?_
              refine dv (gyes_some rfl rfl) (q_mv (v := .int .i64 ((f : Nat) : Int)) rfl) rfl (by decide) (cok1 trivial) ?_
              refine dv (gyes_some rfl rfl) (OpQ.cast (v' := .bool false) (q_int rfl rfl rfl) (congrArg Value.bool (decide_eq_false (by omega)))) rfl (by decide) (cok2 trivial trivial) ?_
              refine dv (gyes_none rfl) (q_pf (v := .bool false) rfl rfl) rfl (by decide) (call_ok rfl) ?_
              refine dv (gyes_none rfl) (q_mv (v := .bool false) rfl) rfl (by decide) (cok1 trivial) ?_
              refine dv (gyes_some rfl rfl) (q_loadAgg Try.isAgg31 Try.sizeOf31 rfl (s77.rd (j := 5) rfl) (Nat.le_of_ble_eq_true rfl) rfl) rfl (by decide) (cok1 trivial) ?_
              refine dv (gyes_some rfl rfl) (q_mv (v := .slice (some ⟨bs, 0, none⟩) i i) rfl) rfl (by decide) (cok1 trivial) ?_
              refine dv (gyes_some rfl rfl) (q_mv (v := .int .i64 ((q : Nat) : Int)) rfl) rfl (by decide) (cok1 trivial) ?_
              refine dv (gyes_some rfl rfl) (OpQ.cast (v' := .pointer (some ⟨bs, q, none⟩)) (q_index1 (i := q) Try.underlying23 Try.sizeOf9 rfl rfl (by omega) (s77.rd (j := 9) rfl)) (by rw [Nat.zero_add])) rfl (by decide) (cok2 trivial trivial) ?_
              refine dv (gyes_some rfl rfl) (q_load (v := strv (nth sd q)) Try.isAgg9 rfl (s77.rd (j := 9) rfl) (get_nth (w := 0) (by omega))) rfl (by decide) (cok1 trivial) ?_
              refine dv (gyes_some rfl rfl) (q_call0 Try.call12 rfl (ACalls.castV (v' := .bool true) (may_ok f sh _ _ _ (blN sd nw sh sd.length) (bkN sd nb f sd.length) (chN sd nb sd.length) (s77.slj (j := 8) rfl (by first | rfl | (simp; done) | omega | exact blN_len _ | exact bkN_len _ | exact chN_len _ | (rw [chN_len]; omega) | (rw [List.length_append, List.length_replicate]; omega)) (by first | exact Nat.le_refl _ | omega)) (s77.slj (j := 7) rfl (by first | rfl | (simp; done) | omega | exact blN_len _ | exact bkN_len _ | exact chN_len _ | (rw [chN_len]; omega) | (rw [List.length_append, List.length_replicate]; omega)) (by first | exact Nat.le_refl _ | omega)) (s77.slj (j := 6) rfl (by first | rfl | (simp; done) | omega | exact blN_len _ | exact bkN_len _ | exact chN_len _ | (rw [chN_len]; omega) | (rw [List.length_append, List.length_replicate]; omega)) (by first | exact Nat.le_refl _ | omega)) (nth sd q) (hss _ (nthS_mem (by omega))) (by rw [blN_len]; first | omega | decide) (blN_w _)) (by rw [show mayV (blN sd nw sh sd.length) sh (gh (nth sd q)) = true by exact may_in (by omega) (by omega)]))) rfl (by decide) (call_ok rfl) ?_
              refine dv (gyes_some rfl rfl) (q_not (b := true) rfl) rfl (by decide) (cok1 trivial) ?_
              refine dv (gyes_none rfl) (q_pf (v := .bool false) rfl rfl) rfl (by decide) (call_ok rfl) ?_
              refine ⟨_, Wk.refl _ _, ?_⟩
              show awp _ _ _ _ _ _ _
              refine awp_cond_f rfl ?_
              refine awp_skip_wk ?_
              refine ⟨_, Wk.refl _ _, ?_⟩
              show awp _ _ _ _ _ _ _
              refine awp_regs hF ?_
              refine dvb (gyes_none rfl) (q_mv (v := .bool th) rfl) rfl (by decide) (cok1 trivial) (fun c6 => ?_) (fun c6 => ?_)
              ·
                refine dv (gyes_none rfl) (q_mv (v := .bool true) rfl) rfl (by decide) (cok1 trivial) ?_
                refine dno rfl (.inl rfl) rfl (by decide) ?_
                refine dno rfl (.inl rfl) rfl (by decide) ?_
                refine dno rfl (.inl rfl) rfl (by decide) ?_
                refine dno rfl (.inl rfl) rfl (by decide) ?_
                refine dno rfl (.inl rfl) rfl (by decide) ?_
                refine dno rfl (.inl rfl) rfl (by decide) ?_
                refine dv (gyes_none rfl) (q_pt (v := .bool true) rfl rfl) rfl (by decide) (call_ok rfl) ?_
                refine dv (gyes_none rfl) (q_as (v := .bool true) rfl) rfl (by decide) (cok1 trivial) ?_
                refine ⟨_, Wk.refl _ _, ?_⟩
                show awp _ _ _ _ _ _ _
                refine awp_regs hF ?_
                refine dv (gyes_none rfl) (q_mv (v := .int .i64 ((q : Nat) : Int)) rfl) rfl (by decide) (cok1 trivial) ?_
                refine dv (gyes_none rfl) (OpQ.cast (v' := .int .i64 ((q + 1 : Nat) : Int)) (q_int rfl rfl rfl) (congrArg _ ((i64_in (by omega)).trans (by first | rfl | omega | (push_cast; rfl))))) rfl (by decide) (cok2 trivial (cconst rfl)) ?_
                refine dv (gyes_none rfl) (q_as (v := .int .i64 ((q + 1 : Nat) : Int)) rfl) rfl (by decide) (cok1 trivial) ?_
                refine ⟨_, Wk.U [(2, .string o), (7, .int .i64 ((f : Nat) : Int)), (12, .slice (some ⟨b42, 0, none⟩) (f + i) (f + i)), (14, .slice (some ⟨bs, 0, none⟩) i i), (16, .pointer (some ⟨b52, 0, none⟩)), (20, .bool true), (21, .int .i64 (((q + 1) : Nat) : Int))] ⟨rfl, rfl, rfl, rfl, rfl, rfl, rfl, trivial⟩, ((q + 1), true), ⟨_, rfl, s77, (by dsimp only; omega), (by dsimp only; rw [inL_succ, ← hth]; first | rfl | (rw [show th = true by assumption]; rfl) | (rw [show th = false by first | assumption | exact Bool.eq_false_iff.2 (by assumption)]; first | rfl | (rw [decide_eq_true (by assumption)]; rfl) | (rw [decide_eq_false (by assumption)]; rfl)))⟩, (by omega)⟩
              ·
                refine dv (gyes_none rfl) (q_mv (v := .bool false) rfl) rfl (by decide) (cok1 trivial) ?_
                refine dv (gyes_some rfl rfl) (q_mv (v := .slice (some ⟨bs, 0, none⟩) i i) rfl) rfl (by decide) (cok1 trivial) ?_
                refine dv (gyes_some rfl rfl) (q_mv (v := .int .i64 ((q : Nat) : Int)) rfl) rfl (by decide) (cok1 trivial) ?_
                refine dv (gyes_some rfl rfl) (OpQ.cast (v' := .pointer (some ⟨bs, q, none⟩)) (q_index1 (i := q) Try.underlying23 Try.sizeOf9 rfl rfl (by omega) (s77.rd (j := 9) rfl)) (by rw [Nat.zero_add])) rfl (by decide) (cok2 trivial trivial) ?_
                refine dv (gyes_some rfl rfl) (q_load (v := strv (nth sd q)) Try.isAgg9 rfl (s77.rd (j := 9) rfl) (get_nth (w := 0) (by omega))) rfl (by decide) (cok1 trivial) ?_
                refine dv (gyes_some rfl rfl) (q_mv (v := .string o) rfl) rfl (by decide) (cok1 trivial) ?_
                refine dvb (gyes_some rfl rfl) (q_streq rfl rfl) rfl (by decide) (cok2 trivial trivial) (fun c7 => ?_) (fun c7 => ?_)
                ·
                  replace c7 := of_decide_eq_true c7
                  refine dv (gyes_none rfl) (q_pf (v := .bool true) rfl rfl) rfl (by decide) (call_ok rfl) ?_
                  refine dv (gyes_none rfl) (q_as (v := .bool true) rfl) rfl (by decide) (cok1 trivial) ?_
                  refine ⟨_, Wk.refl _ _, ?_⟩
                  show awp _ _ _ _ _ _ _
                  refine awp_regs hF ?_
                  refine dv (gyes_none rfl) (q_mv (v := .int .i64 ((q : Nat) : Int)) rfl) rfl (by decide) (cok1 trivial) ?_
                  refine dv (gyes_none rfl) (OpQ.cast (v' := .int .i64 ((q + 1 : Nat) : Int)) (q_int rfl rfl rfl) (congrArg _ ((i64_in (by omega)).trans (by first | rfl | omega | (push_cast; rfl))))) rfl (by decide) (cok2 trivial (cconst rfl)) ?_
                  refine dv (gyes_none rfl) (q_as (v := .int .i64 ((q + 1 : Nat) : Int)) rfl) rfl (by decide) (cok1 trivial) ?_
                  refine ⟨_, Wk.U [(2, .string o), (7, .int .i64 ((f : Nat) : Int)), (12, .slice (some ⟨b42, 0, none⟩) (f + i) (f + i)), (14, .slice (some ⟨bs, 0, none⟩) i i), (16, .pointer (some ⟨b52, 0, none⟩)), (20, .bool true), (21, .int .i64 (((q + 1) : Nat) : Int))] ⟨rfl, rfl, rfl, rfl, rfl, rfl, rfl, trivial⟩, ((q + 1), true), ⟨_, rfl, s77, (by dsimp only; omega), (by dsimp only; rw [inL_succ, ← hth]; first | rfl | (rw [show th = true by assumption]; rfl) | (rw [show th = false by first | assumption | exact Bool.eq_false_iff.2 (by assumption)]; first | rfl | (rw [decide_eq_true (by assumption)]; rfl) | (rw [decide_eq_false (by assumption)]; rfl)))⟩, (by omega)⟩
                ·
                  replace c7 := of_decide_eq_false c7
                  refine dv (gyes_none rfl) (q_pf (v := .bool false) rfl rfl) rfl (by decide) (call_ok rfl) ?_
                  refine dv (gyes_none rfl) (q_as (v := .bool false) rfl) rfl (by decide) (cok1 trivial) ?_
                  refine ⟨_, Wk.refl _ _, ?_⟩
                  show awp _ _ _ _ _ _ _
                  refine awp_regs hF ?_
                  refine dv (gyes_none rfl) (q_mv (v := .int .i64 ((q : Nat) : Int)) rfl) rfl (by decide) (cok1 trivial) ?_
                  refine dv (gyes_none rfl) (OpQ.cast (v' := .int .i64 ((q + 1 : Nat) : Int)) (q_int rfl rfl rfl) (congrArg _ ((i64_in (by omega)).trans (by first | rfl | omega | (push_cast; rfl))))) rfl (by decide) (cok2 trivial (cconst rfl)) ?_
                  refine dv (gyes_none rfl) (q_as (v := .int .i64 ((q + 1 : Nat) : Int)) rfl) rfl (by decide) (cok1 trivial) ?_
                  refine ⟨_, Wk.U [(2, .string o), (7, .int .i64 ((f : Nat) : Int)), (12, .slice (some ⟨b42, 0, none⟩) (f + i) (f + i)), (14, .slice (some ⟨bs, 0, none⟩) i i), (16, .pointer (some ⟨b52, 0, none⟩)), (20, .bool false), (21, .int .i64 (((q + 1) : Nat) : Int))] ⟨rfl, rfl, rfl, rfl, rfl, rfl, rfl, trivial⟩, ((q + 1), false), ⟨_, rfl, s77, (by dsimp only; omega), (by dsimp only; rw [inL_succ, ← hth]; first | rfl | (rw [show th = true by assumption]; rfl) | (rw [show th = false by first | assumption | exact Bool.eq_false_iff.2 (by assumption)]; first | rfl | (rw [decide_eq_true (by assumption)]; rfl) | (rw [decide_eq_false (by assumption)]; rfl)))⟩, (by omega)⟩
            ·
              replace c5 := of_decide_eq_false c5
              refine ⟨_, Wk.refl _ _, ?_⟩
              show awp _ _ _ _ _ _ _
              refine awp_cond_f rfl ?_
              refine awp_exit_wk ?_
              refine ⟨_, Wk.refl _ _, ?_⟩
              show awp _ _ _ _ _ _ _
              refine awp_seq ?_
              refine awp_regs hF ?_
              refine dv (gyes_none rfl) (q_loadAgg Try.isAgg31 Try.sizeOf31 rfl (s77.rd (j := 5) rfl) (Nat.le_of_ble_eq_true rfl) rfl) rfl (by decide) (cok1 trivial) ?_
              refine dv (gyes_none rfl) (q_mv (v := .string o) rfl) rfl (by decide) (cok1 trivial) ?_
              refine dv (gyes_none rfl) (q_mv (v := .slice (some ⟨b42, 0, none⟩) (f + i) (f + i)) rfl) rfl (by decide) (cok1 trivial) ?_
              refine dv (gyes_none rfl) (q_call0 Try.call21 rfl (find_ok f sh _ _ _ (blN sd nw sh sd.length) (bkN sd nb f sd.length) (chN sd nb sd.length) (by first | omega | decide) (by rw [blN_len]; first | omega | decide) (by rw [bkN_len]; first | omega | decide) (by rw [chN_len]; first | omega | decide) (blN_w _) (fun x hx => Nat.lt_trans (bkN_w (by first | omega | decide) x hx) (by decide)) (chN_w _) o hos (s77.slj (j := 8) rfl (by first | rfl | (simp; done) | omega | exact blN_len _ | exact bkN_len _ | exact chN_len _ | (rw [chN_len]; omega) | (rw [List.length_append, List.length_replicate]; omega)) (by first | exact Nat.le_refl _ | omega)) (s77.slj (j := 7) rfl (by first | rfl | (simp; done) | omega | exact blN_len _ | exact bkN_len _ | exact chN_len _ | (rw [chN_len]; omega) | (rw [List.length_append, List.length_replicate]; omega)) (by first | exact Nat.le_refl _ | omega)) (s77.slj (j := 6) rfl (by first | rfl | (simp; done) | omega | exact blN_len _ | exact bkN_len _ | exact chN_len _ | (rw [chN_len]; omega) | (rw [List.length_append, List.length_replicate]; omega)) (by first | exact Nat.le_refl _ | omega)) _ ((List.replicate f (⟨#[]⟩ : ByteArray)) ++ sd) (s77.slj (j := 10) rfl (by first | rfl | (simp; done) | omega | exact blN_len _ | exact bkN_len _ | exact chN_len _ | (rw [chN_len]; omega) | (rw [List.length_append, List.length_replicate]; omega)) (by first | exact Nat.le_refl _ | omega)) (by first | omega | decide | (simp; omega)))) rfl (by decide) (call_ok rfl) ?_
              refine dv (gyes_none rfl) (q_mv (v := .tuple #[.int .i64 (((gFV (blN sd nw sh sd.length) (bkN sd nb f sd.length) (chN sd nb sd.length) sh f ((List.replicate f (⟨#[]⟩ : ByteArray)) ++ sd) o).1 : Nat) : Int), .bool ((gFV (blN sd nw sh sd.length) (bkN sd nb f sd.length) (chN sd nb sd.length) sh f ((List.replicate f (⟨#[]⟩ : ByteArray)) ++ sd) o).2)]) rfl) rfl (by decide) (cok1 trivial) ?_
              refine dv (gyes_none rfl) (q_extract (v := .int .i64 (((gFV (blN sd nw sh sd.length) (bkN sd nb f sd.length) (chN sd nb sd.length) sh f ((List.replicate f (⟨#[]⟩ : ByteArray)) ++ sd) o).1 : Nat) : Int)) rfl rfl) rfl (by decide) (cok1 trivial) ?_
              refine dv (gyes_none rfl) (q_extract (v := .bool ((gFV (blN sd nw sh sd.length) (bkN sd nb f sd.length) (chN sd nb sd.length) sh f ((List.replicate f (⟨#[]⟩ : ByteArray)) ++ sd) o).2)) rfl rfl) rfl (by decide) (cok1 trivial) ?_
              refine dv (gyes_none rfl) (q_as (v := .int .i64 (((gFV (blN sd nw sh sd.length) (bkN sd nb f sd.length) (chN sd nb sd.length) sh f ((List.replicate f (⟨#[]⟩ : ByteArray)) ++ sd) o).1 : Nat) : Int)) rfl) rfl (by decide) (cok1 trivial) ?_
              refine dv (gyes_none rfl) (q_as (v := .bool ((gFV (blN sd nw sh sd.length) (bkN sd nb f sd.length) (chN sd nb sd.length) sh f ((List.replicate f (⟨#[]⟩ : ByteArray)) ++ sd) o).2)) rfl) rfl (by decide) (cok1 trivial) ?_
              refine ⟨_, Wk.refl _ _, ?_⟩
              show awp _ _ _ _ _ _ _
              refine awp_seq ?_
              refine awp_regs hF ?_
              refine dv (gyes_none rfl) (q_mv (v := .bool ((gFV (blN sd nw sh sd.length) (bkN sd nb f sd.length) (chN sd nb sd.length) sh f ((List.replicate f (⟨#[]⟩ : ByteArray)) ++ sd) o).2)) rfl) rfl (by decide) (cok1 trivial) ?_
              refine dv (gyes_none rfl) (q_mv (v := .bool th) rfl) rfl (by decide) (cok1 trivial) ?_
              refine dv (gyes_none rfl) (OpQ.cast (v' := .bool true) (q_booleq Try.underlying4 rfl rfl) (congrArg Value.bool (beq_iff_eq.2 (by rw [hth, show q = sd.length by omega]; exact find_in hg o)))) rfl (by decide) (cok2 trivial trivial) ?_
              refine dv (gyes_none rfl) (q_as (v := .bool true) rfl) rfl (by decide) (cok1 trivial) ?_
              refine ⟨_, Wk.refl _ _, ?_⟩
              show awp _ _ _ _ _ _ _
              refine awp_ret_wk ?_
              refine ⟨_, Wk.refl _ _, ?_⟩
              repeat (with_reducible first | refine then_ret ?_ | refine blk_ret ?_ | refine then_exit ?_ | refine blk_exit ?_ | refine blk_exit' (by decide) ?_ | refine blk_normal ?_ | refine then_normal ?_ | refine retq_ret ?_ | refine retq_normal ?_ | refine ng_normal ?_ | refine ng_ret ?_ | refine ng_exit ?_)
              exact ret_none (v := .bool true) rfl s77.kp (.tmp rfl .nil) rfl rfl ⟨rfl, rfl⟩

end Go.Proofs.YtponfeigjmjbmaaA

