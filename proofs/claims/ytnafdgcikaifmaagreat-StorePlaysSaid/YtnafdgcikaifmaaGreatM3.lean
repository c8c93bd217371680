/-
  Walks over abstract states: texts of one claim, merged.
-/
import Derived.Test.YtnafdgcikaifmaaGreatM2
import Derived.Test.YtnafdgcikaifmaaGreatProg
import Derived.KernelRfl
import Derived.ChangeSlices
import Derived.SliceStrings
import Derived.WideShapes
import Derived.SizedLaws
import Derived.OpenShut
import Derived.Deep.Slices
/-
  Walks of functions of the given program, and what they compute.
-/
namespace Go.Proofs.YtnafdgcikaifmaaGreatA
set_option linter.unusedVariables false
open Go Go.RowKit Go.Shelf Go.Proofs
theorem St.turn1 {H0 : AHeap} {X : Nat → Prop} {Z : Rs} {H H' : AHeap} {F : List (Nat × AObj)} (h : St H0 X Z H F) {j b : Nat} {o o' : AObj} (hj : F[j]? = some (b, o)) (k : Kp (· ∈ [b]) H H') (h' : H'[b]? = some o') : St H0 X Z H' (F.set j (b, o')) := by
  have m9 : b ∈ F.map (·.1) := List.mem_map.2 ⟨_, List.mem_of_getElem? hj, rfl⟩
  refine h.turn k _ (by rw [keys_set hj]; exact h.nd) (fun p hp => ?_) (fun c hc => ?_)
  · rcases mem_set_cases hp with rfl | ⟨i, hi, hp⟩
    · exact .inr ⟨h', .inr m9⟩
    · exact .inl ⟨List.mem_of_getElem? hp, fun hm => h.ne hp hj hi (by simpa using hm)⟩
  · have hc : c = b := by simpa using hc
    rw [hc]; exact m9
theorem FZ.one {Z : Rs} {c : Nat} {x : Fl} (h : Z c (fcell x) 7) : FZ Z [c] [x] := ⟨rfl, fun i hi => by
  obtain rfl : i = 0 := by simp at hi; omega
  exact h⟩
theorem St.turn2N {H0 : AHeap} {X : Nat → Prop} {Z : Rs} {H H' : AHeap} {F : List (Nat × AObj)} (h : St H0 X Z H F) {j9 jl b9 bl bn : Nat} {o9 ol o9' on : AObj} (h9 : F[j9]? = some (b9, o9)) (hl : F[jl]? = some (bl, ol)) (hij : j9 ≠ jl) (k : Kp (· ∈ [b9, bl]) H H') (hb : H.length ≤ bn ∨ bn ∈ [b9, bl]) (hne : bn ≠ b9) (h9' : H'[b9]? = some o9') (hn : H'[bn]? = some on) {c : Nat} {q : AObj} (hc : H.length ≤ c) (hcn : c ≠ bn) (hq : H'[c]? = some q) : St H0 X Z H' ((c, q) :: (F.set j9 (b9, o9')).set jl (bn, on)) := by
  have h2 := h.turn2 h9 hl hij k hb hne h9' hn
  have hlt : ∀ q ∈ F, q.1 < H.length := fun q hq => lt_of_some (h.get q hq)
  have hcF : ∀ p ∈ (F.set j9 (b9, o9')).set jl (bn, on), p.1 ≠ c := fun p hp e => by
    rcases mem_set_cases hp with rfl | ⟨i, _, hp⟩
    · exact hcn e.symm
    · rcases mem_set_cases (List.mem_of_getElem? hp) with rfl | ⟨i, _, hp⟩
      · have := hlt _ (List.mem_of_getElem? h9); dsimp only at e this; omega
      · have := hlt _ (List.mem_of_getElem? hp); omega
  refine ⟨h2.kp, ?_, ?_, ?_, ?_⟩
  · rw [List.map_cons]
    refine List.nodup_cons.2 ⟨fun hm => ?_, h2.nd⟩
    obtain ⟨p, hp, e⟩ := List.mem_map.1 hm
    exact hcF p hp e
  · intro p hp
    rcases List.mem_cons.1 hp with rfl | hp
    · exact hq
    · exact h2.get p hp
  · intro p hp
    rcases List.mem_cons.1 hp with rfl | hp
    · exact .inl (Nat.le_trans h.kp.len hc)
    · exact h2.own p hp
  · intro b vs sz hz
    refine ⟨(h2.z b vs sz hz).1, fun p hp => ?_⟩
    rcases List.mem_cons.1 hp with rfl | hp
    · have := (h.z b vs sz hz).1.lt
      dsimp only; omega
    · exact (h2.z b vs sz hz).2 p hp
set_option maxRecDepth 100000 in
set_option maxHeartbeats 4000000 in
theorem failOf_ok {H0 : AHeap} (c : Nat) : ACalls Tryz.prog 38 [.int .i64 ((c : Nat) : Int)] H0 (Rets (.agg #[.int .i64 ((c : Nat) : Int), .int .u64 0, .string ⟨#[]⟩]) H0) := by
  have hF : Wd Fence.wide := .inl rfl
  have hM : Tryz.prog.follows .mixedOrders = true := by kernel_rfl
  have s0 := St.begin H0
  refine acalls_st Tryz.func38 rfl Tryz.ntmps38 rfl ?_
  refine awp_seq ?_
  refine awp_regs hF ?_
  refine x_new (fun b => .pointer (some ⟨b, 0, none⟩)) s0 (gyes_none rfl) (q_alloc (vs := [.int .i64 0, .int .u64 0, .string ⟨#[]⟩]) 3 Tryz.zeroValue47 (by first | exact flat_scalar rfl | exact flat_agg rfl) rfl) rfl (by decide) (by simp [Op.operands, Call.operands]) (fun b1 H2 hb4 s3 => ?_)
  refine ⟨_, Wk.refl _ _, ?_⟩
  show awp _ _ _ _ _ _ _
  refine awp_seq ?_
  refine awp_regs hF ?_
  refine dv (gyes_none rfl) (q_mv (v := .int .i64 ((c : Nat) : Int)) rfl) rfl (by decide) (cok1 trivial) ?_
  refine dv (gyes_none rfl) (q_buildL (ds := [.int .i64 ((c : Nat) : Int), .int .u64 0, .string ⟨#[]⟩]) [(0, 1), (1, 1), (2, 1)] [.int .i64 ((c : Nat) : Int)] Tryz.underlying47 Tryz.zeroValue47 (by first | exact flat_agg rfl | exact flat_scalar rfl) (by kernel_rfl) ⟨rfl, trivial⟩ (lvsC (by exact trivial) lvs0) rfl) rfl (by decide) (cok1 trivial) ?_
  refine x_store [] hF s3 (by kernel_rfl) (gyes_none rfl) (j := 0) (v := .agg #[.int .i64 ((c : Nat) : Int), .int .u64 0, .string ⟨#[]⟩]) rfl Tryz.sizeOf47 rfl rfl rfl rfl rfl trivial (lcsA ⟨(lc_scalar rfl), (lc_scalar rfl), (lc_scalar rfl), trivial⟩) (Nat.le_of_ble_eq_true rfl) trivial trivial rfl rfl (F' := [(b1, .cells true [.int .i64 ((c : Nat) : Int), .int .u64 0, .string ⟨#[]⟩] 3)]) rfl (fun H5 s6 => ⟨?_, ?_⟩)
  · exact trivial
  refine ⟨_, Wk.refl _ _, ?_⟩
  show awp _ _ _ _ _ _ _
  refine awp_ret_wk ?_
  refine ⟨_, Wk.refl _ _, ?_⟩
  repeat (with_reducible first | refine then_ret ?_ | refine blk_ret ?_ | refine then_exit ?_ | refine blk_exit ?_ | refine blk_exit' (by decide) ?_ | refine blk_normal ?_ | refine then_normal ?_ | refine retq_ret ?_ | refine retq_normal ?_ | refine ng_normal ?_ | refine ng_ret ?_ | refine ng_exit ?_)
  exact ret_none (v := .agg #[.int .i64 ((c : Nat) : Int), .int .u64 0, .string ⟨#[]⟩]) rfl s6.kp (.agg rfl Tryz.isAgg47 Tryz.sizeOf47 (s6.rd (j := 0) rfl) (Nat.le_of_ble_eq_true rfl) rfl .nil) rfl rfl ⟨rfl, rfl⟩
set_option maxRecDepth 100000 in
set_option maxHeartbeats 4000000 in
theorem faultOK_ok {H0 : AHeap} (c : Nat) (a : Nat) (n : ByteArray) : ACalls Tryz.prog 19 [.agg #[.int .i64 ((c : Nat) : Int), .int .u64 ((a : Nat) : Int), .string n]] H0 (Rets (.bool (((c : Nat) : Int) == 0)) H0) := by
  have hF : Wd Fence.wide := .inl rfl
  have hM : Tryz.prog.follows .mixedOrders = true := by kernel_rfl
  have s0 := St.begin H0
  refine acalls_st Tryz.func19 rfl Tryz.ntmps19 rfl ?_
  refine awp_seq ?_
  refine awp_regs hF ?_
  refine x_new (fun b => .pointer (some ⟨b, 0, none⟩)) s0 (gyes_none rfl) (q_box (v := .agg #[.int .i64 ((c : Nat) : Int), .int .u64 ((a : Nat) : Int), .string n]) (vs := [.int .i64 ((c : Nat) : Int), .int .u64 ((a : Nat) : Int), .string n]) 3 rfl (by exact trivial) rfl) rfl (by decide) (cok1 trivial) (fun b1 H2 hb4 s3 => ?_)
  refine dv (gyes_none rfl) (q_as (v := .bool false) rfl) rfl (by decide) (cok1 (cconst rfl)) ?_
  refine ⟨_, Wk.refl _ _, ?_⟩
  show awp _ _ _ _ _ _ _
  refine awp_seq ?_
  refine awp_regs hF ?_
  refine dv (gyes_none rfl) (q_field Tryz.underlying47 rfl Tryz.sizeOf28 rfl (s3.rd (j := 0) rfl)) rfl (by decide) (cok1 trivial) ?_
  refine dv (gyes_none rfl) (q_load (v := .int .i64 ((c : Nat) : Int)) Tryz.isAgg28 rfl (s3.rd (j := 0) rfl) rfl) rfl (by decide) (cok1 trivial) ?_
  refine dv (gyes_none rfl) (q_int rfl rfl rfl) rfl (by decide) (cok2 trivial (cconst rfl)) ?_
  refine dv (gyes_none rfl) (q_as (v := .bool ((((c : Nat) : Int) : Int) == 0)) rfl) rfl (by decide) (cok1 trivial) ?_
  refine ⟨_, Wk.refl _ _, ?_⟩
  show awp _ _ _ _ _ _ _
  refine awp_ret_wk ?_
  refine ⟨_, Wk.refl _ _, ?_⟩
  repeat (with_reducible first | refine then_ret ?_ | refine blk_ret ?_ | refine then_exit ?_ | refine blk_exit ?_ | refine blk_exit' (by decide) ?_ | refine blk_normal ?_ | refine then_normal ?_ | refine retq_ret ?_ | refine retq_normal ?_ | refine ng_normal ?_ | refine ng_ret ?_ | refine ng_exit ?_)
  exact ret_none (v := .bool ((((c : Nat) : Int) : Int) == 0)) rfl s3.kp (.tmp rfl .nil) rfl rfl ⟨rfl, rfl⟩
set_option maxRecDepth 100000 in
set_option maxHeartbeats 4000000 in
theorem header_s {H0 : AHeap} (s : ByteArray) (h : s.size < 64) : ACalls Tryz.prog 32 [.string s] H0 (Rets (.tuple #[.int .i64 0, .agg #[.int .i64 2, .int .u64 0, .string ⟨#[]⟩]]) H0) := by
  have hF : Wd Fence.wide := .inl rfl
  have hM : Tryz.prog.follows .mixedOrders = true := by kernel_rfl
  have s0 := St.begin H0
  refine acalls_st Tryz.func32 rfl Tryz.ntmps32 rfl ?_
  refine awp_seq ?_
  refine awp_regs hF ?_
  refine dv (gyes_none rfl) (q_as (v := .int .i64 0) rfl) rfl (by decide) (cok1 (cconst rfl)) ?_
  refine x_new (fun b => .pointer (some ⟨b, 0, none⟩)) s0 (gyes_none rfl) (q_alloc (vs := [.int .i64 0, .int .u64 0, .string ⟨#[]⟩]) 3 Tryz.zeroValue47 (by first | exact flat_scalar rfl | exact flat_agg rfl) rfl) rfl (by decide) (by simp [Op.operands, Call.operands]) (fun b1 H2 hb4 s3 => ?_)
  refine ⟨_, Wk.refl _ _, ?_⟩
  show awp _ _ _ _ _ _ _
  refine awp_seq ?_
  refine awp_block ?_
  refine awp_seq ?_
  refine awp_regs hF ?_
  refine dv (gyes_none rfl) (q_mv (v := .string s) rfl) rfl (by decide) (cok1 trivial) ?_
  refine dv (gyes_none rfl) (q_len_str Tryz.underlying9 rfl) rfl (by decide) (cok1 trivial) ?_
  refine dv (gyes_none rfl) (OpQ.cast (v' := .bool false) (q_int rfl rfl rfl) (congrArg Value.bool (decide_eq_false (by omega)))) rfl (by decide) (cok2 trivial (cconst rfl)) ?_
  refine dv (gyes_none rfl) (q_as (v := .bool false) rfl) rfl (by decide) (cok1 trivial) ?_
  refine ⟨_, Wk.refl _ _, ?_⟩
  show awp _ _ _ _ _ _ _
  refine awp_cond_f rfl ?_
  refine awp_seq ?_
  refine awp_regs hF ?_
  refine dv (gyes_none rfl) (q_mv (v := .string s) rfl) rfl (by decide) (cok1 trivial) ?_
  refine dv (gyes_none rfl) (q_len_str Tryz.underlying9 rfl) rfl (by decide) (cok1 trivial) ?_
  refine dv (gyes_none rfl) (OpQ.cast (v' := .bool true) (q_int rfl rfl rfl) (congrArg Value.bool (decide_eq_true (by omega)))) rfl (by decide) (cok2 trivial (cconst rfl)) ?_
  refine dv (gyes_none rfl) (q_as (v := .bool true) rfl) rfl (by decide) (cok1 trivial) ?_
  refine ⟨_, Wk.refl _ _, ?_⟩
  show awp _ _ _ _ _ _ _
  refine awp_cond_t rfl ?_
  refine awp_seq ?_
  refine awp_regs hF ?_
  refine dv (gyes_none rfl) (q_call0 Tryz.call38 rfl (failOf_ok 2)) rfl (by decide) (cok2 trivial (cconst rfl)) ?_
  refine dv (gyes_none rfl) (q_as (v := .int .i64 0) rfl) rfl (by decide) (cok1 (cconst rfl)) ?_
  refine x_store [] hF s3 (by kernel_rfl) (gyes_none rfl) (j := 0) (v := .agg #[.int .i64 2, .int .u64 0, .string (⟨#[]⟩ : ByteArray)]) rfl Tryz.sizeOf47 rfl rfl rfl rfl rfl trivial (lcsA ⟨(lc_scalar rfl), (lc_scalar rfl), (lc_scalar rfl), trivial⟩) (Nat.le_of_ble_eq_true rfl) trivial trivial rfl rfl (F' := [(b1, .cells true [.int .i64 2, .int .u64 0, .string (⟨#[]⟩ : ByteArray)] 3)]) rfl (fun H5 s6 => ⟨?_, ?_⟩)
  · exact trivial
  refine ⟨_, Wk.refl _ _, ?_⟩
  show awp _ _ _ _ _ _ _
  refine awp_ret_wk ?_
  refine ⟨_, Wk.refl _ _, ?_⟩
  repeat (with_reducible first | refine then_ret ?_ | refine blk_ret ?_ | refine then_exit ?_ | refine blk_exit ?_ | refine blk_exit' (by decide) ?_ | refine blk_normal ?_ | refine then_normal ?_ | refine retq_ret ?_ | refine retq_normal ?_ | refine ng_normal ?_ | refine ng_ret ?_ | refine ng_exit ?_)
  exact ret_none (v := .tuple #[.int .i64 0, .agg #[.int .i64 2, .int .u64 0, .string (⟨#[]⟩ : ByteArray)]]) rfl s6.kp (.tmp rfl (.agg rfl Tryz.isAgg47 Tryz.sizeOf47 (s6.rd (j := 0) rfl) (Nat.le_of_ble_eq_true rfl) rfl .nil)) rfl rfl ⟨rfl, rfl⟩
set_option maxRecDepth 100000 in
set_option maxHeartbeats 4000000 in
theorem hread_s {H0 : AHeap} (s : ByteArray) (h : s.size < 64) : ACalls Tryz.prog 22 [.string s] H0 (Rets (.tuple #[.agg #[.string ⟨#[]⟩, .int .u64 0, .slice none 0 0], .agg #[.int .i64 2, .int .u64 0, .string ⟨#[]⟩]]) H0) := by
  have hF : Wd Fence.wide := .inl rfl
  have hM : Tryz.prog.follows .mixedOrders = true := by kernel_rfl
  have s0 := St.begin H0
  refine acalls_st Tryz.func22 rfl Tryz.ntmps22 rfl ?_
  refine awp_seq ?_
  refine awp_regs hF ?_
  refine x_new (fun b => .pointer (some ⟨b, 0, none⟩)) s0 (gyes_none rfl) (q_alloc (vs := [.string ⟨#[]⟩, .int .u64 0, .slice none 0 0]) 3 Tryz.zeroValue62 (by first | exact flat_scalar rfl | exact flat_agg rfl) rfl) rfl (by decide) (by simp [Op.operands, Call.operands]) (fun b1 H2 hb4 s3 => ?_)
  refine x_new (fun b => .pointer (some ⟨b, 0, none⟩)) s3 (gyes_none rfl) (q_alloc (vs := [.int .i64 0, .int .u64 0, .string ⟨#[]⟩]) 3 Tryz.zeroValue47 (by first | exact flat_scalar rfl | exact flat_agg rfl) rfl) rfl (by decide) (by simp [Op.operands, Call.operands]) (fun b5 H6 hb8 s7 => ?_)
  refine ⟨_, Wk.refl _ _, ?_⟩
  show awp _ _ _ _ _ _ _
  refine awp_seq ?_
  refine awp_regs hF ?_
  refine dv (gyes_none rfl) (q_mv (v := .string s) rfl) rfl (by decide) (cok1 trivial) ?_
  refine dv (gyes_none rfl) (q_call0 Tryz.call32 rfl (header_s s h)) rfl (by decide) (cok2 trivial trivial) ?_
  refine dv (gyes_none rfl) (q_mv (v := .tuple #[.int .i64 0, .agg #[.int .i64 2, .int .u64 0, .string (⟨#[]⟩ : ByteArray)]]) rfl) rfl (by decide) (cok1 trivial) ?_
  refine dv (gyes_none rfl) (q_extract (v := .int .i64 0) rfl rfl) rfl (by decide) (cok1 trivial) ?_
  refine dv (gyes_none rfl) (q_extract (v := .agg #[.int .i64 2, .int .u64 0, .string (⟨#[]⟩ : ByteArray)]) rfl rfl) rfl (by decide) (cok1 trivial) ?_
  refine x_new (fun b => .pointer (some ⟨b, 0, none⟩)) s7 (gyes_none rfl) (q_alloc (vs := [.int .i64 0, .int .u64 0, .string ⟨#[]⟩]) 3 Tryz.zeroValue47 (by first | exact flat_scalar rfl | exact flat_agg rfl) rfl) rfl (by decide) (by simp [Op.operands, Call.operands]) (fun b9 H10 hb12 s11 => ?_)
  refine dv (gyes_none rfl) (q_as (v := .int .i64 0) rfl) rfl (by decide) (cok1 trivial) ?_
  refine x_store [] hF s11 (by kernel_rfl) (gyes_none rfl) (j := 0) (v := .agg #[.int .i64 2, .int .u64 0, .string (⟨#[]⟩ : ByteArray)]) rfl Tryz.sizeOf47 rfl rfl rfl rfl rfl trivial (lcsA ⟨(lc_scalar rfl), (lc_scalar rfl), (lc_scalar rfl), trivial⟩) (Nat.le_of_ble_eq_true rfl) trivial trivial rfl rfl (F' := [(b9, .cells true [.int .i64 2, .int .u64 0, .string (⟨#[]⟩ : ByteArray)] 3), (b5, .cells true [.int .i64 0, .int .u64 0, .string ⟨#[]⟩] 3), (b1, .cells true [.string ⟨#[]⟩, .int .u64 0, .slice none 0 0] 3)]) rfl (fun H13 s14 => ⟨?_, ?_⟩)
  · exact trivial
  refine ⟨_, Wk.refl _ _, ?_⟩
  show awp _ _ _ _ _ _ _
  refine awp_seq ?_
  refine awp_seq ?_
  refine awp_regs hF ?_
  refine dv (gyes_none rfl) (q_loadAgg Tryz.isAgg47 Tryz.sizeOf47 rfl (s14.rd (j := 0) rfl) (Nat.le_of_ble_eq_true rfl) rfl) rfl (by decide) (cok1 trivial) ?_
  refine dv (gyes_none rfl) (q_call0 Tryz.call19 rfl (ACalls.castV (v' := .bool false) (faultOK_ok 2 0 ⟨#[]⟩) rfl)) rfl (by decide) (cok2 trivial trivial) ?_
  refine dv (gyes_none rfl) (q_not (b := false) rfl) rfl (by decide) (cok1 trivial) ?_
  refine ⟨_, Wk.refl _ _, ?_⟩
  show awp _ _ _ _ _ _ _
  refine awp_cond_t rfl ?_
  refine awp_seq ?_
  refine awp_regt hF hM (by kernel_rfl) (by kernel_rfl) ?_
  refine dv (gyes_none rfl) (q_buildL (ds := [.string ⟨#[]⟩, .int .u64 0, .slice none 0 0]) [(0, 1), (1, 1), (2, 1)] [] Tryz.underlying62 Tryz.zeroValue62 (by first | exact flat_agg rfl | exact flat_scalar rfl) (by kernel_rfl) trivial lvs0 rfl) rfl (by decide) (by simp [Op.operands, Call.operands]) ?_
  refine dv (gyes_none rfl) (q_loadAgg Tryz.isAgg47 Tryz.sizeOf47 rfl (s14.rd (j := 0) rfl) (Nat.le_of_ble_eq_true rfl) rfl) rfl (by decide) (cok1 trivial) ?_
  refine x_store [1] hF s14 (by kernel_rfl) (gyes_none rfl) (j := 2) (v := .agg #[.string ⟨#[]⟩, .int .u64 0, .slice none 0 0]) rfl Tryz.sizeOf62 rfl rfl rfl rfl rfl trivial (lcsA ⟨(lc_scalar rfl), (lc_scalar rfl), (lc_scalar rfl), trivial⟩) (Nat.le_of_ble_eq_true rfl) trivial trivial rfl rfl (F' := [(b9, .cells true [.int .i64 2, .int .u64 0, .string (⟨#[]⟩ : ByteArray)] 3), (b5, .cells true [.int .i64 0, .int .u64 0, .string ⟨#[]⟩] 3), (b1, .cells true [.string ⟨#[]⟩, .int .u64 0, .slice none 0 0] 3)]) rfl (fun H15 s16 => ⟨?_, ?_⟩)
  · exact ⟨pend_yes rfl (gyes_none rfl) (q_loadAgg Tryz.isAgg47 Tryz.sizeOf47 rfl (s16.rd (j := 0) rfl) (Nat.le_of_ble_eq_true rfl) rfl) rfl (by decide) (cok1 trivial) rfl, trivial⟩
  refine x_store [] hF s16 (by kernel_rfl) (gyes_none rfl) (j := 1) (v := .agg #[.int .i64 2, .int .u64 0, .string (⟨#[]⟩ : ByteArray)]) rfl Tryz.sizeOf47 rfl rfl rfl rfl rfl trivial (lcsA ⟨(lc_scalar rfl), (lc_scalar rfl), (lc_scalar rfl), trivial⟩) (Nat.le_of_ble_eq_true rfl) trivial trivial rfl rfl (F' := [(b9, .cells true [.int .i64 2, .int .u64 0, .string (⟨#[]⟩ : ByteArray)] 3), (b5, .cells true [.int .i64 2, .int .u64 0, .string (⟨#[]⟩ : ByteArray)] 3), (b1, .cells true [.string ⟨#[]⟩, .int .u64 0, .slice none 0 0] 3)]) rfl (fun H17 s18 => ⟨?_, ?_⟩)
  · exact trivial
  refine ⟨_, Wk.refl _ _, ?_⟩
  show awp _ _ _ _ _ _ _
  refine awp_ret_wk ?_
  refine ⟨_, Wk.refl _ _, ?_⟩
  repeat (with_reducible first | refine then_ret ?_ | refine blk_ret ?_ | refine then_exit ?_ | refine blk_exit ?_ | refine blk_exit' (by decide) ?_ | refine blk_normal ?_ | refine then_normal ?_ | refine retq_ret ?_ | refine retq_normal ?_ | refine ng_normal ?_ | refine ng_ret ?_ | refine ng_exit ?_)
  exact ret_none (v := .tuple #[.agg #[.string ⟨#[]⟩, .int .u64 0, .slice none 0 0], .agg #[.int .i64 2, .int .u64 0, .string (⟨#[]⟩ : ByteArray)]]) rfl s18.kp (.agg rfl Tryz.isAgg62 Tryz.sizeOf62 (s18.rd (j := 2) rfl) (Nat.le_of_ble_eq_true rfl) rfl (.agg rfl Tryz.isAgg47 Tryz.sizeOf47 (s18.rd (j := 1) rfl) (Nat.le_of_ble_eq_true rfl) rfl .nil)) rfl rfl ⟨rfl, rfl⟩
set_option maxRecDepth 100000 in
set_option maxHeartbeats 4000000 in
theorem oread_s {H0 : AHeap} (s : ByteArray) (h : s.size < 64) : ACalls Tryz.prog 18 [.string s] H0 (Rets (.tuple #[.pointer none, .agg #[.int .i64 2, .int .u64 0, .string ⟨#[]⟩]]) H0) := by
  have hF : Wd Fence.wide := .inl rfl
  have hM : Tryz.prog.follows .mixedOrders = true := by kernel_rfl
  have s0 := St.begin H0
  refine acalls_st Tryz.func18 rfl Tryz.ntmps18 rfl ?_
  refine awp_seq ?_
  refine awp_regs hF ?_
  refine dv (gyes_none rfl) (q_as (v := .pointer none) rfl) rfl (by decide) (cok1 (cconst rfl)) ?_
  refine x_new (fun b => .pointer (some ⟨b, 0, none⟩)) s0 (gyes_none rfl) (q_alloc (vs := [.int .i64 0, .int .u64 0, .string ⟨#[]⟩]) 3 Tryz.zeroValue47 (by first | exact flat_scalar rfl | exact flat_agg rfl) rfl) rfl (by decide) (by simp [Op.operands, Call.operands]) (fun b1 H2 hb4 s3 => ?_)
  refine ⟨_, Wk.refl _ _, ?_⟩
  show awp _ _ _ _ _ _ _
  refine awp_seq ?_
  refine awp_regs hF ?_
  refine dv (gyes_none rfl) (q_mv (v := .string s) rfl) rfl (by decide) (cok1 trivial) ?_
  refine dv (gyes_none rfl) (q_call0 Tryz.call22 rfl (hread_s s h)) rfl (by decide) (cok2 trivial trivial) ?_
  refine dv (gyes_none rfl) (q_mv (v := .tuple #[.agg #[.string (⟨#[]⟩ : ByteArray), .int .u64 0, .slice none 0 0], .agg #[.int .i64 2, .int .u64 0, .string (⟨#[]⟩ : ByteArray)]]) rfl) rfl (by decide) (cok1 trivial) ?_
  refine dv (gyes_none rfl) (q_extract (v := .agg #[.string (⟨#[]⟩ : ByteArray), .int .u64 0, .slice none 0 0]) rfl rfl) rfl (by decide) (cok1 trivial) ?_
  refine dv (gyes_none rfl) (q_extract (v := .agg #[.int .i64 2, .int .u64 0, .string (⟨#[]⟩ : ByteArray)]) rfl rfl) rfl (by decide) (cok1 trivial) ?_
  refine x_new (fun b => .pointer (some ⟨b, 0, none⟩)) s3 (gyes_none rfl) (q_alloc (vs := [.string ⟨#[]⟩, .int .u64 0, .slice none 0 0]) 3 Tryz.zeroValue62 (by first | exact flat_scalar rfl | exact flat_agg rfl) rfl) rfl (by decide) (by simp [Op.operands, Call.operands]) (fun b5 H6 hb8 s7 => ?_)
  refine x_new (fun b => .pointer (some ⟨b, 0, none⟩)) s7 (gyes_none rfl) (q_alloc (vs := [.int .i64 0, .int .u64 0, .string ⟨#[]⟩]) 3 Tryz.zeroValue47 (by first | exact flat_scalar rfl | exact flat_agg rfl) rfl) rfl (by decide) (by simp [Op.operands, Call.operands]) (fun b9 H10 hb12 s11 => ?_)
  refine x_store [] hF s11 (by kernel_rfl) (gyes_none rfl) (j := 1) (v := .agg #[.string (⟨#[]⟩ : ByteArray), .int .u64 0, .slice none 0 0]) rfl Tryz.sizeOf62 rfl rfl rfl rfl rfl trivial (lcsA ⟨(lc_scalar rfl), (lc_scalar rfl), (lc_scalar rfl), trivial⟩) (Nat.le_of_ble_eq_true rfl) trivial trivial rfl rfl (F' := [(b9, .cells true [.int .i64 0, .int .u64 0, .string ⟨#[]⟩] 3), (b5, .cells true [.string (⟨#[]⟩ : ByteArray), .int .u64 0, .slice none 0 0] 3), (b1, .cells true [.int .i64 0, .int .u64 0, .string ⟨#[]⟩] 3)]) rfl (fun H13 s14 => ⟨?_, ?_⟩)
  · exact trivial
  refine x_store [] hF s14 (by kernel_rfl) (gyes_none rfl) (j := 0) (v := .agg #[.int .i64 2, .int .u64 0, .string (⟨#[]⟩ : ByteArray)]) rfl Tryz.sizeOf47 rfl rfl rfl rfl rfl trivial (lcsA ⟨(lc_scalar rfl), (lc_scalar rfl), (lc_scalar rfl), trivial⟩) (Nat.le_of_ble_eq_true rfl) trivial trivial rfl rfl (F' := [(b9, .cells true [.int .i64 2, .int .u64 0, .string (⟨#[]⟩ : ByteArray)] 3), (b5, .cells true [.string (⟨#[]⟩ : ByteArray), .int .u64 0, .slice none 0 0] 3), (b1, .cells true [.int .i64 0, .int .u64 0, .string ⟨#[]⟩] 3)]) rfl (fun H15 s16 => ⟨?_, ?_⟩)
  · exact trivial
  refine ⟨_, Wk.refl _ _, ?_⟩
  show awp _ _ _ _ _ _ _
  refine awp_seq ?_
  refine awp_seq ?_
  refine awp_regs hF ?_
  refine dv (gyes_none rfl) (q_loadAgg Tryz.isAgg47 Tryz.sizeOf47 rfl (s16.rd (j := 0) rfl) (Nat.le_of_ble_eq_true rfl) rfl) rfl (by decide) (cok1 trivial) ?_
  refine dv (gyes_none rfl) (q_call0 Tryz.call19 rfl (ACalls.castV (v' := .bool false) (faultOK_ok 2 0 ⟨#[]⟩) rfl)) rfl (by decide) (cok2 trivial trivial) ?_
  refine dv (gyes_none rfl) (q_not (b := false) rfl) rfl (by decide) (cok1 trivial) ?_
  refine ⟨_, Wk.refl _ _, ?_⟩
  show awp _ _ _ _ _ _ _
  refine awp_cond_t rfl ?_
  refine awp_seq ?_
  refine awp_regt hF hM (by kernel_rfl) (by kernel_rfl) ?_
  refine dv (gyes_none rfl) (q_loadAgg Tryz.isAgg47 Tryz.sizeOf47 rfl (s16.rd (j := 0) rfl) (Nat.le_of_ble_eq_true rfl) rfl) rfl (by decide) (cok1 trivial) ?_
  refine dv (gyes_none rfl) (q_as (v := .pointer none) rfl) rfl (by decide) (cok1 (cconst rfl)) ?_
  refine x_store [] hF s16 (by kernel_rfl) (gyes_none rfl) (j := 2) (v := .agg #[.int .i64 2, .int .u64 0, .string (⟨#[]⟩ : ByteArray)]) rfl Tryz.sizeOf47 rfl rfl rfl rfl rfl trivial (lcsA ⟨(lc_scalar rfl), (lc_scalar rfl), (lc_scalar rfl), trivial⟩) (Nat.le_of_ble_eq_true rfl) trivial trivial rfl rfl (F' := [(b9, .cells true [.int .i64 2, .int .u64 0, .string (⟨#[]⟩ : ByteArray)] 3), (b5, .cells true [.string (⟨#[]⟩ : ByteArray), .int .u64 0, .slice none 0 0] 3), (b1, .cells true [.int .i64 2, .int .u64 0, .string (⟨#[]⟩ : ByteArray)] 3)]) rfl (fun H17 s18 => ⟨?_, ?_⟩)
  · exact trivial
  refine ⟨_, Wk.refl _ _, ?_⟩
  show awp _ _ _ _ _ _ _
  refine awp_ret_wk ?_
  refine ⟨_, Wk.refl _ _, ?_⟩
  repeat (with_reducible first | refine then_ret ?_ | refine blk_ret ?_ | refine then_exit ?_ | refine blk_exit ?_ | refine blk_exit' (by decide) ?_ | refine blk_normal ?_ | refine then_normal ?_ | refine retq_ret ?_ | refine retq_normal ?_ | refine ng_normal ?_ | refine ng_ret ?_ | refine ng_exit ?_)
  exact ret_none (v := .tuple #[.pointer none, .agg #[.int .i64 2, .int .u64 0, .string (⟨#[]⟩ : ByteArray)]]) rfl s18.kp (.tmp rfl (.agg rfl Tryz.isAgg47 Tryz.sizeOf47 (s18.rd (j := 2) rfl) (Nat.le_of_ble_eq_true rfl) rfl .nil)) rfl rfl ⟨rfl, rfl⟩
set_option maxRecDepth 100000 in
set_option maxHeartbeats 4000000 in
theorem obj_ok {H0 : AHeap} (bf c : Nat) (vP : Value) (hc : H0[c]? = some (.cells true (fcell ((⟨#[97]⟩ : ByteArray), (⟨#[120]⟩ : ByteArray))) 7)) (hf : Off H0 [c] bf [vP] 1) (hP : SlZ ptv (Off H0 [c]) vP [c]) : ACalls Tryz.prog 13 [.pointer (some ⟨bf, 0, none⟩), .string (⟨#[97]⟩ : ByteArray)] H0 (fun v H' => v = .tuple #[.pointer none, .agg #[.int .i64 2, .int .u64 0, .string (⟨#[97]⟩ : ByteArray)]] ∧ Kp (· ∈ [c]) H0 H' ∧ H'[c]? = some (.cells true [.string (⟨#[97]⟩ : ByteArray), .string (⟨#[120]⟩ : ByteArray), .bool true, .pointer none, .int .i64 2, .int .u64 0, .string (⟨#[97]⟩ : ByteArray)] 7)) := by
  have hF : Wd Fence.wide := .inl rfl
  have hM : Tryz.prog.follows .mixedOrders = true := by kernel_rfl
  have s0 : St H0 (· ∈ [c]) (Off H0 [c]) H0 [(c, .cells true [.string (⟨#[97]⟩ : ByteArray), .string (⟨#[120]⟩ : ByteArray), .bool false, .pointer none, .int .i64 0, .int .u64 0, .string (⟨#[]⟩ : ByteArray)] 7)] := St.beginL [(c, .cells true [.string (⟨#[97]⟩ : ByteArray), .string (⟨#[120]⟩ : ByteArray), .bool false, .pointer none, .int .i64 0, .int .u64 0, .string (⟨#[]⟩ : ByteArray)] 7)] (by simp) (allAt_mem ⟨hc, trivial⟩)
  refine acalls_st Tryz.func13 rfl Tryz.ntmps13 rfl ?_
  refine awp_seq ?_
  refine awp_regs hF ?_
  refine dv (gyes_none rfl) (q_as (v := .pointer none) rfl) rfl (by decide) (cok1 (cconst rfl)) ?_
  refine x_new (fun b => .pointer (some ⟨b, 0, none⟩)) s0 (gyes_none rfl) (q_alloc (vs := [.int .i64 0, .int .u64 0, .string ⟨#[]⟩]) 3 Tryz.zeroValue47 (by first | exact flat_scalar rfl | exact flat_agg rfl) rfl) rfl (by decide) (by simp [Op.operands, Call.operands]) (fun b1 H2 hb4 s3 => ?_)
  refine ⟨_, Wk.refl _ _, ?_⟩
  show awp _ _ _ _ _ _ _
  refine awp_seq ?_
  refine awp_regs hF ?_
  refine dv (gyes_none rfl) (q_mv (v := .pointer (some ⟨bf, 0, none⟩)) rfl) rfl (by decide) (cok1 trivial) ?_
  refine dv (gyes_none rfl) (q_mv (v := .string (⟨#[97]⟩ : ByteArray)) rfl) rfl (by decide) (cok1 trivial) ?_
  refine dv (gyes_none rfl) (q_call0 Tryz.call14 rfl (ACalls.castV (v' := .tuple #[.pointer (some ⟨c, 0, none⟩), .bool true]) (find_yes bf vP [c] [((⟨#[97]⟩ : ByteArray), (⟨#[120]⟩ : ByteArray))] (by decide) (s3.zrd hf) (s3.sl hP) (FZ.one (s3.rd (j := 1) rfl)) (⟨#[97]⟩ : ByteArray) (by decide +kernel)) (by rw [show fI [((⟨#[97]⟩ : ByteArray), (⟨#[120]⟩ : ByteArray))] (⟨#[97]⟩ : ByteArray) = 0 by decide +kernel]; rfl))) rfl (by decide) (call_ok rfl) ?_
  refine dv (gyes_none rfl) (q_mv (v := .tuple #[.pointer (some ⟨c, 0, none⟩), .bool true]) rfl) rfl (by decide) (cok1 trivial) ?_
  refine dv (gyes_none rfl) (q_extract (v := .pointer (some ⟨c, 0, none⟩)) rfl rfl) rfl (by decide) (cok1 trivial) ?_
  refine dv (gyes_none rfl) (q_extract (v := .bool true) rfl rfl) rfl (by decide) (cok1 trivial) ?_
  refine dv (gyes_none rfl) (q_as (v := .pointer (some ⟨c, 0, none⟩)) rfl) rfl (by decide) (cok1 trivial) ?_
  refine dv (gyes_none rfl) (q_as (v := .bool true) rfl) rfl (by decide) (cok1 trivial) ?_
  refine ⟨_, Wk.refl _ _, ?_⟩
  show awp _ _ _ _ _ _ _
  refine awp_seq ?_
  refine awp_seq ?_
  refine awp_regs hF ?_
  refine dv (gyes_none rfl) (q_mv (v := .bool true) rfl) rfl (by decide) (cok1 trivial) ?_
  refine dv (gyes_none rfl) (q_not (b := true) rfl) rfl (by decide) (cok1 trivial) ?_
  refine ⟨_, Wk.refl _ _, ?_⟩
  show awp _ _ _ _ _ _ _
  refine awp_cond_f rfl ?_
  refine awp_skip_wk ?_
  refine ⟨_, Wk.refl _ _, ?_⟩
  show awp _ _ _ _ _ _ _
  refine awp_seq ?_
  refine awp_seq ?_
  refine awp_regs hF ?_
  refine dv (gyes_none rfl) (q_mv (v := .pointer (some ⟨c, 0, none⟩)) rfl) rfl (by decide) (cok1 trivial) ?_
  refine dv (gyes_none rfl) (q_nilCheck rfl (s3.live (j := 1) rfl)) rfl (by decide) (cok1 trivial) ?_
  refine dv (gyes_none rfl) (q_field Tryz.underlying56 rfl Tryz.sizeOf4 rfl (s3.rd (j := 1) rfl)) rfl (by decide) (cok1 trivial) ?_
  refine dv (gyes_none rfl) (q_load (v := .bool false) Tryz.isAgg4 rfl (s3.rd (j := 1) rfl) rfl) rfl (by decide) (cok1 trivial) ?_
  refine dv (gyes_none rfl) (q_not (b := false) rfl) rfl (by decide) (cok1 trivial) ?_
  refine ⟨_, Wk.refl _ _, ?_⟩
  show awp _ _ _ _ _ _ _
  refine awp_cond_t rfl ?_
  refine awp_seq ?_
  refine awp_regs hF ?_
  refine dv (gyes_none rfl) (q_mv (v := .pointer (some ⟨c, 0, none⟩)) rfl) rfl (by decide) (cok1 trivial) ?_
  refine dv (gyes_none rfl) (q_nilCheck rfl (s3.live (j := 1) rfl)) rfl (by decide) (cok1 trivial) ?_
  refine dv (gyes_none rfl) (q_field Tryz.underlying56 rfl Tryz.sizeOf4 rfl (s3.rd (j := 1) rfl)) rfl (by decide) (cok1 trivial) ?_
  refine x_store1 [] hF s3 (by kernel_rfl) (gyes_none rfl) (j := 1) (v := .bool true) rfl Tryz.sizeOf4 rfl rfl rfl (lc_scalar rfl) (Nat.le_of_ble_eq_true rfl) trivial (cconst rfl) rfl rfl (F' := [(b1, .cells true [.int .i64 0, .int .u64 0, .string ⟨#[]⟩] 3), (c, .cells true [.string (⟨#[97]⟩ : ByteArray), .string (⟨#[120]⟩ : ByteArray), .bool true, .pointer none, .int .i64 0, .int .u64 0, .string (⟨#[]⟩ : ByteArray)] 7)]) rfl (fun H5 s6 => ⟨?_, ?_⟩)
  · exact trivial
  refine ⟨_, Wk.refl _ _, ?_⟩
  show awp _ _ _ _ _ _ _
  refine awp_seq ?_
  refine awp_regs hF ?_
  refine dv (gyes_none rfl) (q_mv (v := .pointer (some ⟨c, 0, none⟩)) rfl) rfl (by decide) (cok1 trivial) ?_
  refine dv (gyes_none rfl) (q_mv (v := .pointer (some ⟨c, 0, none⟩)) rfl) rfl (by decide) (cok1 trivial) ?_
  refine dv (gyes_none rfl) (q_mv (v := .pointer (some ⟨c, 0, none⟩)) rfl) rfl (by decide) (cok1 trivial) ?_
  refine dv (gyes_none rfl) (q_nilCheck rfl (s6.live (j := 1) rfl)) rfl (by decide) (cok1 trivial) ?_
  refine dv (gyes_none rfl) (q_field Tryz.underlying56 rfl Tryz.sizeOf9 rfl (s6.rd (j := 1) rfl)) rfl (by decide) (cok1 trivial) ?_
  refine dv (gyes_none rfl) (q_load (v := .string (⟨#[120]⟩ : ByteArray)) Tryz.isAgg9 rfl (s6.rd (j := 1) rfl) rfl) rfl (by decide) (cok1 trivial) ?_
  refine dv (gyes_none rfl) (q_call0 Tryz.call18 rfl (oread_s _ (by decide))) rfl (by decide) (cok2 trivial trivial) ?_
  refine dv (gyes_none rfl) (q_mv (v := .tuple #[.pointer none, .agg #[.int .i64 2, .int .u64 0, .string (⟨#[]⟩ : ByteArray)]]) rfl) rfl (by decide) (cok1 trivial) ?_
  refine dv (gyes_none rfl) (q_extract (v := .pointer none) rfl rfl) rfl (by decide) (cok1 trivial) ?_
  refine dv (gyes_none rfl) (q_extract (v := .agg #[.int .i64 2, .int .u64 0, .string (⟨#[]⟩ : ByteArray)]) rfl rfl) rfl (by decide) (cok1 trivial) ?_
  refine dv (gyes_none rfl) (q_nilCheck rfl (s6.live (j := 1) rfl)) rfl (by decide) (cok1 trivial) ?_
  refine dv (gyes_none rfl) (q_field Tryz.underlying56 rfl Tryz.sizeOf44 rfl (s6.rd (j := 1) rfl)) rfl (by decide) (cok1 trivial) ?_
  refine x_store1 [] hF s6 (by kernel_rfl) (gyes_none rfl) (j := 1) (v := .pointer none) rfl Tryz.sizeOf44 rfl rfl rfl (lc_scalar rfl) (Nat.le_of_ble_eq_true rfl) trivial trivial rfl rfl (F' := [(b1, .cells true [.int .i64 0, .int .u64 0, .string ⟨#[]⟩] 3), (c, .cells true [.string (⟨#[97]⟩ : ByteArray), .string (⟨#[120]⟩ : ByteArray), .bool true, .pointer none, .int .i64 0, .int .u64 0, .string (⟨#[]⟩ : ByteArray)] 7)]) rfl (fun H7 s8 => ⟨?_, ?_⟩)
  · exact trivial
  refine dv (gyes_none rfl) (q_nilCheck rfl (s8.live (j := 1) rfl)) rfl (by decide) (cok1 trivial) ?_
  refine dv (gyes_none rfl) (q_field Tryz.underlying56 rfl Tryz.sizeOf47 rfl (s8.rd (j := 1) rfl)) rfl (by decide) (cok1 trivial) ?_
  refine x_store [] hF s8 (by kernel_rfl) (gyes_none rfl) (j := 1) (v := .agg #[.int .i64 2, .int .u64 0, .string (⟨#[]⟩ : ByteArray)]) rfl Tryz.sizeOf47 rfl rfl rfl rfl rfl trivial (lcsA ⟨(lc_scalar rfl), (lc_scalar rfl), (lc_scalar rfl), trivial⟩) (Nat.le_of_ble_eq_true rfl) trivial trivial rfl rfl (F' := [(b1, .cells true [.int .i64 0, .int .u64 0, .string ⟨#[]⟩] 3), (c, .cells true [.string (⟨#[97]⟩ : ByteArray), .string (⟨#[120]⟩ : ByteArray), .bool true, .pointer none, .int .i64 2, .int .u64 0, .string (⟨#[]⟩ : ByteArray)] 7)]) rfl (fun H9 s10 => ⟨?_, ?_⟩)
  · exact trivial
  refine ⟨_, Wk.refl _ _, ?_⟩
  show awp _ _ _ _ _ _ _
  refine awp_seq ?_
  refine awp_regs hF ?_
  refine dv (gyes_none rfl) (q_mv (v := .pointer (some ⟨c, 0, none⟩)) rfl) rfl (by decide) (cok1 trivial) ?_
  refine dv (gyes_none rfl) (q_nilCheck rfl (s10.live (j := 1) rfl)) rfl (by decide) (cok1 trivial) ?_
  refine dv (gyes_none rfl) (q_field Tryz.underlying56 rfl Tryz.sizeOf47 rfl (s10.rd (j := 1) rfl)) rfl (by decide) (cok1 trivial) ?_
  refine dv (gyes_none rfl) (q_loadAgg Tryz.isAgg47 Tryz.sizeOf47 rfl (s10.rd (j := 1) rfl) (Nat.le_of_ble_eq_true rfl) rfl) rfl (by decide) (cok1 trivial) ?_
  refine dv (gyes_none rfl) (q_call0 Tryz.call19 rfl (ACalls.castV (v' := .bool false) (faultOK_ok 2 0 ⟨#[]⟩) rfl)) rfl (by decide) (cok2 trivial trivial) ?_
  refine dv (gyes_none rfl) (q_not (b := false) rfl) rfl (by decide) (cok1 trivial) ?_
  refine ⟨_, Wk.refl _ _, ?_⟩
  show awp _ _ _ _ _ _ _
  refine awp_cond_t rfl ?_
  refine awp_regs hF ?_
  refine dv (gyes_none rfl) (q_mv (v := .pointer (some ⟨c, 0, none⟩)) rfl) rfl (by decide) (cok1 trivial) ?_
  refine dv (gyes_none rfl) (q_mv (v := .string (⟨#[97]⟩ : ByteArray)) rfl) rfl (by decide) (cok1 trivial) ?_
  refine dv (gyes_none rfl) (q_nilCheck rfl (s10.live (j := 1) rfl)) rfl (by decide) (cok1 trivial) ?_
  refine dv (gyes_none rfl) (q_field Tryz.underlying56 rfl Tryz.sizeOf47 rfl (s10.rd (j := 1) rfl)) rfl (by decide) (cok1 trivial) ?_
  refine dv (gyes_none rfl) (q_field Tryz.underlying47 rfl Tryz.sizeOf9 rfl (s10.rd (j := 1) rfl)) rfl (by decide) (cok1 trivial) ?_
  refine x_store1 [] hF s10 (by kernel_rfl) (gyes_none rfl) (j := 1) (v := .string (⟨#[97]⟩ : ByteArray)) rfl Tryz.sizeOf9 rfl rfl rfl (lc_scalar rfl) (Nat.le_of_ble_eq_true rfl) trivial trivial rfl rfl (F' := [(b1, .cells true [.int .i64 0, .int .u64 0, .string ⟨#[]⟩] 3), (c, .cells true [.string (⟨#[97]⟩ : ByteArray), .string (⟨#[120]⟩ : ByteArray), .bool true, .pointer none, .int .i64 2, .int .u64 0, .string (⟨#[97]⟩ : ByteArray)] 7)]) rfl (fun H11 s12 => ⟨?_, ?_⟩)
  · exact trivial
  refine ⟨_, Wk.refl _ _, ?_⟩
  show awp _ _ _ _ _ _ _
  refine awp_seq ?_
  refine awp_regt hF hM (by kernel_rfl) (by kernel_rfl) ?_
  refine dv (gyes_none rfl) (q_mv (v := .pointer (some ⟨c, 0, none⟩)) rfl) rfl (by decide) (cok1 trivial) ?_
  refine dv (gyes_none rfl) (q_nilCheck rfl (s12.live (j := 1) rfl)) rfl (by decide) (cok1 trivial) ?_
  refine dv (gyes_none rfl) (q_field Tryz.underlying56 rfl Tryz.sizeOf44 rfl (s12.rd (j := 1) rfl)) rfl (by decide) (cok1 trivial) ?_
  refine dv (gyes_none rfl) (q_load (v := .pointer none) Tryz.isAgg44 rfl (s12.rd (j := 1) rfl) rfl) rfl (by decide) (cok1 trivial) ?_
  refine dv (gyes_none rfl) (q_mv (v := .pointer (some ⟨c, 0, none⟩)) rfl) rfl (by decide) (cok1 trivial) ?_
  refine dv (gyes_none rfl) (q_nilCheck rfl (s12.live (j := 1) rfl)) rfl (by decide) (cok1 trivial) ?_
  refine dv (gyes_none rfl) (q_field Tryz.underlying56 rfl Tryz.sizeOf47 rfl (s12.rd (j := 1) rfl)) rfl (by decide) (cok1 trivial) ?_
  refine dv (gyes_none rfl) (q_loadAgg Tryz.isAgg47 Tryz.sizeOf47 rfl (s12.rd (j := 1) rfl) (Nat.le_of_ble_eq_true rfl) rfl) rfl (by decide) (cok1 trivial) ?_
  refine dv (gyes_none rfl) (q_as (v := .pointer none) rfl) rfl (by decide) (cok1 trivial) ?_
  refine x_store [] hF s12 (by kernel_rfl) (gyes_none rfl) (j := 0) (v := .agg #[.int .i64 2, .int .u64 0, .string (⟨#[97]⟩ : ByteArray)]) rfl Tryz.sizeOf47 rfl rfl rfl rfl rfl trivial (lcsA ⟨(lc_scalar rfl), (lc_scalar rfl), (lc_scalar rfl), trivial⟩) (Nat.le_of_ble_eq_true rfl) trivial trivial rfl rfl (F' := [(b1, .cells true [.int .i64 2, .int .u64 0, .string (⟨#[97]⟩ : ByteArray)] 3), (c, .cells true [.string (⟨#[97]⟩ : ByteArray), .string (⟨#[120]⟩ : ByteArray), .bool true, .pointer none, .int .i64 2, .int .u64 0, .string (⟨#[97]⟩ : ByteArray)] 7)]) rfl (fun H13 s14 => ⟨?_, ?_⟩)
  · exact trivial
  refine ⟨_, Wk.refl _ _, ?_⟩
  show awp _ _ _ _ _ _ _
  refine awp_ret_wk ?_
  refine ⟨_, Wk.refl _ _, ?_⟩
  repeat (with_reducible first | refine then_ret ?_ | refine blk_ret ?_ | refine then_exit ?_ | refine blk_exit ?_ | refine blk_exit' (by decide) ?_ | refine blk_normal ?_ | refine then_normal ?_ | refine retq_ret ?_ | refine retq_normal ?_ | refine ng_normal ?_ | refine ng_ret ?_ | refine ng_exit ?_)
  refine ret_is (v := .tuple #[.pointer none, .agg #[.int .i64 2, .int .u64 0, .string (⟨#[97]⟩ : ByteArray)]]) rfl (.tmp rfl (.agg rfl Tryz.isAgg47 Tryz.sizeOf47 (s14.rd (j := 0) rfl) (Nat.le_of_ble_eq_true rfl) rfl .nil)) rfl ?_
  exact ⟨rfl, s14.kp, s14.getj (j := 1) rfl⟩
set_option maxRecDepth 100000 in
set_option maxHeartbeats 4000000 in
theorem speaks_ok {H0 : AHeap}  : ACalls Tryz.prog 5 [] H0 (Rets (.bool true) H0) := by
  have hF : Wd Fence.wide := .inl rfl
  have hM : Tryz.prog.follows .mixedOrders = true := by kernel_rfl
  have s0 := St.begin H0
  refine acalls_st Tryz.func5 rfl Tryz.ntmps5 rfl ?_
  refine awp_seq ?_
  refine awp_regs hF ?_
  refine dv (gyes_none rfl) (q_as (v := .bool false) rfl) rfl (by decide) (cok1 (cconst rfl)) ?_
  refine ⟨_, Wk.refl _ _, ?_⟩
  show awp _ _ _ _ _ _ _
  refine awp_seq ?_
  refine awp_regs hF ?_
  refine x_new (fun b => .pointer (some ⟨b, 0, none⟩)) s0 (gyes_none rfl) (q_alloc (vs := [.slice none 0 0]) 1 Tryz.zeroValue26 (by first | exact flat_scalar rfl | exact flat_agg rfl) rfl) rfl (by decide) (by simp [Op.operands, Call.operands]) (fun b1 H2 hb4 s3 => ?_)
  refine ⟨_, Wk.refl _ _, ?_⟩
  show awp _ _ _ _ _ _ _
  refine awp_seq ?_
  refine awp_nilc s3 (j := 0) (o := 0) (sz' := 1) rfl rfl (fun b8 H5 hb7 s6 => ?_)
  refine awp_regs hF ?_
  refine x_call [] hF (by kernel_rfl) (gyes_none rfl) Tryz.call6 rfl (args := [.pointer (some ⟨b1, 0, none⟩), .string (⟨#[97]⟩ : ByteArray), .string (⟨#[120]⟩ : ByteArray)]) rfl (add_n b1 b8 [] [] (by decide) (s6.nej (i := 1) (j := 0) rfl rfl (by decide)) (s6.getj (j := 1) rfl) (s6.getj (j := 0) rfl) ⟨rfl, fun i hi => absurd hi (Nat.not_lt_zero _)⟩ (⟨#[97]⟩ : ByteArray) (⟨#[120]⟩ : ByteArray) (by decide) (by decide) (by decide)) (show _ < _ by decide) (call_ok rfl) rfl rfl (fun _ _ _ _ hd => by cases hd) ?_
  rintro _ H9 ⟨rfl, hk10, ho11⟩
  obtain ⟨_, b12, b13, h14, h15, h16, h17, h18, h19, h20⟩ := ho11.resolve_left (fun h => h.1 (by decide +kernel))
  have s21 := s6.turn2N (j9 := 1) (jl := 0) rfl rfl (by decide) hk10 h14 h17 h18 h19 h15 h16 h20
  refine ⟨trivial, ?_⟩
  show dList _ _ _ _ _ _ _ _ _ _
  refine dv (gyes_none rfl) (q_as (v := .int .i64 ((addV [] (⟨#[97]⟩ : ByteArray) (⟨#[120]⟩ : ByteArray) : Nat) : Int)) rfl) rfl (by decide) (cok1 trivial) ?_
  refine ⟨_, Wk.refl _ _, ?_⟩
  show awp _ _ _ _ _ _ _
  refine awp_seq ?_
  refine awp_regs hF ?_
  refine dv (gyes_none rfl) (q_call0 Tryz.call10 rfl (ACalls.castV (v' := .tuple #[.string (⟨#[120]⟩ : ByteArray), .bool true]) (bytes_yes b1 _ [b13] [((⟨#[97]⟩ : ByteArray), (⟨#[120]⟩ : ByteArray))] (by decide) (s21.rd (j := 2) rfl) (s21.slj (j := 1) rfl rfl (Nat.le_refl _)) (FZ.one (s21.rd (j := 0) rfl)) (⟨#[97]⟩ : ByteArray) (by decide +kernel)) (by rw [show fI [((⟨#[97]⟩ : ByteArray), (⟨#[120]⟩ : ByteArray))] (⟨#[97]⟩ : ByteArray) = 0 by decide +kernel]; rfl))) rfl (by decide) (call_ok rfl) ?_
  refine dv (gyes_none rfl) (q_mv (v := .tuple #[.string (⟨#[120]⟩ : ByteArray), .bool true]) rfl) rfl (by decide) (cok1 trivial) ?_
  refine dv (gyes_none rfl) (q_extract (v := .string (⟨#[120]⟩ : ByteArray)) rfl rfl) rfl (by decide) (cok1 trivial) ?_
  refine dv (gyes_none rfl) (q_extract (v := .bool true) rfl rfl) rfl (by decide) (cok1 trivial) ?_
  refine dv (gyes_none rfl) (q_as (v := .string (⟨#[120]⟩ : ByteArray)) rfl) rfl (by decide) (cok1 trivial) ?_
  refine dv (gyes_none rfl) (q_as (v := .bool true) rfl) rfl (by decide) (cok1 trivial) ?_
  refine ⟨_, Wk.refl _ _, ?_⟩
  show awp _ _ _ _ _ _ _
  refine awp_seq ?_
  refine awp_regs hF ?_
  refine x_call [] hF (by kernel_rfl) (gyes_none rfl) Tryz.call13 rfl (args := [.pointer (some ⟨b1, 0, none⟩), .string (⟨#[97]⟩ : ByteArray)]) rfl (obj_ok b1 b13 _ (s21.getj (j := 0) rfl) ⟨s21.rd (j := 2) rfl, (nin1 (s21.nej (i := 2) (j := 0) rfl rfl (by decide)))⟩ (s21.offj (j := 1) rfl (nin1 (s21.nej (i := 1) (j := 0) rfl rfl (by decide))) rfl (Nat.le_refl _))) (show _ < _ by decide) (call_ok rfl) rfl rfl (fun _ _ _ _ hd => by cases hd) ?_
  rintro _ H22 ⟨rfl, hk23, h24⟩
  have s25 := s21.turn1 (j := 0) rfl hk23 h24
  refine ⟨trivial, ?_⟩
  show dList _ _ _ _ _ _ _ _ _ _
  refine dv (gyes_none rfl) (q_mv (v := .tuple #[.pointer none, .agg #[.int .i64 2, .int .u64 0, .string (⟨#[97]⟩ : ByteArray)]]) rfl) rfl (by decide) (cok1 trivial) ?_
  refine dv (gyes_none rfl) (q_extract (v := .pointer none) rfl rfl) rfl (by decide) (cok1 trivial) ?_
  refine dv (gyes_none rfl) (q_extract (v := .agg #[.int .i64 2, .int .u64 0, .string (⟨#[97]⟩ : ByteArray)]) rfl rfl) rfl (by decide) (cok1 trivial) ?_
  refine x_new (fun b => .pointer (some ⟨b, 0, none⟩)) s25 (gyes_none rfl) (q_alloc (vs := [.int .i64 0, .int .u64 0, .string ⟨#[]⟩]) 3 Tryz.zeroValue47 (by first | exact flat_scalar rfl | exact flat_agg rfl) rfl) rfl (by decide) (by simp [Op.operands, Call.operands]) (fun b26 H27 hb29 s28 => ?_)
  refine dv (gyes_none rfl) (q_as (v := .pointer none) rfl) rfl (by decide) (cok1 trivial) ?_
  refine x_store [] hF s28 (by kernel_rfl) (gyes_none rfl) (j := 0) (v := .agg #[.int .i64 2, .int .u64 0, .string (⟨#[97]⟩ : ByteArray)]) rfl Tryz.sizeOf47 rfl rfl rfl rfl rfl trivial (lcsA ⟨(lc_scalar rfl), (lc_scalar rfl), (lc_scalar rfl), trivial⟩) (Nat.le_of_ble_eq_true rfl) trivial trivial rfl rfl (F' := [(b26, .cells true [.int .i64 2, .int .u64 0, .string (⟨#[97]⟩ : ByteArray)] 3), (b13, .cells true [.string (⟨#[97]⟩ : ByteArray), .string (⟨#[120]⟩ : ByteArray), .bool true, .pointer none, .int .i64 2, .int .u64 0, .string (⟨#[97]⟩ : ByteArray)] 7), (b12, .cells true (([b13]).map ptv) 1), (b1, .cells true [.slice (some ⟨b12, 0, none⟩) 1 1] 1)]) rfl (fun H30 s31 => ⟨?_, ?_⟩)
  · exact trivial
  refine ⟨_, Wk.refl _ _, ?_⟩
  show awp _ _ _ _ _ _ _
  refine awp_seq ?_
  refine awp_regs hF ?_
  refine dv (gyes_none rfl) (q_mv (v := .int .i64 ((addV [] (⟨#[97]⟩ : ByteArray) (⟨#[120]⟩ : ByteArray) : Nat) : Int)) rfl) rfl (by decide) (cok1 trivial) ?_
  refine dv (gyes_none rfl) (OpQ.cast (v' := .bool true) (q_int rfl rfl rfl) (congrArg Value.bool (beq_iff_eq.2 (by decide +kernel)))) rfl (by decide) (cok2 trivial (cconst rfl)) ?_
  refine dv (gyes_none rfl) (q_mv (v := .bool true) rfl) rfl (by decide) (cok1 trivial) ?_
  refine dv (gyes_some rfl rfl) (q_mv (v := .bool true) rfl) rfl (by decide) (cok1 trivial) ?_
  refine dv (gyes_none rfl) (q_pt (v := .bool true) rfl rfl) rfl (by decide) (call_ok rfl) ?_
  refine dv (gyes_none rfl) (q_mv (v := .bool true) rfl) rfl (by decide) (cok1 trivial) ?_
  refine dv (gyes_some rfl rfl) (q_mv (v := .string (⟨#[120]⟩ : ByteArray)) rfl) rfl (by decide) (cok1 trivial) ?_
  refine dv (gyes_some rfl rfl) (OpQ.cast (v' := .bool true) (q_streq rfl rfl) (congrArg Value.bool (by simp))) rfl (by decide) (cok2 trivial (cconst rfl)) ?_
  refine dv (gyes_none rfl) (q_pt (v := .bool true) rfl rfl) rfl (by decide) (call_ok rfl) ?_
  refine dv (gyes_none rfl) (q_mv (v := .bool true) rfl) rfl (by decide) (cok1 trivial) ?_
  refine dv (gyes_some rfl rfl) (q_field Tryz.underlying47 rfl Tryz.sizeOf28 rfl (s31.rd (j := 0) rfl)) rfl (by decide) (cok1 trivial) ?_
  refine dv (gyes_some rfl rfl) (q_load (v := .int .i64 2) Tryz.isAgg28 rfl (s31.rd (j := 0) rfl) rfl) rfl (by decide) (cok1 trivial) ?_
  refine dv (gyes_some rfl rfl) (OpQ.cast (v' := .bool true) (q_int rfl rfl rfl) (congrArg Value.bool (beq_self_eq_true _))) rfl (by decide) (cok2 trivial (cconst rfl)) ?_
  refine dv (gyes_none rfl) (q_pt (v := .bool true) rfl rfl) rfl (by decide) (call_ok rfl) ?_
  refine dv (gyes_none rfl) (q_mv (v := .bool true) rfl) rfl (by decide) (cok1 trivial) ?_
  refine dv (gyes_some rfl rfl) (q_field Tryz.underlying47 rfl Tryz.sizeOf9 rfl (s31.rd (j := 0) rfl)) rfl (by decide) (cok1 trivial) ?_
  refine dv (gyes_some rfl rfl) (q_load (v := .string (⟨#[97]⟩ : ByteArray)) Tryz.isAgg9 rfl (s31.rd (j := 0) rfl) rfl) rfl (by decide) (cok1 trivial) ?_
  refine dv (gyes_some rfl rfl) (OpQ.cast (v' := .bool true) (q_streq rfl rfl) (congrArg Value.bool (by simp))) rfl (by decide) (cok2 trivial (cconst rfl)) ?_
  refine dv (gyes_none rfl) (q_pt (v := .bool true) rfl rfl) rfl (by decide) (call_ok rfl) ?_
  refine dv (gyes_none rfl) (q_as (v := .bool true) rfl) rfl (by decide) (cok1 trivial) ?_
  refine ⟨_, Wk.refl _ _, ?_⟩
  show awp _ _ _ _ _ _ _
  refine awp_ret_wk ?_
  refine ⟨_, Wk.refl _ _, ?_⟩
  repeat (with_reducible first | refine then_ret ?_ | refine blk_ret ?_ | refine then_exit ?_ | refine blk_exit ?_ | refine blk_exit' (by decide) ?_ | refine blk_normal ?_ | refine then_normal ?_ | refine retq_ret ?_ | refine retq_normal ?_ | refine ng_normal ?_ | refine ng_ret ?_ | refine ng_exit ?_)
  exact ret_none (v := .bool true) rfl s31.kp (.tmp rfl .nil) rfl rfl ⟨rfl, rfl⟩

end Go.Proofs.YtnafdgcikaifmaaGreatA


/-
  Walks of functions of the given program, and what they compute.
-/
namespace Go.Proofs.YtnafdgcikaifmaaGreatA
set_option linter.unusedVariables false
open Go Go.RowKit Go.Shelf Go.Proofs
def addS (m : List Fl) (x : Fl) : List Fl := if addV m x.1 x.2 = 0 then m ++ [x] else m
def Grown (n0 : Nat) (H' : AHeap) (bn : Nat) (ps : List Nat) (m : List Fl) (x : Fl) (ps2 : List Nat) : Prop := (addV m x.1 x.2 ≠ 0 ∧ ps2 = ps) ∨ (addV m x.1 x.2 = 0 ∧ ∃ c, ps2 = ps ++ [c] ∧ n0 ≤ c ∧ c ≠ bn ∧ H'[c]? = some (.cells true (fcell x) 7))
theorem nth_app1 {α : Type} [Inhabited α] {l : List α} {x : α} {i : Nat} (h : i < l.length) : nth (l ++ [x]) i = nth l i := by
  rw [nth_eq (by rw [List.length_append]; omega), nth_eq h, List.getElem_append_left h]
theorem nth_app2 {α : Type} [Inhabited α] {l : List α} {x : α} {i : Nat} (h : i = l.length) : nth (l ++ [x]) i = x := by
  subst h
  rw [nth_eq (by simp)]; simp
theorem FZ.grown {Z : Rs} {H H' : AHeap} {bn : Nat} {ps ps2 : List Nat} {m : List Fl} {x : Fl} (h : FZ Z ps m) (g : Grown H.length H' bn ps m x ps2) : FZ (fun b vs sz => Z b vs sz ∨ (Rd H' b vs sz ∧ H.length ≤ b ∧ b ≠ bn)) ps2 (addS m x) := by
  unfold addS
  rcases g with ⟨g1, rfl⟩ | ⟨g1, c, rfl, g2, g3, g4⟩
  · rw [if_neg g1]; exact h.mono fun _ _ _ h => .inl h
  · rw [if_pos g1]
    refine ⟨by rw [List.length_append, List.length_append, h.len]; rfl, fun i hi => ?_⟩
    rw [List.length_append] at hi
    by_cases e : i < m.length
    · rw [nth_app1 e, nth_app1 (by rw [h.len]; exact e)]; exact .inl (h.at_ i e)
    · have e1 : i = m.length := by simp at hi; omega
      rw [nth_app2 e1, nth_app2 (by rw [h.len]; exact e1)]
      exact .inr ⟨.inl ⟨true, g4⟩, g2, g3⟩
theorem FZ.off2 {H0 : AHeap} {X : Nat → Prop} {Z : Rs} {H : AHeap} {F : List (Nat × AObj)} {ps : List Nat} {l : List Fl} (hz : FZ Z ps l) (h : St H0 X Z H F) {b c j k : Nat} {o p : AObj} (hj : F[j]? = some (b, o)) (hk : F[k]? = some (c, p)) : FZ (Off H [b, c]) ps l := hz.off h fun d hd => by
  rcases List.mem_cons.1 hd with rfl | hd
  · exact List.mem_map.2 ⟨_, List.mem_of_getElem? hj, rfl⟩
  · rw [List.mem_singleton.1 hd]; exact List.mem_map.2 ⟨_, List.mem_of_getElem? hk, rfl⟩
theorem St.turn2F {H0 : AHeap} {X : Nat → Prop} {Z : Rs} {H H' : AHeap} {F : List (Nat × AObj)} (h : St H0 X Z H F) {j9 jl b9 bl bn : Nat} {o9 ol o9' on : AObj} (h9 : F[j9]? = some (b9, o9)) (hl : F[jl]? = some (bl, ol)) (hij : j9 ≠ jl) (k : Kp (· ∈ [b9, bl]) H H') (hb : H.length ≤ bn ∨ bn ∈ [b9, bl]) (hne : bn ≠ b9) (h9' : H'[b9]? = some o9') (hn : H'[bn]? = some on) : St H0 X (fun b vs sz => Z b vs sz ∨ (Rd H' b vs sz ∧ H.length ≤ b ∧ b ≠ bn)) H' ((F.set j9 (b9, o9')).set jl (bn, on)) :=
  (h.turn2 h9 hl hij k hb hne h9' hn).zadd fun b' vs' sz' ⟨e1, hc, e3⟩ => by
    refine ⟨e1, fun p hp e => ?_⟩
    have hlt : ∀ q ∈ F, q.1 < H.length := fun q hq => lt_of_some (h.get q hq)
    rcases mem_set_cases hp with rfl | ⟨i, _, hp⟩
    · exact e3 e.symm
    · rcases mem_set_cases (List.mem_of_getElem? hp) with rfl | ⟨i, _, hp⟩
      · have := hlt _ (List.mem_of_getElem? h9); dsimp only at e this; omega
      · have := hlt _ (List.mem_of_getElem? hp); omega
theorem add_ok {H0 : AHeap} (bf bs : Nat) (ps : List Nat) (l : List Fl) (hl : l.length ≤ 1000) (hne : bf ≠ bs) (h1 : H0[bf]? = some (.cells true [.slice (some ⟨bs, 0, none⟩) ps.length ps.length] 1)) (h2 : H0[bs]? = some (.cells true (ps.map ptv) 1)) (hz : FZ (Off H0 [bf, bs]) ps l) (n b : ByteArray) (hn : n.size ≤ 9223372036854775807) (hb : b.size ≤ 9223372036854775807) :
    ACalls Tryz.prog 6 [.pointer (some ⟨bf, 0, none⟩), .string n, .string b] H0 (fun v H' => v = .int .i64 ((addV l n b : Nat) : Int) ∧ Kp (· ∈ [bf, bs]) H0 H' ∧ ∃ bn ps2, (H0.length ≤ bn ∨ bn ∈ [bf, bs]) ∧ bn ≠ bf ∧ H'[bf]? = some (.cells true [.slice (some ⟨bn, 0, none⟩) ps2.length ps2.length] 1) ∧ H'[bn]? = some (.cells true (ps2.map ptv) 1) ∧ Grown H0.length H' bn ps l (n, b) ps2) := by
  have key : ∀ (v : Value) (H' : AHeap), (v = .int .i64 ((addV l n b : Nat) : Int) ∧ Kp (· ∈ [bf, bs]) H0 H' ∧ ((addV l n b ≠ 0 ∧ H'[bf]? = some (.cells true [.slice (some ⟨bs, 0, none⟩) ps.length ps.length] 1) ∧ H'[bs]? = some (.cells true (ps.map ptv) 1)) ∨ (addV l n b = 0 ∧ ∃ bn c, (H0.length ≤ bn ∨ bn ∈ [bf, bs]) ∧ H0.length ≤ c ∧ c ≠ bn ∧ bn ≠ bf ∧ H'[bf]? = some (.cells true [.slice (some ⟨bn, 0, none⟩) (ps.length + 1) (ps.length + 1)] 1) ∧ H'[bn]? = some (.cells true ((ps ++ [c]).map ptv) 1) ∧ H'[c]? = some (.cells true (fcell (n, b)) 7)))) → (v = .int .i64 ((addV l n b : Nat) : Int) ∧ Kp (· ∈ [bf, bs]) H0 H' ∧ ∃ bn ps2, (H0.length ≤ bn ∨ bn ∈ [bf, bs]) ∧ bn ≠ bf ∧ H'[bf]? = some (.cells true [.slice (some ⟨bn, 0, none⟩) ps2.length ps2.length] 1) ∧ H'[bn]? = some (.cells true (ps2.map ptv) 1) ∧ Grown H0.length H' bn ps l (n, b) ps2) := by
    rintro v H' ⟨rfl, hk, ⟨q1, q2, q3⟩ | ⟨q1, bn, c, r1, r2, r3, r4, r5, r6, r7⟩⟩
    · exact ⟨rfl, hk, bs, ps, .inr (by simp), Ne.symm hne, q2, q3, .inl ⟨q1, rfl⟩⟩
    · exact ⟨rfl, hk, bn, ps ++ [c], r1, r4, by rw [List.length_append]; exact r5, r6, .inr ⟨q1, c, rfl, r2, r3, r7⟩⟩
  by_cases hf : fI l n < l.length
  · exact (add_f bf bs ps l hl hne h1 h2 hz n b hn hb hf).mono key
  · exact (add_n bf bs ps l hl hne h1 h2 hz n b hn hb hf).mono key
def filc (x : Fl) : List Value := [.string x.1, .string x.2]
theorem filc_w : Wm filc 2 := fun _ => rfl
theorem filc_sc : ∀ x, ∀ u ∈ filc x, Scalar u = true := fun x u hu => by simp [filc] at hu; rcases hu with rfl | rfl <;> rfl
def FlW (x : Fl) : Prop := x.1.size ≤ maxLen ∧ x.2.size ≤ maxLen
def flK (l : List Fl) : Nat → List Fl
  | 0 => []
  | i + 1 => addS (flK l i) (nth l i)
theorem addV_lt {m : List Fl} {n b : ByteArray} (h : addV m n b = 0) : m.length < 16 := by
  unfold addV at h
  split at h
  · exact absurd h (by decide)
  split at h
  · exact absurd h (by decide)
  split at h
  · exact absurd h (by decide)
  split at h
  · exact absurd h (by decide)
  omega
theorem addS_len {m : List Fl} {x : Fl} (h : m.length ≤ 16) : (addS m x).length ≤ 16 := by
  unfold addS
  split
  · rename_i h1
    have := addV_lt h1
    rw [List.length_append]; simp; omega
  · exact h
def nmL (m : List Fl) : List ByteArray := m.map Prod.fst
def told (n : Nat) (stop : Int) : Nat := if 0 < stop then min n stop.toNat else n
end Go.Proofs.YtnafdgcikaifmaaGreatA


/-
  Walks of functions of the given program, and what they compute.
-/
namespace Go.Proofs.YtnafdgcikaifmaaGreatA
set_option linter.unusedVariables false
open Go Go.RowKit Go.Shelf Go.Proofs
end Go.Proofs.YtnafdgcikaifmaaGreatA


/-
  Walks of functions of the given program, and what they compute.
-/
namespace Go.Proofs.YtnafdgcikaifmaaGreatA
set_option linter.unusedVariables false
open Go Go.RowKit Go.Shelf Go.Proofs
theorem q_append_nullSS {P : Program} {T : Nat → Value} {H : AHeap} {dst : Option Tmp} {ty : TypeId} {pos : String} {af : Array Edge} {g : Option (Nat × Bool)} {α : Type} [Inhabited α] {f : α → List Value} {m : Nat} {x y : Operand} {sT yT el e' : TypeId} {i : TypeInfo} {z vy : Value} {b o m' : Nat} {l : List α} (hm' : l.length = m') (hu : P.underlying sT = some (.slice el)) (hy : P.underlying yT = some (.slice e')) (hi : P.info? el = some i) (hiz : i.zero = some z) (hsz : i.size = m) (hpos : 0 < i.bytes) (hzs : z.cells.size = m)
    (hx : ev T x = .slice (some ⟨b, o, none⟩) 0 0) (hyv : ev T y = vy) (hH : H[b]? = some .null) (hw : Wm f m) (hS : SlS f m H vy l) (hf : ∀ x ∈ l, ∀ u ∈ f x, Lc H u) (hbig : (2 * m' + 1000) * i.bytes ≤ 281474976710656) :
    OpQ P ⟨dst, .call { callee := .builtin .append, args := #[x, y], argTypes := #[sT, yT] }, ty, pos, af, g⟩ T H (.slice (some ⟨H.length, 0, none⟩) m' m') [.cells true (fl f l) m] :=
  q_append_null hm' hu hi hiz hsz hpos hzs hx hyv hH (fun ρ w v' hh hv => src_sls hw hf hy hS ρ w v' hh hv) (fl_len hw) hbig
def nmK (s : ByteArray) (i : Nat) : Bool := decide (1 ≤ s.size) && decide (s.size ≤ 32) && (List.range i).all fun j => nmB (byt s j)
theorem nmK_succ (s : ByteArray) (i : Nat) : nmK s (i + 1) = (nmK s i && nmB (byt s i)) := by
  unfold nmK
  rw [List.range_succ, List.all_append, Bool.and_assoc, Bool.and_assoc, Bool.and_assoc]; simp
theorem nmK_y {s : ByteArray} {i : Nat} (h : nmK s i = true) (h1 : 33 ≤ byt s i) (h2 : byt s i ≤ 126) : nmK s (i + 1) = true := by
  rw [nmK_succ, h]; unfold nmB; rw [decide_eq_true h1, decide_eq_true h2]; rfl
theorem nmK_n {s : ByteArray} {i : Nat} (h : nmK s i = false ∨ byt s i < 33 ∨ 126 < byt s i) : nmK s (i + 1) = false := by
  rw [nmK_succ]
  rcases h with h | h | h
  · rw [h]; rfl
  · unfold nmB; rw [decide_eq_false (show ¬ 33 ≤ byt s i by omega)]; simp
  · unfold nmB; rw [decide_eq_false (show ¬ byt s i ≤ 126 by omega)]; simp
theorem ixF_of {l : List Fl} {s : ByteArray} (h : fI l s < l.length) : ixF l s = ((fI l s : Nat) : Int) := if_pos h
theorem ixF_no {l : List Fl} {s : ByteArray} (h : ¬ fI l s < l.length) : ixF l s = -1 := if_neg h
def bsV (l : List Fl) (s : ByteArray) : ByteArray := if fI l s < l.length then (nth l (fI l s)).2 else ⟨#[]⟩
theorem bytes_ok {H0 : AHeap} (bf : Nat) (vP : Value) (ps : List Nat) (l : List Fl) (hl : l.length ≤ 1000) (hf : Rd H0 bf [vP] 1) (hP : Sl ptv H0 vP ps) (hz : FZ (Rd H0) ps l) (s : ByteArray) : ACalls Tryz.prog 10 [.pointer (some ⟨bf, 0, none⟩), .string s] H0 (Rets (.tuple #[.string (bsV l s), .bool (decide (fI l s < l.length))]) H0) := by
  by_cases h : fI l s < l.length
  · exact (bytes_yes bf vP ps l hl hf hP hz s h).castV (by unfold bsV; rw [if_pos h, decide_eq_true h])
  · exact (bytes_no bf vP ps l hl hf hP hz s h).castV (by unfold bsV; rw [if_neg h, decide_eq_false h])
set_option maxRecDepth 100000 in
set_option maxHeartbeats 4000000 in
theorem rfind_ok {H0 : AHeap} (vl : Value) (l : List Fl) (hl : SlS filc 2 H0 vl l) (hn : l.length ≤ 1000) (s : ByteArray) : ACalls Tryz.prog 11 [vl, .string s] H0 (Rets (.int .i64 (ixF l s)) H0) := by
  have hF : Wd Fence.wide := .inl rfl
  have hM : Tryz.prog.follows .mixedOrders = true := by kernel_rfl
  have s0 := St.begin H0
  refine acalls_st Tryz.func11 rfl Tryz.ntmps11 rfl ?_
  refine awp_seq ?_
  refine awp_regs hF ?_
  refine dv (gyes_none rfl) (q_as (v := .int .i64 0) rfl) rfl (by decide) (cok1 (cconst rfl)) ?_
  refine ⟨_, Wk.refl _ _, ?_⟩
  show awp _ _ _ _ _ _ _
  refine awp_seq ?_
  refine awp_seq ?_
  refine awp_regs hF ?_
  refine dv (gyes_none rfl) (q_as (v := .int .i64 0) rfl) rfl (by decide) (cok1 (cconst rfl)) ?_
  refine ⟨_, Wk.refl _ _, ?_⟩
  show awp _ _ _ _ _ _ _
  refine awp_block ?_
  refine awp_wk (Wk.U [(0, vl), (1, .string s), (5, .int .i64 0)] ⟨rfl, rfl, rfl, trivial⟩) ?_
  refine awp_loop (fun (i : Nat) st => ∃ (H1 : AHeap), st = ⟨20, U [(0, vl), (1, .string s), (5, .int .i64 ((i : Nat) : Int))], [], H1⟩ ∧ St H0 (none0) (Rd H0) H1 [] ∧ (i ≤ l.length ∧ ∀ j, j < i → (nth l j).1 ≠ s)) (fun (i : Nat) => l.length - i) (x0 := (0)) ?h0 ?round
  case h0 =>
    exact ⟨_, rfl, s0, ⟨Nat.zero_le _, fun j h => absurd h (Nat.not_lt_zero _)⟩⟩
  case round =>
    rintro i _ ⟨H1, rfl, s2, hi⟩
    refine awp_seq ?_
    refine awp_seq ?_
    refine awp_regs hF ?_
    refine dv (gyes_none rfl) (q_mv (v := .int .i64 ((i : Nat) : Int)) rfl) rfl (by decide) (cok1 trivial) ?_
    refine dv (gyes_none rfl) (q_mv (v := vl) rfl) rfl (by decide) (cok1 trivial) ?_
    refine dv (gyes_none rfl) (q_len_sls (l := l) Tryz.underlying36 (s2.sls hl) rfl) rfl (by decide) (cok1 trivial) ?_
    refine dvb (gyes_none rfl) (q_int rfl rfl rfl) rfl (by decide) (cok2 trivial trivial) (fun c1 => ?_) (fun c1 => ?_)
    ·
      replace c1 := of_decide_eq_true c1
      refine ⟨_, Wk.refl _ _, ?_⟩
      show awp _ _ _ _ _ _ _
      refine awp_cond_t rfl ?_
      refine awp_skip_wk ?_
      refine ⟨_, Wk.refl _ _, ?_⟩
      show awp _ _ _ _ _ _ _
      refine awp_seq ?_
      refine awp_block ?_
      refine awp_seq ?_
      refine awp_regs hF ?_
      refine dv (gyes_none rfl) (q_mv (v := vl) rfl) rfl (by decide) (cok1 trivial) ?_
      refine dv (gyes_none rfl) (q_mv (v := .int .i64 ((i : Nat) : Int)) rfl) rfl (by decide) (cok1 trivial) ?_
      refine dv (gyes_none rfl) (q_index_sls (l := l) (i := i) Tryz.underlying36 Tryz.sizeOf42 (s2.sls hl) filc_w rfl rfl (by omega)) rfl (by decide) (cok2 trivial trivial) ?_
      refine dv (gyes_none rfl) (q_field_sls (l := l) (i := i) Tryz.underlying42 rfl Tryz.sizeOf9 (s2.sls hl) filc_w rfl (by omega)) rfl (by decide) (cok1 trivial) ?_
      refine dv (gyes_none rfl) (q_load_sls0 (l := l) (i := i) (u := .string ((nth l i).1)) Tryz.isAgg9 (s2.sls hl) filc_w rfl (by omega) (by decide) rfl) rfl (by decide) (cok1 trivial) ?_
      refine dv (gyes_none rfl) (q_mv (v := .string s) rfl) rfl (by decide) (cok1 trivial) ?_
      refine dvb (gyes_none rfl) (q_streq rfl rfl) rfl (by decide) (cok2 trivial trivial) (fun c2 => ?_) (fun c2 => ?_)
      ·
        replace c2 := of_decide_eq_true c2
        refine ⟨_, Wk.refl _ _, ?_⟩
        show awp _ _ _ _ _ _ _
        refine awp_cond_t rfl ?_
        refine awp_seq ?_
        refine awp_regs hF ?_
        refine dv (gyes_none rfl) (q_mv (v := .int .i64 ((i : Nat) : Int)) rfl) rfl (by decide) (cok1 trivial) ?_
        refine dv (gyes_none rfl) (q_as (v := .int .i64 ((i : Nat) : Int)) rfl) rfl (by decide) (cok1 trivial) ?_
        refine ⟨_, Wk.refl _ _, ?_⟩
        show awp _ _ _ _ _ _ _
        refine awp_ret_wk ?_
        refine ⟨_, Wk.refl _ _, ?_⟩
        repeat (with_reducible first | refine then_ret ?_ | refine blk_ret ?_ | refine then_exit ?_ | refine blk_exit ?_ | refine blk_exit' (by decide) ?_ | refine blk_normal ?_ | refine then_normal ?_ | refine retq_ret ?_ | refine retq_normal ?_ | refine ng_normal ?_ | refine ng_ret ?_ | refine ng_exit ?_)
        exact ret_none (v := .int .i64 ((i : Nat) : Int)) rfl s2.kp (.tmp rfl .nil) rfl rfl ⟨by rw [ixF_y (i := i) (by omega) (by assumption) hi.2], rfl⟩
      ·
        replace c2 := of_decide_eq_false c2
        refine ⟨_, Wk.refl _ _, ?_⟩
        show awp _ _ _ _ _ _ _
        refine awp_cond_f rfl ?_
        refine awp_skip_wk ?_
        refine ⟨_, Wk.refl _ _, ?_⟩
        show awp _ _ _ _ _ _ _
        refine awp_regs hF ?_
        refine dv (gyes_none rfl) (q_mv (v := .int .i64 ((i : Nat) : Int)) rfl) rfl (by decide) (cok1 trivial) ?_
        refine dv (gyes_none rfl) (OpQ.cast (v' := .int .i64 ((i + 1 : Nat) : Int)) (q_int rfl rfl rfl) (congrArg _ ((i64_in (by omega)).trans (by first | rfl | omega | (push_cast; rfl))))) rfl (by decide) (cok2 trivial (cconst rfl)) ?_
        refine dv (gyes_none rfl) (q_as (v := .int .i64 ((i + 1 : Nat) : Int)) rfl) rfl (by decide) (cok1 trivial) ?_
        refine ⟨_, Wk.U [(0, vl), (1, .string s), (5, .int .i64 (((i + 1) : Nat) : Int))] ⟨rfl, rfl, rfl, trivial⟩, (i + 1), ⟨_, rfl, s2, ⟨by omega, lt_succ_casesN hi.2 (by assumption)⟩⟩, (by omega)⟩
    ·
      replace c1 := of_decide_eq_false c1
      refine ⟨_, Wk.refl _ _, ?_⟩
      show awp _ _ _ _ _ _ _
      refine awp_cond_f rfl ?_
      refine awp_exit_wk ?_
      refine ⟨_, Wk.refl _ _, ?_⟩
      show awp _ _ _ _ _ _ _
      refine awp_seq ?_
      refine awp_regs hF ?_
      refine dv (gyes_none rfl) (q_as (v := .int .i64 (-1)) rfl) rfl (by decide) (cok1 (cconst rfl)) ?_
      refine ⟨_, Wk.refl _ _, ?_⟩
      show awp _ _ _ _ _ _ _
      refine awp_ret_wk ?_
      refine ⟨_, Wk.refl _ _, ?_⟩
      repeat (with_reducible first | refine then_ret ?_ | refine blk_ret ?_ | refine then_exit ?_ | refine blk_exit ?_ | refine blk_exit' (by decide) ?_ | refine blk_normal ?_ | refine then_normal ?_ | refine retq_ret ?_ | refine retq_normal ?_ | refine ng_normal ?_ | refine ng_ret ?_ | refine ng_exit ?_)
      exact ret_none (v := .int .i64 (-1)) rfl s2.kp (.tmp rfl .nil) rfl rfl ⟨by rw [ixF_n (fun j hj => hi.2 j (by omega))], rfl⟩
set_option maxRecDepth 100000 in
set_option maxHeartbeats 4000000 in
theorem radd_ok {H0 : AHeap} (vl : Value) (l : List Fl) (hl : SlS filc 2 H0 vl l) (hl1 : l.length ≤ 1000) (n b : ByteArray) (hn : n.size ≤ 9223372036854775807) (hb : b.size ≤ 9223372036854775807) : ACalls Tryz.prog 9 [vl, .string n, .string b] H0 (fun v H' => (addV l n b ≠ 0 ∧ v = .tuple #[vl, .int .i64 ((addV l n b : Nat) : Int)] ∧ K0 H0 H') ∨ (addV l n b = 0 ∧ ∃ bn, K0 H0 H' ∧ H0.length ≤ bn ∧ v = .tuple #[.slice (some ⟨bn, 0, none⟩) (l ++ [(n, b)]).length (l ++ [(n, b)]).length, .int .i64 0] ∧ H'[bn]? = some (.cells true (fl filc (l ++ [(n, b)])) 2))) := by
  have hF : Wd Fence.wide := .inl rfl
  have hM : Tryz.prog.follows .mixedOrders = true := by kernel_rfl
  have s0 := St.begin H0
  refine acalls_st Tryz.func9 rfl Tryz.ntmps9 rfl ?_
  refine awp_seq ?_
  refine awp_regs hF ?_
  refine dv (gyes_none rfl) (q_as (v := .slice none 0 0) rfl) rfl (by decide) (cok1 (cconst rfl)) ?_
  refine dv (gyes_none rfl) (q_as (v := .int .i64 0) rfl) rfl (by decide) (cok1 (cconst rfl)) ?_
  refine ⟨_, Wk.refl _ _, ?_⟩
  show awp _ _ _ _ _ _ _
  refine awp_seq ?_
  refine awp_regs hF ?_
  refine dv (gyes_none rfl) (q_mv (v := .string n) rfl) rfl (by decide) (cok1 trivial) ?_
  refine dv (gyes_none rfl) (q_len_str Tryz.underlying9 rfl) rfl (by decide) (cok1 trivial) ?_
  refine dvb (gyes_none rfl) (q_int rfl rfl rfl) rfl (by decide) (cok2 trivial (cconst rfl)) (fun c1 => ?_) (fun c1 => ?_)
  ·
    replace c1 := of_decide_eq_true c1
    refine dv (gyes_none rfl) (q_mv (v := .bool true) rfl) rfl (by decide) (cok1 trivial) ?_
    refine dv (gyes_some rfl rfl) (q_mv (v := .string n) rfl) rfl (by decide) (cok1 trivial) ?_
    refine dv (gyes_some rfl rfl) (q_len_str Tryz.underlying9 rfl) rfl (by decide) (cok1 trivial) ?_
    refine dvb (gyes_some rfl rfl) (q_int rfl rfl rfl) rfl (by decide) (cok2 trivial (cconst rfl)) (fun c2 => ?_) (fun c2 => ?_)
    ·
      replace c2 := of_decide_eq_true c2
      refine dv (gyes_none rfl) (q_pt (v := .bool true) rfl rfl) rfl (by decide) (call_ok rfl) ?_
      refine dv (gyes_none rfl) (q_as (v := .bool true) rfl) rfl (by decide) (cok1 trivial) ?_
      refine ⟨_, Wk.refl _ _, ?_⟩
      show awp _ _ _ _ _ _ _
      refine awp_seq ?_
      refine awp_seq ?_
      refine awp_regs hF ?_
      refine dv (gyes_none rfl) (q_as (v := .int .i64 0) rfl) rfl (by decide) (cok1 (cconst rfl)) ?_
      refine ⟨_, Wk.refl _ _, ?_⟩
      show awp _ _ _ _ _ _ _
      refine awp_block ?_
      refine awp_wk (Wk.U [(0, vl), (1, .string n), (2, .string b), (8, .bool true), (9, .int .i64 0)] ⟨rfl, rfl, rfl, rfl, rfl, trivial⟩) ?_
      refine awp_loop (fun ((i, rt) : Nat × Bool) st => ∃ (H1 : AHeap), st = ⟨61, U [(0, vl), (1, .string n), (2, .string b), (8, .bool rt), (9, .int .i64 ((i : Nat) : Int))], [], H1⟩ ∧ St H0 (none0) (Rd H0) H1 [] ∧ (i ≤ n.size ∧ rt = nmK n i)) (fun ((i, rt) : Nat × Bool) => n.size - i) (x0 := (0, true)) ?h0 ?round
      case h0 =>
        exact ⟨_, rfl, s0, ⟨Nat.zero_le _, by unfold nmK; first | (rw [decide_eq_true (show 1 ≤ n.size by omega), decide_eq_true (show n.size ≤ 32 by omega)]; rfl) | (rw [decide_eq_false (show ¬ 1 ≤ n.size by omega)]; rfl) | (rw [decide_eq_false (show ¬ n.size ≤ 32 by omega), Bool.and_false]; rfl)⟩⟩
      case round =>
        rintro ⟨i, rt⟩ _ ⟨H1, rfl, s2, hi⟩
        dsimp only at *
        refine awp_seq ?_
        refine awp_seq ?_
        refine awp_regs hF ?_
        refine dv (gyes_none rfl) (q_mv (v := .int .i64 ((i : Nat) : Int)) rfl) rfl (by decide) (cok1 trivial) ?_
        refine dv (gyes_none rfl) (q_mv (v := .string n) rfl) rfl (by decide) (cok1 trivial) ?_
        refine dv (gyes_none rfl) (q_len_str Tryz.underlying9 rfl) rfl (by decide) (cok1 trivial) ?_
        refine dvb (gyes_none rfl) (q_int rfl rfl rfl) rfl (by decide) (cok2 trivial trivial) (fun c3 => ?_) (fun c3 => ?_)
        ·
          replace c3 := of_decide_eq_true c3
          refine ⟨_, Wk.refl _ _, ?_⟩
          show awp _ _ _ _ _ _ _
          refine awp_cond_t rfl ?_
          refine awp_skip_wk ?_
          refine ⟨_, Wk.refl _ _, ?_⟩
          show awp _ _ _ _ _ _ _
          refine awp_seq ?_
          refine awp_block ?_
          refine awp_regs hF ?_
          refine dvb (gyes_none rfl) (q_mv (v := .bool rt) rfl) rfl (by decide) (cok1 trivial) (fun c4 => ?_) (fun c4 => ?_)
          ·
            refine dv (gyes_none rfl) (q_mv (v := .bool true) rfl) rfl (by decide) (cok1 trivial) ?_
            refine dv (gyes_some rfl rfl) (q_mv (v := .string n) rfl) rfl (by decide) (cok1 trivial) ?_
            refine dv (gyes_some rfl rfl) (q_mv (v := .int .i64 ((i : Nat) : Int)) rfl) rfl (by decide) (cok1 trivial) ?_
            refine dv (gyes_some rfl rfl) (q_byt (i := i) Tryz.underlying9 rfl rfl (by omega)) rfl (by decide) (cok2 trivial trivial) ?_
            refine dvb (gyes_some rfl rfl) (q_int rfl rfl rfl) rfl (by decide) (cok2 trivial (cconst rfl)) (fun c5 => ?_) (fun c5 => ?_)
            ·
              replace c5 := of_decide_eq_true c5
              refine dv (gyes_none rfl) (q_pt (v := .bool true) rfl rfl) rfl (by decide) (call_ok rfl) ?_
              refine dv (gyes_none rfl) (q_mv (v := .bool true) rfl) rfl (by decide) (cok1 trivial) ?_
              refine dv (gyes_some rfl rfl) (q_mv (v := .string n) rfl) rfl (by decide) (cok1 trivial) ?_
              refine dv (gyes_some rfl rfl) (q_mv (v := .int .i64 ((i : Nat) : Int)) rfl) rfl (by decide) (cok1 trivial) ?_
              refine dv (gyes_some rfl rfl) (q_byt (i := i) Tryz.underlying9 rfl rfl (by omega)) rfl (by decide) (cok2 trivial trivial) ?_
              refine dvb (gyes_some rfl rfl) (q_int rfl rfl rfl) rfl (by decide) (cok2 trivial (cconst rfl)) (fun c6 => ?_) (fun c6 => ?_)
              ·
                replace c6 := of_decide_eq_true c6
                refine dv (gyes_none rfl) (q_pt (v := .bool true) rfl rfl) rfl (by decide) (call_ok rfl) ?_
                refine dv (gyes_none rfl) (q_as (v := .bool true) rfl) rfl (by decide) (cok1 trivial) ?_
                refine ⟨_, Wk.refl _ _, ?_⟩
                show awp _ _ _ _ _ _ _
                refine awp_regs hF ?_
                refine dv (gyes_none rfl) (q_mv (v := .int .i64 ((i : Nat) : Int)) rfl) rfl (by decide) (cok1 trivial) ?_
                refine dv (gyes_none rfl) (OpQ.cast (v' := .int .i64 ((i + 1 : Nat) : Int)) (q_int rfl rfl rfl) (congrArg _ ((i64_in (by omega)).trans (by first | rfl | omega | (push_cast; rfl))))) rfl (by decide) (cok2 trivial (cconst rfl)) ?_
                refine dv (gyes_none rfl) (q_as (v := .int .i64 ((i + 1 : Nat) : Int)) rfl) rfl (by decide) (cok1 trivial) ?_
                refine ⟨_, Wk.U [(0, vl), (1, .string n), (2, .string b), (8, .bool true), (9, .int .i64 (((i + 1) : Nat) : Int))] ⟨rfl, rfl, rfl, rfl, rfl, trivial⟩, ((i + 1), true), ⟨_, rfl, s2, ⟨by dsimp only; omega, by dsimp only; exact (nmK_y (hi.2 ▸ (by assumption)) (by omega) (by omega)).symm⟩⟩, (by omega)⟩
              ·
                replace c6 := of_decide_eq_false c6
                refine dv (gyes_none rfl) (q_pt (v := .bool false) rfl rfl) rfl (by decide) (call_ok rfl) ?_
                refine dv (gyes_none rfl) (q_as (v := .bool false) rfl) rfl (by decide) (cok1 trivial) ?_
                refine ⟨_, Wk.refl _ _, ?_⟩
                show awp _ _ _ _ _ _ _
                refine awp_regs hF ?_
                refine dv (gyes_none rfl) (q_mv (v := .int .i64 ((i : Nat) : Int)) rfl) rfl (by decide) (cok1 trivial) ?_
                refine dv (gyes_none rfl) (OpQ.cast (v' := .int .i64 ((i + 1 : Nat) : Int)) (q_int rfl rfl rfl) (congrArg _ ((i64_in (by omega)).trans (by first | rfl | omega | (push_cast; rfl))))) rfl (by decide) (cok2 trivial (cconst rfl)) ?_
                refine dv (gyes_none rfl) (q_as (v := .int .i64 ((i + 1 : Nat) : Int)) rfl) rfl (by decide) (cok1 trivial) ?_
                refine ⟨_, Wk.U [(0, vl), (1, .string n), (2, .string b), (8, .bool false), (9, .int .i64 (((i + 1) : Nat) : Int))] ⟨rfl, rfl, rfl, rfl, rfl, trivial⟩, ((i + 1), false), ⟨_, rfl, s2, ⟨by dsimp only; omega, by dsimp only; exact (nmK_n (by first | exact .inl (hi.2 ▸ Bool.eq_false_iff.2 (by assumption)) | exact .inl (hi.2 ▸ (by assumption)) | (right; omega))).symm⟩⟩, (by omega)⟩
            ·
              replace c5 := of_decide_eq_false c5
              refine dv (gyes_none rfl) (q_pt (v := .bool false) rfl rfl) rfl (by decide) (call_ok rfl) ?_
              refine dv (gyes_none rfl) (q_mv (v := .bool false) rfl) rfl (by decide) (cok1 trivial) ?_
              refine dno rfl (.inl rfl) rfl (by decide) ?_
              refine dno rfl (.inl rfl) rfl (by decide) ?_
              refine dno rfl (.inl rfl) rfl (by decide) ?_
              refine dno rfl (.inl rfl) rfl (by decide) ?_
              refine dv (gyes_none rfl) (q_pf (v := .bool false) rfl rfl) rfl (by decide) (call_ok rfl) ?_
              refine dv (gyes_none rfl) (q_as (v := .bool false) rfl) rfl (by decide) (cok1 trivial) ?_
              refine ⟨_, Wk.refl _ _, ?_⟩
              show awp _ _ _ _ _ _ _
              refine awp_regs hF ?_
              refine dv (gyes_none rfl) (q_mv (v := .int .i64 ((i : Nat) : Int)) rfl) rfl (by decide) (cok1 trivial) ?_
              refine dv (gyes_none rfl) (OpQ.cast (v' := .int .i64 ((i + 1 : Nat) : Int)) (q_int rfl rfl rfl) (congrArg _ ((i64_in (by omega)).trans (by first | rfl | omega | (push_cast; rfl))))) rfl (by decide) (cok2 trivial (cconst rfl)) ?_
              refine dv (gyes_none rfl) (q_as (v := .int .i64 ((i + 1 : Nat) : Int)) rfl) rfl (by decide) (cok1 trivial) ?_
              refine ⟨_, Wk.U [(0, vl), (1, .string n), (2, .string b), (8, .bool false), (9, .int .i64 (((i + 1) : Nat) : Int))] ⟨rfl, rfl, rfl, rfl, rfl, trivial⟩, ((i + 1), false), ⟨_, rfl, s2, ⟨by dsimp only; omega, by dsimp only; exact (nmK_n (by first | exact .inl (hi.2 ▸ Bool.eq_false_iff.2 (by assumption)) | exact .inl (hi.2 ▸ (by assumption)) | (right; omega))).symm⟩⟩, (by omega)⟩
          ·
            refine dv (gyes_none rfl) (q_mv (v := .bool false) rfl) rfl (by decide) (cok1 trivial) ?_
            refine dno rfl (.inl rfl) rfl (by decide) ?_
            refine dno rfl (.inl rfl) rfl (by decide) ?_
            refine dno rfl (.inl rfl) rfl (by decide) ?_
            refine dno rfl (.inl rfl) rfl (by decide) ?_
            refine dv (gyes_none rfl) (q_pf (v := .bool false) rfl rfl) rfl (by decide) (call_ok rfl) ?_
            refine dv (gyes_none rfl) (q_mv (v := .bool false) rfl) rfl (by decide) (cok1 trivial) ?_
            refine dno rfl (.inl rfl) rfl (by decide) ?_
            refine dno rfl (.inl rfl) rfl (by decide) ?_
            refine dno rfl (.inl rfl) rfl (by decide) ?_
            refine dno rfl (.inl rfl) rfl (by decide) ?_
            refine dv (gyes_none rfl) (q_pf (v := .bool false) rfl rfl) rfl (by decide) (call_ok rfl) ?_
            refine dv (gyes_none rfl) (q_as (v := .bool false) rfl) rfl (by decide) (cok1 trivial) ?_
            refine ⟨_, Wk.refl _ _, ?_⟩
            show awp _ _ _ _ _ _ _
            refine awp_regs hF ?_
            refine dv (gyes_none rfl) (q_mv (v := .int .i64 ((i : Nat) : Int)) rfl) rfl (by decide) (cok1 trivial) ?_
            refine dv (gyes_none rfl) (OpQ.cast (v' := .int .i64 ((i + 1 : Nat) : Int)) (q_int rfl rfl rfl) (congrArg _ ((i64_in (by omega)).trans (by first | rfl | omega | (push_cast; rfl))))) rfl (by decide) (cok2 trivial (cconst rfl)) ?_
            refine dv (gyes_none rfl) (q_as (v := .int .i64 ((i + 1 : Nat) : Int)) rfl) rfl (by decide) (cok1 trivial) ?_
            refine ⟨_, Wk.U [(0, vl), (1, .string n), (2, .string b), (8, .bool false), (9, .int .i64 (((i + 1) : Nat) : Int))] ⟨rfl, rfl, rfl, rfl, rfl, trivial⟩, ((i + 1), false), ⟨_, rfl, s2, ⟨by dsimp only; omega, by dsimp only; exact (nmK_n (by first | exact .inl (hi.2 ▸ Bool.eq_false_iff.2 (by assumption)) | exact .inl (hi.2 ▸ (by assumption)) | (right; omega))).symm⟩⟩, (by omega)⟩
        ·
          replace c3 := of_decide_eq_false c3
          refine ⟨_, Wk.refl _ _, ?_⟩
          show awp _ _ _ _ _ _ _
          refine awp_cond_f rfl ?_
          refine awp_exit_wk ?_
          refine ⟨_, Wk.refl _ _, ?_⟩
          show awp _ _ _ _ _ _ _
          refine awp_seq ?_
          refine awp_seq ?_
          refine awp_regs hF ?_
          refine dvb (gyes_none rfl) (q_mv (v := .bool rt) rfl) rfl (by decide) (cok1 trivial) (fun c7 => ?_) (fun c7 => ?_)
          ·
            refine dv (gyes_none rfl) (q_not (b := true) rfl) rfl (by decide) (cok1 trivial) ?_
            refine ⟨_, Wk.refl _ _, ?_⟩
            show awp _ _ _ _ _ _ _
            refine awp_cond_f rfl ?_
            refine awp_skip_wk ?_
            refine ⟨_, Wk.refl _ _, ?_⟩
            show awp _ _ _ _ _ _ _
            refine awp_seq ?_
            refine awp_seq ?_
            refine awp_regs hF ?_
            refine dv (gyes_none rfl) (q_mv (v := .string b) rfl) rfl (by decide) (cok1 trivial) ?_
            refine dv (gyes_none rfl) (q_len_str Tryz.underlying9 rfl) rfl (by decide) (cok1 trivial) ?_
            refine dvb (gyes_none rfl) (q_int rfl rfl rfl) rfl (by decide) (cok2 trivial (cconst rfl)) (fun c8 => ?_) (fun c8 => ?_)
            ·
              replace c8 := of_decide_eq_true c8
              refine ⟨_, Wk.refl _ _, ?_⟩
              show awp _ _ _ _ _ _ _
              refine awp_cond_t rfl ?_
              refine awp_seq ?_
              refine awp_regs hF ?_
              refine dv (gyes_none rfl) (q_mv (v := vl) rfl) rfl (by decide) (cok1 trivial) ?_
              refine dv (gyes_none rfl) (q_as (v := vl) rfl) rfl (by decide) (cok1 trivial) ?_
              refine dv (gyes_none rfl) (q_as (v := .int .i64 6) rfl) rfl (by decide) (cok1 (cconst rfl)) ?_
              refine ⟨_, Wk.refl _ _, ?_⟩
              show awp _ _ _ _ _ _ _
              refine awp_ret_wk ?_
              have hr : nmOk n = true := by show nmK n n.size = _; rw [← show i = n.size by omega, ← hi.2]; first | assumption | exact Bool.eq_false_iff.2 (by assumption)
              have hv : addV l n b = 6 := by unfold addV; rw [if_neg (by rw [hr]; simp), if_pos (by omega)]
              refine ⟨_, Wk.refl _ _, ?_⟩
              repeat (with_reducible first | refine then_ret ?_ | refine blk_ret ?_ | refine then_exit ?_ | refine blk_exit ?_ | refine blk_exit' (by decide) ?_ | refine blk_normal ?_ | refine then_normal ?_ | refine retq_ret ?_ | refine retq_normal ?_ | refine ng_normal ?_ | refine ng_ret ?_ | refine ng_exit ?_)
              refine ret_is (v := .tuple #[vl, .int .i64 6]) rfl (.tmp rfl (.tmp rfl .nil)) rfl ?_
              exact .inl ⟨by rw [hv]; decide, by rw [hv]; first | done | rfl, s2.kp⟩
            ·
              replace c8 := of_decide_eq_false c8
              refine ⟨_, Wk.refl _ _, ?_⟩
              show awp _ _ _ _ _ _ _
              refine awp_cond_f rfl ?_
              refine awp_skip_wk ?_
              refine ⟨_, Wk.refl _ _, ?_⟩
              show awp _ _ _ _ _ _ _
              refine awp_seq ?_
              refine awp_seq ?_
              refine awp_regs hF ?_
              refine dv (gyes_none rfl) (q_mv (v := vl) rfl) rfl (by decide) (cok1 trivial) ?_
              refine dv (gyes_none rfl) (q_mv (v := .string n) rfl) rfl (by decide) (cok1 trivial) ?_
              refine dv (gyes_none rfl) (q_call0 Tryz.call11 rfl (rfind_ok vl l (s2.sls hl) hl1 n)) rfl (by decide) (call_ok rfl) ?_
              refine dvb (gyes_none rfl) (q_int rfl rfl rfl) rfl (by decide) (cok2 trivial (cconst rfl)) (fun c9 => ?_) (fun c9 => ?_)
              ·
                replace c9 := of_decide_eq_true c9
                refine ⟨_, Wk.refl _ _, ?_⟩
                show awp _ _ _ _ _ _ _
                refine awp_cond_t rfl ?_
                refine awp_seq ?_
                refine awp_regs hF ?_
                refine dv (gyes_none rfl) (q_mv (v := vl) rfl) rfl (by decide) (cok1 trivial) ?_
                refine dv (gyes_none rfl) (q_as (v := vl) rfl) rfl (by decide) (cok1 trivial) ?_
                refine dv (gyes_none rfl) (q_as (v := .int .i64 26) rfl) rfl (by decide) (cok1 (cconst rfl)) ?_
                refine ⟨_, Wk.refl _ _, ?_⟩
                show awp _ _ _ _ _ _ _
                refine awp_ret_wk ?_
                have hr : nmOk n = true := by show nmK n n.size = _; rw [← show i = n.size by omega, ← hi.2]; first | assumption | exact Bool.eq_false_iff.2 (by assumption)
                have hv : addV l n b = 26 := by unfold addV; rw [if_neg (by rw [hr]; simp), if_neg (by omega), if_pos (Decidable.byContradiction fun hq => by have := ixF_no hq; omega)]
                refine ⟨_, Wk.refl _ _, ?_⟩
                repeat (with_reducible first | refine then_ret ?_ | refine blk_ret ?_ | refine then_exit ?_ | refine blk_exit ?_ | refine blk_exit' (by decide) ?_ | refine blk_normal ?_ | refine then_normal ?_ | refine retq_ret ?_ | refine retq_normal ?_ | refine ng_normal ?_ | refine ng_ret ?_ | refine ng_exit ?_)
                refine ret_is (v := .tuple #[vl, .int .i64 26]) rfl (.tmp rfl (.tmp rfl .nil)) rfl ?_
                exact .inl ⟨by rw [hv]; decide, by rw [hv]; first | done | rfl, s2.kp⟩
              ·
                replace c9 := of_decide_eq_false c9
                refine ⟨_, Wk.refl _ _, ?_⟩
                show awp _ _ _ _ _ _ _
                refine awp_cond_f rfl ?_
                refine awp_skip_wk ?_
                refine ⟨_, Wk.refl _ _, ?_⟩
                show awp _ _ _ _ _ _ _
                refine awp_seq ?_
                refine awp_seq ?_
                refine awp_regs hF ?_
                refine dv (gyes_none rfl) (q_mv (v := vl) rfl) rfl (by decide) (cok1 trivial) ?_
                refine dv (gyes_none rfl) (q_len_sls (l := l) Tryz.underlying36 (s2.sls hl) rfl) rfl (by decide) (cok1 trivial) ?_
                refine dvb (gyes_none rfl) (q_int rfl rfl rfl) rfl (by decide) (cok2 trivial (cconst rfl)) (fun c10 => ?_) (fun c10 => ?_)
                ·
                  replace c10 := of_decide_eq_true c10
                  refine ⟨_, Wk.refl _ _, ?_⟩
                  show awp _ _ _ _ _ _ _
                  refine awp_cond_t rfl ?_
                  refine awp_seq ?_
                  refine awp_regs hF ?_
                  refine dv (gyes_none rfl) (q_mv (v := vl) rfl) rfl (by decide) (cok1 trivial) ?_
                  refine dv (gyes_none rfl) (q_as (v := vl) rfl) rfl (by decide) (cok1 trivial) ?_
                  refine dv (gyes_none rfl) (q_as (v := .int .i64 6) rfl) rfl (by decide) (cok1 (cconst rfl)) ?_
                  refine ⟨_, Wk.refl _ _, ?_⟩
                  show awp _ _ _ _ _ _ _
                  refine awp_ret_wk ?_
                  have hr : nmOk n = true := by show nmK n n.size = _; rw [← show i = n.size by omega, ← hi.2]; first | assumption | exact Bool.eq_false_iff.2 (by assumption)
                  have hv : addV l n b = 6 := by unfold addV; rw [if_neg (by rw [hr]; simp), if_neg (by omega), if_neg (fun hq => by have := ixF_of hq; omega), if_pos (by omega)]
                  refine ⟨_, Wk.refl _ _, ?_⟩
                  repeat (with_reducible first | refine then_ret ?_ | refine blk_ret ?_ | refine then_exit ?_ | refine blk_exit ?_ | refine blk_exit' (by decide) ?_ | refine blk_normal ?_ | refine then_normal ?_ | refine retq_ret ?_ | refine retq_normal ?_ | refine ng_normal ?_ | refine ng_ret ?_ | refine ng_exit ?_)
                  refine ret_is (v := .tuple #[vl, .int .i64 6]) rfl (.tmp rfl (.tmp rfl .nil)) rfl ?_
                  exact .inl ⟨by rw [hv]; decide, by rw [hv]; first | done | rfl, s2.kp⟩
                ·
                  replace c10 := of_decide_eq_false c10
                  refine ⟨_, Wk.refl _ _, ?_⟩
                  show awp _ _ _ _ _ _ _
                  refine awp_cond_f rfl ?_
                  refine awp_skip_wk ?_
                  refine ⟨_, Wk.refl _ _, ?_⟩
                  show awp _ _ _ _ _ _ _
                  refine awp_seq ?_
                  refine awp_regs hF ?_
                  refine x_new (fun b => .slice (some ⟨b, 0, none⟩) 0 0) s2 (gyes_none rfl) (q_emptyLit Tryz.underlying36 Tryz.sizeOf42) rfl (by decide) (by simp [Op.operands, Call.operands]) (fun b3 H4 hb6 s5 => ?_)
                  refine dv (gyes_none rfl) (q_mv (v := vl) rfl) rfl (by decide) (cok1 trivial) ?_
                  refine x_new (fun b => .slice (some ⟨b, 0, none⟩) l.length l.length) s5 (gyes_none rfl) (q_append_nullSS (l := l) (f := filc) (m' := l.length) rfl Tryz.underlying36 Tryz.underlying36 Tryz.type42 rfl rfl (by decide) rfl rfl rfl (s5.getj (j := 0) rfl) filc_w (s5.sls hl) (fun x _ u hu => lc_scalar (filc_sc x u hu)) (by show (2 * _ + 1000) * 32 ≤ _; omega)) rfl (by decide) (cok2 trivial trivial) (fun b7 H8 hb10 s9 => ?_)
                  refine dv (gyes_none rfl) (q_mv (v := .string n) rfl) rfl (by decide) (cok1 trivial) ?_
                  refine dv (gyes_none rfl) (q_mv (v := .string b) rfl) rfl (by decide) (cok1 trivial) ?_
                  refine dv (gyes_none rfl) (q_buildL (ds := [.string n, .string b]) [(0, 1), (1, 1)] [.string n, .string b] Tryz.underlying42 Tryz.zeroValue42 (by first | exact flat_agg rfl | exact flat_scalar rfl) (by kernel_rfl) ⟨rfl, rfl, trivial⟩ (lvsC (by exact trivial) (lvsC (by exact trivial) lvs0)) rfl) rfl (by decide) (cok2 trivial trivial) ?_
                  refine x_new (fun b => .slice (some ⟨b, 0, none⟩) 1 1) s9 (gyes_none rfl) (q_buildSliceL (ds := [.string n, .string b]) [.agg #[.string n, .string b]] rfl Tryz.underlying36 Tryz.sizeOf42 Tryz.zeroValue42 rfl (by decide) (by decide) ⟨rfl, trivial⟩ (lvsC (by exact trivial) lvs0) rfl rfl) rfl (by decide) (cok1 trivial) (fun b11 H12 hb14 s13 => ?_)
                  refine x_appendS (m := 2) (l := [(n, b)]) (l0 := l) (l' := l ++ [(n, b)]) (f := filc) [] hF s13 (by kernel_rfl) (j := 1) ((l ++ [(n, b)]).length) (by simp) (gyes_none rfl) Tryz.underlying36 Tryz.underlying36 Tryz.type42 rfl rfl (by decide) rfl filc_w rfl rfl rfl (s13.slsj (l := [(n, b)]) filc_w (j := 0) rfl rfl (Nat.le_refl _)) (fun x _ u hu => lc_scalar (filc_sc x u hu)) (by first | rfl | simp) (by show (2 * _ + 1000) * 32 ≤ _; first | omega | (simp only [List.length_append, List.length_cons, List.length_nil, List.length_take, List.length_drop]; omega)) trivial trivial (by decide) rfl rfl rfl (fun b15 H16 hb18 s17 => ⟨?_, ?_⟩)
                  · exact trivial
                  refine dv (gyes_none rfl) (q_as (v := .slice (some ⟨b15, 0, none⟩) ((l ++ [(n, b)]).length) ((l ++ [(n, b)]).length)) rfl) rfl (by decide) (cok1 trivial) ?_
                  refine dv (gyes_none rfl) (q_as (v := .int .i64 0) rfl) rfl (by decide) (cok1 (cconst rfl)) ?_
                  refine ⟨_, Wk.refl _ _, ?_⟩
                  show awp _ _ _ _ _ _ _
                  refine awp_ret_wk ?_
                  have hr : nmOk n = true := by show nmK n n.size = _; rw [← show i = n.size by omega, ← hi.2]; first | assumption | exact Bool.eq_false_iff.2 (by assumption)
                  have hv : addV l n b = 0 := by unfold addV; rw [if_neg (by rw [hr]; simp), if_neg (by omega), if_neg (fun hq => by have := ixF_of hq; omega), if_neg (by omega)]
                  refine ⟨_, Wk.refl _ _, ?_⟩
                  repeat (with_reducible first | refine then_ret ?_ | refine blk_ret ?_ | refine then_exit ?_ | refine blk_exit ?_ | refine blk_exit' (by decide) ?_ | refine blk_normal ?_ | refine then_normal ?_ | refine retq_ret ?_ | refine retq_normal ?_ | refine ng_normal ?_ | refine ng_ret ?_ | refine ng_exit ?_)
                  refine ret_is (v := .tuple #[.slice (some ⟨b15, 0, none⟩) ((l ++ [(n, b)]).length) ((l ++ [(n, b)]).length), .int .i64 0]) rfl (.tmp rfl (.tmp rfl .nil)) rfl ?_
                  exact .inr ⟨hv, _, s17.kp, s17.out (j := 1) rfl, rfl, s17.getj (j := 1) rfl⟩
          ·
            refine dv (gyes_none rfl) (q_not (b := false) rfl) rfl (by decide) (cok1 trivial) ?_
            refine ⟨_, Wk.refl _ _, ?_⟩
            show awp _ _ _ _ _ _ _
            refine awp_cond_t rfl ?_
            refine awp_seq ?_
            refine awp_regs hF ?_
            refine dv (gyes_none rfl) (q_mv (v := vl) rfl) rfl (by decide) (cok1 trivial) ?_
            refine dv (gyes_none rfl) (q_as (v := vl) rfl) rfl (by decide) (cok1 trivial) ?_
            refine dv (gyes_none rfl) (q_as (v := .int .i64 25) rfl) rfl (by decide) (cok1 (cconst rfl)) ?_
            refine ⟨_, Wk.refl _ _, ?_⟩
            show awp _ _ _ _ _ _ _
            refine awp_ret_wk ?_
            have hr : nmOk n = false := by show nmK n n.size = _; rw [← show i = n.size by omega, ← hi.2]; first | assumption | exact Bool.eq_false_iff.2 (by assumption)
            have hv : addV l n b = 25 := by unfold addV; rw [if_pos hr]
            refine ⟨_, Wk.refl _ _, ?_⟩
            repeat (with_reducible first | refine then_ret ?_ | refine blk_ret ?_ | refine then_exit ?_ | refine blk_exit ?_ | refine blk_exit' (by decide) ?_ | refine blk_normal ?_ | refine then_normal ?_ | refine retq_ret ?_ | refine retq_normal ?_ | refine ng_normal ?_ | refine ng_ret ?_ | refine ng_exit ?_)
            refine ret_is (v := .tuple #[vl, .int .i64 25]) rfl (.tmp rfl (.tmp rfl .nil)) rfl ?_
            exact .inl ⟨by rw [hv]; decide, by rw [hv]; first | done | rfl, s2.kp⟩
    ·
      replace c2 := of_decide_eq_false c2
      refine dv (gyes_none rfl) (q_pt (v := .bool false) rfl rfl) rfl (by decide) (call_ok rfl) ?_
      refine dv (gyes_none rfl) (q_as (v := .bool false) rfl) rfl (by decide) (cok1 trivial) ?_
      refine ⟨_, Wk.refl _ _, ?_⟩
      show awp _ _ _ _ _ _ _
      refine awp_seq ?_
      refine awp_seq ?_
      refine awp_regs hF ?_
      refine dv (gyes_none rfl) (q_as (v := .int .i64 0) rfl) rfl (by decide) (cok1 (cconst rfl)) ?_
      refine ⟨_, Wk.refl _ _, ?_⟩
      show awp _ _ _ _ _ _ _
      refine awp_block ?_
      refine awp_wk (Wk.U [(0, vl), (1, .string n), (2, .string b), (8, .bool false), (9, .int .i64 0)] ⟨rfl, rfl, rfl, rfl, rfl, trivial⟩) ?_
      refine awp_loop (fun ((i, rt) : Nat × Bool) st => ∃ (H19 : AHeap), st = ⟨61, U [(0, vl), (1, .string n), (2, .string b), (8, .bool rt), (9, .int .i64 ((i : Nat) : Int))], [], H19⟩ ∧ St H0 (none0) (Rd H0) H19 [] ∧ (i ≤ n.size ∧ rt = nmK n i)) (fun ((i, rt) : Nat × Bool) => n.size - i) (x0 := (0, false)) ?h0 ?round
      case h0 =>
        exact ⟨_, rfl, s0, ⟨Nat.zero_le _, by unfold nmK; first | (rw [decide_eq_true (show 1 ≤ n.size by omega), decide_eq_true (show n.size ≤ 32 by omega)]; rfl) | (rw [decide_eq_false (show ¬ 1 ≤ n.size by omega)]; rfl) | (rw [decide_eq_false (show ¬ n.size ≤ 32 by omega), Bool.and_false]; rfl)⟩⟩
      case round =>
        rintro ⟨i, rt⟩ _ ⟨H19, rfl, s20, hi⟩
        dsimp only at *
        refine awp_seq ?_
        refine awp_seq ?_
        refine awp_regs hF ?_
        refine dv (gyes_none rfl) (q_mv (v := .int .i64 ((i : Nat) : Int)) rfl) rfl (by decide) (cok1 trivial) ?_
        refine dv (gyes_none rfl) (q_mv (v := .string n) rfl) rfl (by decide) (cok1 trivial) ?_
        refine dv (gyes_none rfl) (q_len_str Tryz.underlying9 rfl) rfl (by decide) (cok1 trivial) ?_
        refine dvb (gyes_none rfl) (q_int rfl rfl rfl) rfl (by decide) (cok2 trivial trivial) (fun c11 => ?_) (fun c11 => ?_)
        ·
          replace c11 := of_decide_eq_true c11
          refine ⟨_, Wk.refl _ _, ?_⟩
          show awp _ _ _ _ _ _ _
          refine awp_cond_t rfl ?_
          refine awp_skip_wk ?_
          refine ⟨_, Wk.refl _ _, ?_⟩
          show awp _ _ _ _ _ _ _
          refine awp_seq ?_
          refine awp_block ?_
          refine awp_regs hF ?_
          refine dvb (gyes_none rfl) (q_mv (v := .bool rt) rfl) rfl (by decide) (cok1 trivial) (fun c12 => ?_) (fun c12 => ?_)
          ·
            refine dv (gyes_none rfl) (q_mv (v := .bool true) rfl) rfl (by decide) (cok1 trivial) ?_
            refine dv (gyes_some rfl rfl) (q_mv (v := .string n) rfl) rfl (by decide) (cok1 trivial) ?_
            refine dv (gyes_some rfl rfl) (q_mv (v := .int .i64 ((i : Nat) : Int)) rfl) rfl (by decide) (cok1 trivial) ?_
            refine dv (gyes_some rfl rfl) (q_byt (i := i) Tryz.underlying9 rfl rfl (by omega)) rfl (by decide) (cok2 trivial trivial) ?_
            refine dvb (gyes_some rfl rfl) (q_int rfl rfl rfl) rfl (by decide) (cok2 trivial (cconst rfl)) (fun c13 => ?_) (fun c13 => ?_)
            ·
              replace c13 := of_decide_eq_true c13
              refine dv (gyes_none rfl) (q_pt (v := .bool true) rfl rfl) rfl (by decide) (call_ok rfl) ?_
              refine dv (gyes_none rfl) (q_mv (v := .bool true) rfl) rfl (by decide) (cok1 trivial) ?_
              refine dv (gyes_some rfl rfl) (q_mv (v := .string n) rfl) rfl (by decide) (cok1 trivial) ?_
              refine dv (gyes_some rfl rfl) (q_mv (v := .int .i64 ((i : Nat) : Int)) rfl) rfl (by decide) (cok1 trivial) ?_
              refine dv (gyes_some rfl rfl) (q_byt (i := i) Tryz.underlying9 rfl rfl (by omega)) rfl (by decide) (cok2 trivial trivial) ?_
              refine dvb (gyes_some rfl rfl) (q_int rfl rfl rfl) rfl (by decide) (cok2 trivial (cconst rfl)) (fun c14 => ?_) (fun c14 => ?_)
              ·
                replace c14 := of_decide_eq_true c14
                refine dv (gyes_none rfl) (q_pt (v := .bool true) rfl rfl) rfl (by decide) (call_ok rfl) ?_
                refine dv (gyes_none rfl) (q_as (v := .bool true) rfl) rfl (by decide) (cok1 trivial) ?_
                refine ⟨_, Wk.refl _ _, ?_⟩
                show awp _ _ _ _ _ _ _
                refine awp_regs hF ?_
                refine dv (gyes_none rfl) (q_mv (v := .int .i64 ((i : Nat) : Int)) rfl) rfl (by decide) (cok1 trivial) ?_
                refine dv (gyes_none rfl) (OpQ.cast (v' := .int .i64 ((i + 1 : Nat) : Int)) (q_int rfl rfl rfl) (congrArg _ ((i64_in (by omega)).trans (by first | rfl | omega | (push_cast; rfl))))) rfl (by decide) (cok2 trivial (cconst rfl)) ?_
                refine dv (gyes_none rfl) (q_as (v := .int .i64 ((i + 1 : Nat) : Int)) rfl) rfl (by decide) (cok1 trivial) ?_
                refine ⟨_, Wk.U [(0, vl), (1, .string n), (2, .string b), (8, .bool true), (9, .int .i64 (((i + 1) : Nat) : Int))] ⟨rfl, rfl, rfl, rfl, rfl, trivial⟩, ((i + 1), true), ⟨_, rfl, s20, ⟨by dsimp only; omega, by dsimp only; exact (nmK_y (hi.2 ▸ (by assumption)) (by omega) (by omega)).symm⟩⟩, (by omega)⟩
              ·
                replace c14 := of_decide_eq_false c14
                refine dv (gyes_none rfl) (q_pt (v := .bool false) rfl rfl) rfl (by decide) (call_ok rfl) ?_
                refine dv (gyes_none rfl) (q_as (v := .bool false) rfl) rfl (by decide) (cok1 trivial) ?_
                refine ⟨_, Wk.refl _ _, ?_⟩
                show awp _ _ _ _ _ _ _
                refine awp_regs hF ?_
                refine dv (gyes_none rfl) (q_mv (v := .int .i64 ((i : Nat) : Int)) rfl) rfl (by decide) (cok1 trivial) ?_
                refine dv (gyes_none rfl) (OpQ.cast (v' := .int .i64 ((i + 1 : Nat) : Int)) (q_int rfl rfl rfl) (congrArg _ ((i64_in (by omega)).trans (by first | rfl | omega | (push_cast; rfl))))) rfl (by decide) (cok2 trivial (cconst rfl)) ?_
                refine dv (gyes_none rfl) (q_as (v := .int .i64 ((i + 1 : Nat) : Int)) rfl) rfl (by decide) (cok1 trivial) ?_
                refine ⟨_, Wk.U [(0, vl), (1, .string n), (2, .string b), (8, .bool false), (9, .int .i64 (((i + 1) : Nat) : Int))] ⟨rfl, rfl, rfl, rfl, rfl, trivial⟩, ((i + 1), false), ⟨_, rfl, s20, ⟨by dsimp only; omega, by dsimp only; exact (nmK_n (by first | exact .inl (hi.2 ▸ Bool.eq_false_iff.2 (by assumption)) | exact .inl (hi.2 ▸ (by assumption)) | (right; omega))).symm⟩⟩, (by omega)⟩
            ·
              replace c13 := of_decide_eq_false c13
              refine dv (gyes_none rfl) (q_pt (v := .bool false) rfl rfl) rfl (by decide) (call_ok rfl) ?_
              refine dv (gyes_none rfl) (q_mv (v := .bool false) rfl) rfl (by decide) (cok1 trivial) ?_
              refine dno rfl (.inl rfl) rfl (by decide) ?_
              refine dno rfl (.inl rfl) rfl (by decide) ?_
              refine dno rfl (.inl rfl) rfl (by decide) ?_
              refine dno rfl (.inl rfl) rfl (by decide) ?_
              refine dv (gyes_none rfl) (q_pf (v := .bool false) rfl rfl) rfl (by decide) (call_ok rfl) ?_
              refine dv (gyes_none rfl) (q_as (v := .bool false) rfl) rfl (by decide) (cok1 trivial) ?_
              refine ⟨_, Wk.refl _ _, ?_⟩
              show awp _ _ _ _ _ _ _
              refine awp_regs hF ?_
              refine dv (gyes_none rfl) (q_mv (v := .int .i64 ((i : Nat) : Int)) rfl) rfl (by decide) (cok1 trivial) ?_
              refine dv (gyes_none rfl) (OpQ.cast (v' := .int .i64 ((i + 1 : Nat) : Int)) (q_int rfl rfl rfl) (congrArg _ ((i64_in (by omega)).trans (by first | rfl | omega | (push_cast; rfl))))) rfl (by decide) (cok2 trivial (cconst rfl)) ?_
              refine dv (gyes_none rfl) (q_as (v := .int .i64 ((i + 1 : Nat) : Int)) rfl) rfl (by decide) (cok1 trivial) ?_
              refine ⟨_, Wk.U [(0, vl), (1, .string n), (2, .string b), (8, .bool false), (9, .int .i64 (((i + 1) : Nat) : Int))] ⟨rfl, rfl, rfl, rfl, rfl, trivial⟩, ((i + 1), false), ⟨_, rfl, s20, ⟨by dsimp only; omega, by dsimp only; exact (nmK_n (by first | exact .inl (hi.2 ▸ Bool.eq_false_iff.2 (by assumption)) | exact .inl (hi.2 ▸ (by assumption)) | (right; omega))).symm⟩⟩, (by omega)⟩
          ·
            refine dv (gyes_none rfl) (q_mv (v := .bool false) rfl) rfl (by decide) (cok1 trivial) ?_
            refine dno rfl (.inl rfl) rfl (by decide) ?_
            refine dno rfl (.inl rfl) rfl (by decide) ?_
            refine dno rfl (.inl rfl) rfl (by decide) ?_
            refine dno rfl (.inl rfl) rfl (by decide) ?_
            refine dv (gyes_none rfl) (q_pf (v := .bool false) rfl rfl) rfl (by decide) (call_ok rfl) ?_
            refine dv (gyes_none rfl) (q_mv (v := .bool false) rfl) rfl (by decide) (cok1 trivial) ?_
            refine dno rfl (.inl rfl) rfl (by decide) ?_
            refine dno rfl (.inl rfl) rfl (by decide) ?_
            refine dno rfl (.inl rfl) rfl (by decide) ?_
            refine dno rfl (.inl rfl) rfl (by decide) ?_
            refine dv (gyes_none rfl) (q_pf (v := .bool false) rfl rfl) rfl (by decide) (call_ok rfl) ?_
            refine dv (gyes_none rfl) (q_as (v := .bool false) rfl) rfl (by decide) (cok1 trivial) ?_
            refine ⟨_, Wk.refl _ _, ?_⟩
            show awp _ _ _ _ _ _ _
            refine awp_regs hF ?_
            refine dv (gyes_none rfl) (q_mv (v := .int .i64 ((i : Nat) : Int)) rfl) rfl (by decide) (cok1 trivial) ?_
            refine dv (gyes_none rfl) (OpQ.cast (v' := .int .i64 ((i + 1 : Nat) : Int)) (q_int rfl rfl rfl) (congrArg _ ((i64_in (by omega)).trans (by first | rfl | omega | (push_cast; rfl))))) rfl (by decide) (cok2 trivial (cconst rfl)) ?_
            refine dv (gyes_none rfl) (q_as (v := .int .i64 ((i + 1 : Nat) : Int)) rfl) rfl (by decide) (cok1 trivial) ?_
            refine ⟨_, Wk.U [(0, vl), (1, .string n), (2, .string b), (8, .bool false), (9, .int .i64 (((i + 1) : Nat) : Int))] ⟨rfl, rfl, rfl, rfl, rfl, trivial⟩, ((i + 1), false), ⟨_, rfl, s20, ⟨by dsimp only; omega, by dsimp only; exact (nmK_n (by first | exact .inl (hi.2 ▸ Bool.eq_false_iff.2 (by assumption)) | exact .inl (hi.2 ▸ (by assumption)) | (right; omega))).symm⟩⟩, (by omega)⟩
        ·
          replace c11 := of_decide_eq_false c11
          refine ⟨_, Wk.refl _ _, ?_⟩
          show awp _ _ _ _ _ _ _
          refine awp_cond_f rfl ?_
          refine awp_exit_wk ?_
          refine ⟨_, Wk.refl _ _, ?_⟩
          show awp _ _ _ _ _ _ _
          refine awp_seq ?_
          refine awp_seq ?_
          refine awp_regs hF ?_
          refine dvb (gyes_none rfl) (q_mv (v := .bool rt) rfl) rfl (by decide) (cok1 trivial) (fun c15 => ?_) (fun c15 => ?_)
          ·
            refine dv (gyes_none rfl) (q_not (b := true) rfl) rfl (by decide) (cok1 trivial) ?_
            refine ⟨_, Wk.refl _ _, ?_⟩
            show awp _ _ _ _ _ _ _
            refine awp_cond_f rfl ?_
            refine awp_skip_wk ?_
            refine ⟨_, Wk.refl _ _, ?_⟩
            show awp _ _ _ _ _ _ _
            refine awp_seq ?_
            refine awp_seq ?_
            refine awp_regs hF ?_
            refine dv (gyes_none rfl) (q_mv (v := .string b) rfl) rfl (by decide) (cok1 trivial) ?_
            refine dv (gyes_none rfl) (q_len_str Tryz.underlying9 rfl) rfl (by decide) (cok1 trivial) ?_
            refine dvb (gyes_none rfl) (q_int rfl rfl rfl) rfl (by decide) (cok2 trivial (cconst rfl)) (fun c16 => ?_) (fun c16 => ?_)
            ·
              replace c16 := of_decide_eq_true c16
              refine ⟨_, Wk.refl _ _, ?_⟩
              show awp _ _ _ _ _ _ _
              refine awp_cond_t rfl ?_
              refine awp_seq ?_
              refine awp_regs hF ?_
              refine dv (gyes_none rfl) (q_mv (v := vl) rfl) rfl (by decide) (cok1 trivial) ?_
              refine dv (gyes_none rfl) (q_as (v := vl) rfl) rfl (by decide) (cok1 trivial) ?_
              refine dv (gyes_none rfl) (q_as (v := .int .i64 6) rfl) rfl (by decide) (cok1 (cconst rfl)) ?_
              refine ⟨_, Wk.refl _ _, ?_⟩
              show awp _ _ _ _ _ _ _
              refine awp_ret_wk ?_
              have hr : nmOk n = true := by show nmK n n.size = _; rw [← show i = n.size by omega, ← hi.2]; first | assumption | exact Bool.eq_false_iff.2 (by assumption)
              have hv : addV l n b = 6 := by unfold addV; rw [if_neg (by rw [hr]; simp), if_pos (by omega)]
              refine ⟨_, Wk.refl _ _, ?_⟩
              repeat (with_reducible first | refine then_ret ?_ | refine blk_ret ?_ | refine then_exit ?_ | refine blk_exit ?_ | refine blk_exit' (by decide) ?_ | refine blk_normal ?_ | refine then_normal ?_ | refine retq_ret ?_ | refine retq_normal ?_ | refine ng_normal ?_ | refine ng_ret ?_ | refine ng_exit ?_)
              refine ret_is (v := .tuple #[vl, .int .i64 6]) rfl (.tmp rfl (.tmp rfl .nil)) rfl ?_
              exact .inl ⟨by rw [hv]; decide, by rw [hv]; first | done | rfl, s20.kp⟩
            ·
              replace c16 := of_decide_eq_false c16
              refine ⟨_, Wk.refl _ _, ?_⟩
              show awp _ _ _ _ _ _ _
              refine awp_cond_f rfl ?_
              refine awp_skip_wk ?_
              refine ⟨_, Wk.refl _ _, ?_⟩
              show awp _ _ _ _ _ _ _
              refine awp_seq ?_
              refine awp_seq ?_
              refine awp_regs hF ?_
              refine dv (gyes_none rfl) (q_mv (v := vl) rfl) rfl (by decide) (cok1 trivial) ?_
              refine dv (gyes_none rfl) (q_mv (v := .string n) rfl) rfl (by decide) (cok1 trivial) ?_
              refine dv (gyes_none rfl) (q_call0 Tryz.call11 rfl (rfind_ok vl l (s20.sls hl) hl1 n)) rfl (by decide) (call_ok rfl) ?_
              refine dvb (gyes_none rfl) (q_int rfl rfl rfl) rfl (by decide) (cok2 trivial (cconst rfl)) (fun c17 => ?_) (fun c17 => ?_)
              ·
                replace c17 := of_decide_eq_true c17
                refine ⟨_, Wk.refl _ _, ?_⟩
                show awp _ _ _ _ _ _ _
                refine awp_cond_t rfl ?_
                refine awp_seq ?_
                refine awp_regs hF ?_
                refine dv (gyes_none rfl) (q_mv (v := vl) rfl) rfl (by decide) (cok1 trivial) ?_
                refine dv (gyes_none rfl) (q_as (v := vl) rfl) rfl (by decide) (cok1 trivial) ?_
                refine dv (gyes_none rfl) (q_as (v := .int .i64 26) rfl) rfl (by decide) (cok1 (cconst rfl)) ?_
                refine ⟨_, Wk.refl _ _, ?_⟩
                show awp _ _ _ _ _ _ _
                refine awp_ret_wk ?_
                have hr : nmOk n = true := by show nmK n n.size = _; rw [← show i = n.size by omega, ← hi.2]; first | assumption | exact Bool.eq_false_iff.2 (by assumption)
                have hv : addV l n b = 26 := by unfold addV; rw [if_neg (by rw [hr]; simp), if_neg (by omega), if_pos (Decidable.byContradiction fun hq => by have := ixF_no hq; omega)]
                refine ⟨_, Wk.refl _ _, ?_⟩
                repeat (with_reducible first | refine then_ret ?_ | refine blk_ret ?_ | refine then_exit ?_ | refine blk_exit ?_ | refine blk_exit' (by decide) ?_ | refine blk_normal ?_ | refine then_normal ?_ | refine retq_ret ?_ | refine retq_normal ?_ | refine ng_normal ?_ | refine ng_ret ?_ | refine ng_exit ?_)
                refine ret_is (v := .tuple #[vl, .int .i64 26]) rfl (.tmp rfl (.tmp rfl .nil)) rfl ?_
                exact .inl ⟨by rw [hv]; decide, by rw [hv]; first | done | rfl, s20.kp⟩
              ·
                replace c17 := of_decide_eq_false c17
                refine ⟨_, Wk.refl _ _, ?_⟩
                show awp _ _ _ _ _ _ _
                refine awp_cond_f rfl ?_
                refine awp_skip_wk ?_
                refine ⟨_, Wk.refl _ _, ?_⟩
                show awp _ _ _ _ _ _ _
                refine awp_seq ?_
                refine awp_seq ?_
                refine awp_regs hF ?_
                refine dv (gyes_none rfl) (q_mv (v := vl) rfl) rfl (by decide) (cok1 trivial) ?_
                refine dv (gyes_none rfl) (q_len_sls (l := l) Tryz.underlying36 (s20.sls hl) rfl) rfl (by decide) (cok1 trivial) ?_
                refine dvb (gyes_none rfl) (q_int rfl rfl rfl) rfl (by decide) (cok2 trivial (cconst rfl)) (fun c18 => ?_) (fun c18 => ?_)
                ·
                  replace c18 := of_decide_eq_true c18
                  refine ⟨_, Wk.refl _ _, ?_⟩
                  show awp _ _ _ _ _ _ _
                  refine awp_cond_t rfl ?_
                  refine awp_seq ?_
                  refine awp_regs hF ?_
                  refine dv (gyes_none rfl) (q_mv (v := vl) rfl) rfl (by decide) (cok1 trivial) ?_
                  refine dv (gyes_none rfl) (q_as (v := vl) rfl) rfl (by decide) (cok1 trivial) ?_
                  refine dv (gyes_none rfl) (q_as (v := .int .i64 6) rfl) rfl (by decide) (cok1 (cconst rfl)) ?_
                  refine ⟨_, Wk.refl _ _, ?_⟩
                  show awp _ _ _ _ _ _ _
                  refine awp_ret_wk ?_
                  have hr : nmOk n = true := by show nmK n n.size = _; rw [← show i = n.size by omega, ← hi.2]; first | assumption | exact Bool.eq_false_iff.2 (by assumption)
                  have hv : addV l n b = 6 := by unfold addV; rw [if_neg (by rw [hr]; simp), if_neg (by omega), if_neg (fun hq => by have := ixF_of hq; omega), if_pos (by omega)]
                  refine ⟨_, Wk.refl _ _, ?_⟩
                  repeat (with_reducible first | refine then_ret ?_ | refine blk_ret ?_ | refine then_exit ?_ | refine blk_exit ?_ | refine blk_exit' (by decide) ?_ | refine blk_normal ?_ | refine then_normal ?_ | refine retq_ret ?_ | refine retq_normal ?_ | refine ng_normal ?_ | refine ng_ret ?_ | refine ng_exit ?_)
                  refine ret_is (v := .tuple #[vl, .int .i64 6]) rfl (.tmp rfl (.tmp rfl .nil)) rfl ?_
                  exact .inl ⟨by rw [hv]; decide, by rw [hv]; first | done | rfl, s20.kp⟩
                ·
                  replace c18 := of_decide_eq_false c18
                  refine ⟨_, Wk.refl _ _, ?_⟩
                  show awp _ _ _ _ _ _ _
                  refine awp_cond_f rfl ?_
                  refine awp_skip_wk ?_
                  refine ⟨_, Wk.refl _ _, ?_⟩
                  show awp _ _ _ _ _ _ _
                  refine awp_seq ?_
                  refine awp_regs hF ?_
                  refine x_new (fun b => .slice (some ⟨b, 0, none⟩) 0 0) s20 (gyes_none rfl) (q_emptyLit Tryz.underlying36 Tryz.sizeOf42) rfl (by decide) (by simp [Op.operands, Call.operands]) (fun b21 H22 hb24 s23 => ?_)
                  refine dv (gyes_none rfl) (q_mv (v := vl) rfl) rfl (by decide) (cok1 trivial) ?_
                  refine x_new (fun b => .slice (some ⟨b, 0, none⟩) l.length l.length) s23 (gyes_none rfl) (q_append_nullSS (l := l) (f := filc) (m' := l.length) rfl Tryz.underlying36 Tryz.underlying36 Tryz.type42 rfl rfl (by decide) rfl rfl rfl (s23.getj (j := 0) rfl) filc_w (s23.sls hl) (fun x _ u hu => lc_scalar (filc_sc x u hu)) (by show (2 * _ + 1000) * 32 ≤ _; omega)) rfl (by decide) (cok2 trivial trivial) (fun b25 H26 hb28 s27 => ?_)
                  refine dv (gyes_none rfl) (q_mv (v := .string n) rfl) rfl (by decide) (cok1 trivial) ?_
                  refine dv (gyes_none rfl) (q_mv (v := .string b) rfl) rfl (by decide) (cok1 trivial) ?_
                  refine dv (gyes_none rfl) (q_buildL (ds := [.string n, .string b]) [(0, 1), (1, 1)] [.string n, .string b] Tryz.underlying42 Tryz.zeroValue42 (by first | exact flat_agg rfl | exact flat_scalar rfl) (by kernel_rfl) ⟨rfl, rfl, trivial⟩ (lvsC (by exact trivial) (lvsC (by exact trivial) lvs0)) rfl) rfl (by decide) (cok2 trivial trivial) ?_
                  refine x_new (fun b => .slice (some ⟨b, 0, none⟩) 1 1) s27 (gyes_none rfl) (q_buildSliceL (ds := [.string n, .string b]) [.agg #[.string n, .string b]] rfl Tryz.underlying36 Tryz.sizeOf42 Tryz.zeroValue42 rfl (by decide) (by decide) ⟨rfl, trivial⟩ (lvsC (by exact trivial) lvs0) rfl rfl) rfl (by decide) (cok1 trivial) (fun b29 H30 hb32 s31 => ?_)
                  refine x_appendS (m := 2) (l := [(n, b)]) (l0 := l) (l' := l ++ [(n, b)]) (f := filc) [] hF s31 (by kernel_rfl) (j := 1) ((l ++ [(n, b)]).length) (by simp) (gyes_none rfl) Tryz.underlying36 Tryz.underlying36 Tryz.type42 rfl rfl (by decide) rfl filc_w rfl rfl rfl (s31.slsj (l := [(n, b)]) filc_w (j := 0) rfl rfl (Nat.le_refl _)) (fun x _ u hu => lc_scalar (filc_sc x u hu)) (by first | rfl | simp) (by show (2 * _ + 1000) * 32 ≤ _; first | omega | (simp only [List.length_append, List.length_cons, List.length_nil, List.length_take, List.length_drop]; omega)) trivial trivial (by decide) rfl rfl rfl (fun b33 H34 hb36 s35 => ⟨?_, ?_⟩)
                  · exact trivial
                  refine dv (gyes_none rfl) (q_as (v := .slice (some ⟨b33, 0, none⟩) ((l ++ [(n, b)]).length) ((l ++ [(n, b)]).length)) rfl) rfl (by decide) (cok1 trivial) ?_
                  refine dv (gyes_none rfl) (q_as (v := .int .i64 0) rfl) rfl (by decide) (cok1 (cconst rfl)) ?_
                  refine ⟨_, Wk.refl _ _, ?_⟩
                  show awp _ _ _ _ _ _ _
                  refine awp_ret_wk ?_
                  have hr : nmOk n = true := by show nmK n n.size = _; rw [← show i = n.size by omega, ← hi.2]; first | assumption | exact Bool.eq_false_iff.2 (by assumption)
                  have hv : addV l n b = 0 := by unfold addV; rw [if_neg (by rw [hr]; simp), if_neg (by omega), if_neg (fun hq => by have := ixF_of hq; omega), if_neg (by omega)]
                  refine ⟨_, Wk.refl _ _, ?_⟩
                  repeat (with_reducible first | refine then_ret ?_ | refine blk_ret ?_ | refine then_exit ?_ | refine blk_exit ?_ | refine blk_exit' (by decide) ?_ | refine blk_normal ?_ | refine then_normal ?_ | refine retq_ret ?_ | refine retq_normal ?_ | refine ng_normal ?_ | refine ng_ret ?_ | refine ng_exit ?_)
                  refine ret_is (v := .tuple #[.slice (some ⟨b33, 0, none⟩) ((l ++ [(n, b)]).length) ((l ++ [(n, b)]).length), .int .i64 0]) rfl (.tmp rfl (.tmp rfl .nil)) rfl ?_
                  exact .inr ⟨hv, _, s35.kp, s35.out (j := 1) rfl, rfl, s35.getj (j := 1) rfl⟩
          ·
            refine dv (gyes_none rfl) (q_not (b := false) rfl) rfl (by decide) (cok1 trivial) ?_
            refine ⟨_, Wk.refl _ _, ?_⟩
            show awp _ _ _ _ _ _ _
            refine awp_cond_t rfl ?_
            refine awp_seq ?_
            refine awp_regs hF ?_
            refine dv (gyes_none rfl) (q_mv (v := vl) rfl) rfl (by decide) (cok1 trivial) ?_
            refine dv (gyes_none rfl) (q_as (v := vl) rfl) rfl (by decide) (cok1 trivial) ?_
            refine dv (gyes_none rfl) (q_as (v := .int .i64 25) rfl) rfl (by decide) (cok1 (cconst rfl)) ?_
            refine ⟨_, Wk.refl _ _, ?_⟩
            show awp _ _ _ _ _ _ _
            refine awp_ret_wk ?_
            have hr : nmOk n = false := by show nmK n n.size = _; rw [← show i = n.size by omega, ← hi.2]; first | assumption | exact Bool.eq_false_iff.2 (by assumption)
            have hv : addV l n b = 25 := by unfold addV; rw [if_pos hr]
            refine ⟨_, Wk.refl _ _, ?_⟩
            repeat (with_reducible first | refine then_ret ?_ | refine blk_ret ?_ | refine then_exit ?_ | refine blk_exit ?_ | refine blk_exit' (by decide) ?_ | refine blk_normal ?_ | refine then_normal ?_ | refine retq_ret ?_ | refine retq_normal ?_ | refine ng_normal ?_ | refine ng_ret ?_ | refine ng_exit ?_)
            refine ret_is (v := .tuple #[vl, .int .i64 25]) rfl (.tmp rfl (.tmp rfl .nil)) rfl ?_
            exact .inl ⟨by rw [hv]; decide, by rw [hv]; first | done | rfl, s20.kp⟩
  ·
    replace c1 := of_decide_eq_false c1
    refine dv (gyes_none rfl) (q_mv (v := .bool false) rfl) rfl (by decide) (cok1 trivial) ?_
    refine dno rfl (.inl rfl) rfl (by decide) ?_
    refine dno rfl (.inl rfl) rfl (by decide) ?_
    refine dno rfl (.inl rfl) rfl (by decide) ?_
    refine dv (gyes_none rfl) (q_pf (v := .bool false) rfl rfl) rfl (by decide) (call_ok rfl) ?_
    refine dv (gyes_none rfl) (q_as (v := .bool false) rfl) rfl (by decide) (cok1 trivial) ?_
    refine ⟨_, Wk.refl _ _, ?_⟩
    show awp _ _ _ _ _ _ _
    refine awp_seq ?_
    refine awp_seq ?_
    refine awp_regs hF ?_
    refine dv (gyes_none rfl) (q_as (v := .int .i64 0) rfl) rfl (by decide) (cok1 (cconst rfl)) ?_
    refine ⟨_, Wk.refl _ _, ?_⟩
    show awp _ _ _ _ _ _ _
    refine awp_block ?_
    refine awp_wk (Wk.U [(0, vl), (1, .string n), (2, .string b), (8, .bool false), (9, .int .i64 0)] ⟨rfl, rfl, rfl, rfl, rfl, trivial⟩) ?_
    refine awp_loop (fun ((i, rt) : Nat × Bool) st => ∃ (H37 : AHeap), st = ⟨61, U [(0, vl), (1, .string n), (2, .string b), (8, .bool rt), (9, .int .i64 ((i : Nat) : Int))], [], H37⟩ ∧ St H0 (none0) (Rd H0) H37 [] ∧ (i ≤ n.size ∧ rt = nmK n i)) (fun ((i, rt) : Nat × Bool) => n.size - i) (x0 := (0, false)) ?h0 ?round
    case h0 =>
      exact ⟨_, rfl, s0, ⟨Nat.zero_le _, by unfold nmK; first | (rw [decide_eq_true (show 1 ≤ n.size by omega), decide_eq_true (show n.size ≤ 32 by omega)]; rfl) | (rw [decide_eq_false (show ¬ 1 ≤ n.size by omega)]; rfl) | (rw [decide_eq_false (show ¬ n.size ≤ 32 by omega), Bool.and_false]; rfl)⟩⟩
    case round =>
      rintro ⟨i, rt⟩ _ ⟨H37, rfl, s38, hi⟩
      dsimp only at *
      refine awp_seq ?_
      refine awp_seq ?_
      refine awp_regs hF ?_
      refine dv (gyes_none rfl) (q_mv (v := .int .i64 ((i : Nat) : Int)) rfl) rfl (by decide) (cok1 trivial) ?_
      refine dv (gyes_none rfl) (q_mv (v := .string n) rfl) rfl (by decide) (cok1 trivial) ?_
      refine dv (gyes_none rfl) (q_len_str Tryz.underlying9 rfl) rfl (by decide) (cok1 trivial) ?_
      refine dvb (gyes_none rfl) (q_int rfl rfl rfl) rfl (by decide) (cok2 trivial trivial) (fun c19 => ?_) (fun c19 => ?_)
      ·
        replace c19 := of_decide_eq_true c19
        refine ⟨_, Wk.refl _ _, ?_⟩
        show awp _ _ _ _ _ _ _
        refine awp_cond_t rfl ?_
        refine awp_skip_wk ?_
        refine ⟨_, Wk.refl _ _, ?_⟩
        show awp _ _ _ _ _ _ _
        refine awp_seq ?_
        refine awp_block ?_
        refine awp_regs hF ?_
        refine dvb (gyes_none rfl) (q_mv (v := .bool rt) rfl) rfl (by decide) (cok1 trivial) (fun c20 => ?_) (fun c20 => ?_)
        ·
          refine dv (gyes_none rfl) (q_mv (v := .bool true) rfl) rfl (by decide) (cok1 trivial) ?_
          refine dv (gyes_some rfl rfl) (q_mv (v := .string n) rfl) rfl (by decide) (cok1 trivial) ?_
          refine dv (gyes_some rfl rfl) (q_mv (v := .int .i64 ((i : Nat) : Int)) rfl) rfl (by decide) (cok1 trivial) ?_
          refine dv (gyes_some rfl rfl) (q_byt (i := i) Tryz.underlying9 rfl rfl (by omega)) rfl (by decide) (cok2 trivial trivial) ?_
          refine dvb (gyes_some rfl rfl) (q_int rfl rfl rfl) rfl (by decide) (cok2 trivial (cconst rfl)) (fun c21 => ?_) (fun c21 => ?_)
          ·
            replace c21 := of_decide_eq_true c21
            refine dv (gyes_none rfl) (q_pt (v := .bool true) rfl rfl) rfl (by decide) (call_ok rfl) ?_
            refine dv (gyes_none rfl) (q_mv (v := .bool true) rfl) rfl (by decide) (cok1 trivial) ?_
            refine dv (gyes_some rfl rfl) (q_mv (v := .string n) rfl) rfl (by decide) (cok1 trivial) ?_
            refine dv (gyes_some rfl rfl) (q_mv (v := .int .i64 ((i : Nat) : Int)) rfl) rfl (by decide) (cok1 trivial) ?_
            refine dv (gyes_some rfl rfl) (q_byt (i := i) Tryz.underlying9 rfl rfl (by omega)) rfl (by decide) (cok2 trivial trivial) ?_
            refine dvb (gyes_some rfl rfl) (q_int rfl rfl rfl) rfl (by decide) (cok2 trivial (cconst rfl)) (fun c22 => ?_) (fun c22 => ?_)
            ·
              replace c22 := of_decide_eq_true c22
              refine dv (gyes_none rfl) (q_pt (v := .bool true) rfl rfl) rfl (by decide) (call_ok rfl) ?_
              refine dv (gyes_none rfl) (q_as (v := .bool true) rfl) rfl (by decide) (cok1 trivial) ?_
              refine ⟨_, Wk.refl _ _, ?_⟩
              show awp _ _ _ _ _ _ _
              refine awp_regs hF ?_
              refine dv (gyes_none rfl) (q_mv (v := .int .i64 ((i : Nat) : Int)) rfl) rfl (by decide) (cok1 trivial) ?_
              refine dv (gyes_none rfl) (OpQ.cast (v' := .int .i64 ((i + 1 : Nat) : Int)) (q_int rfl rfl rfl) (congrArg _ ((i64_in (by omega)).trans (by first | rfl | omega | (push_cast; rfl))))) rfl (by decide) (cok2 trivial (cconst rfl)) ?_
              refine dv (gyes_none rfl) (q_as (v := .int .i64 ((i + 1 : Nat) : Int)) rfl) rfl (by decide) (cok1 trivial) ?_
              refine ⟨_, Wk.U [(0, vl), (1, .string n), (2, .string b), (8, .bool true), (9, .int .i64 (((i + 1) : Nat) : Int))] ⟨rfl, rfl, rfl, rfl, rfl, trivial⟩, ((i + 1), true), ⟨_, rfl, s38, ⟨by dsimp only; omega, by dsimp only; exact (nmK_y (hi.2 ▸ (by assumption)) (by omega) (by omega)).symm⟩⟩, (by omega)⟩
            ·
              replace c22 := of_decide_eq_false c22
              refine dv (gyes_none rfl) (q_pt (v := .bool false) rfl rfl) rfl (by decide) (call_ok rfl) ?_
              refine dv (gyes_none rfl) (q_as (v := .bool false) rfl) rfl (by decide) (cok1 trivial) ?_
              refine ⟨_, Wk.refl _ _, ?_⟩
              show awp _ _ _ _ _ _ _
              refine awp_regs hF ?_
              refine dv (gyes_none rfl) (q_mv (v := .int .i64 ((i : Nat) : Int)) rfl) rfl (by decide) (cok1 trivial) ?_
              refine dv (gyes_none rfl) (OpQ.cast (v' := .int .i64 ((i + 1 : Nat) : Int)) (q_int rfl rfl rfl) (congrArg _ ((i64_in (by omega)).trans (by first | rfl | omega | (push_cast; rfl))))) rfl (by decide) (cok2 trivial (cconst rfl)) ?_
              refine dv (gyes_none rfl) (q_as (v := .int .i64 ((i + 1 : Nat) : Int)) rfl) rfl (by decide) (cok1 trivial) ?_
              refine ⟨_, Wk.U [(0, vl), (1, .string n), (2, .string b), (8, .bool false), (9, .int .i64 (((i + 1) : Nat) : Int))] ⟨rfl, rfl, rfl, rfl, rfl, trivial⟩, ((i + 1), false), ⟨_, rfl, s38, ⟨by dsimp only; omega, by dsimp only; exact (nmK_n (by first | exact .inl (hi.2 ▸ Bool.eq_false_iff.2 (by assumption)) | exact .inl (hi.2 ▸ (by assumption)) | (right; omega))).symm⟩⟩, (by omega)⟩
          ·
            replace c21 := of_decide_eq_false c21
            refine dv (gyes_none rfl) (q_pt (v := .bool false) rfl rfl) rfl (by decide) (call_ok rfl) ?_
            refine dv (gyes_none rfl) (q_mv (v := .bool false) rfl) rfl (by decide) (cok1 trivial) ?_
            refine dno rfl (.inl rfl) rfl (by decide) ?_
            refine dno rfl (.inl rfl) rfl (by decide) ?_
            refine dno rfl (.inl rfl) rfl (by decide) ?_
            refine dno rfl (.inl rfl) rfl (by decide) ?_
            refine dv (gyes_none rfl) (q_pf (v := .bool false) rfl rfl) rfl (by decide) (call_ok rfl) ?_
            refine dv (gyes_none rfl) (q_as (v := .bool false) rfl) rfl (by decide) (cok1 trivial) ?_
            refine ⟨_, Wk.refl _ _, ?_⟩
            show awp _ _ _ _ _ _ _
            refine awp_regs hF ?_
            refine dv (gyes_none rfl) (q_mv (v := .int .i64 ((i : Nat) : Int)) rfl) rfl (by decide) (cok1 trivial) ?_
            refine dv (gyes_none rfl) (OpQ.cast (v' := .int .i64 ((i + 1 : Nat) : Int)) (q_int rfl rfl rfl) (congrArg _ ((i64_in (by omega)).trans (by first | rfl | omega | (push_cast; rfl))))) rfl (by decide) (cok2 trivial (cconst rfl)) ?_
            refine dv (gyes_none rfl) (q_as (v := .int .i64 ((i + 1 : Nat) : Int)) rfl) rfl (by decide) (cok1 trivial) ?_
            refine ⟨_, Wk.U [(0, vl), (1, .string n), (2, .string b), (8, .bool false), (9, .int .i64 (((i + 1) : Nat) : Int))] ⟨rfl, rfl, rfl, rfl, rfl, trivial⟩, ((i + 1), false), ⟨_, rfl, s38, ⟨by dsimp only; omega, by dsimp only; exact (nmK_n (by first | exact .inl (hi.2 ▸ Bool.eq_false_iff.2 (by assumption)) | exact .inl (hi.2 ▸ (by assumption)) | (right; omega))).symm⟩⟩, (by omega)⟩
        ·
          refine dv (gyes_none rfl) (q_mv (v := .bool false) rfl) rfl (by decide) (cok1 trivial) ?_
          refine dno rfl (.inl rfl) rfl (by decide) ?_
          refine dno rfl (.inl rfl) rfl (by decide) ?_
          refine dno rfl (.inl rfl) rfl (by decide) ?_
          refine dno rfl (.inl rfl) rfl (by decide) ?_
          refine dv (gyes_none rfl) (q_pf (v := .bool false) rfl rfl) rfl (by decide) (call_ok rfl) ?_
          refine dv (gyes_none rfl) (q_mv (v := .bool false) rfl) rfl (by decide) (cok1 trivial) ?_
          refine dno rfl (.inl rfl) rfl (by decide) ?_
          refine dno rfl (.inl rfl) rfl (by decide) ?_
          refine dno rfl (.inl rfl) rfl (by decide) ?_
          refine dno rfl (.inl rfl) rfl (by decide) ?_
          refine dv (gyes_none rfl) (q_pf (v := .bool false) rfl rfl) rfl (by decide) (call_ok rfl) ?_
          refine dv (gyes_none rfl) (q_as (v := .bool false) rfl) rfl (by decide) (cok1 trivial) ?_
          refine ⟨_, Wk.refl _ _, ?_⟩
          show awp _ _ _ _ _ _ _
          refine awp_regs hF ?_
          refine dv (gyes_none rfl) (q_mv (v := .int .i64 ((i : Nat) : Int)) rfl) rfl (by decide) (cok1 trivial) ?_
          refine dv (gyes_none rfl) (OpQ.cast (v' := .int .i64 ((i + 1 : Nat) : Int)) (q_int rfl rfl rfl) (congrArg _ ((i64_in (by omega)).trans (by first | rfl | omega | (push_cast; rfl))))) rfl (by decide) (cok2 trivial (cconst rfl)) ?_
          refine dv (gyes_none rfl) (q_as (v := .int .i64 ((i + 1 : Nat) : Int)) rfl) rfl (by decide) (cok1 trivial) ?_
          refine ⟨_, Wk.U [(0, vl), (1, .string n), (2, .string b), (8, .bool false), (9, .int .i64 (((i + 1) : Nat) : Int))] ⟨rfl, rfl, rfl, rfl, rfl, trivial⟩, ((i + 1), false), ⟨_, rfl, s38, ⟨by dsimp only; omega, by dsimp only; exact (nmK_n (by first | exact .inl (hi.2 ▸ Bool.eq_false_iff.2 (by assumption)) | exact .inl (hi.2 ▸ (by assumption)) | (right; omega))).symm⟩⟩, (by omega)⟩
      ·
        replace c19 := of_decide_eq_false c19
        refine ⟨_, Wk.refl _ _, ?_⟩
        show awp _ _ _ _ _ _ _
        refine awp_cond_f rfl ?_
        refine awp_exit_wk ?_
        refine ⟨_, Wk.refl _ _, ?_⟩
        show awp _ _ _ _ _ _ _
        refine awp_seq ?_
        refine awp_seq ?_
        refine awp_regs hF ?_
        refine dvb (gyes_none rfl) (q_mv (v := .bool rt) rfl) rfl (by decide) (cok1 trivial) (fun c23 => ?_) (fun c23 => ?_)
        ·
          refine dv (gyes_none rfl) (q_not (b := true) rfl) rfl (by decide) (cok1 trivial) ?_
          refine ⟨_, Wk.refl _ _, ?_⟩
          show awp _ _ _ _ _ _ _
          refine awp_cond_f rfl ?_
          refine awp_skip_wk ?_
          refine ⟨_, Wk.refl _ _, ?_⟩
          show awp _ _ _ _ _ _ _
          refine awp_seq ?_
          refine awp_seq ?_
          refine awp_regs hF ?_
          refine dv (gyes_none rfl) (q_mv (v := .string b) rfl) rfl (by decide) (cok1 trivial) ?_
          refine dv (gyes_none rfl) (q_len_str Tryz.underlying9 rfl) rfl (by decide) (cok1 trivial) ?_
          refine dvb (gyes_none rfl) (q_int rfl rfl rfl) rfl (by decide) (cok2 trivial (cconst rfl)) (fun c24 => ?_) (fun c24 => ?_)
          ·
            replace c24 := of_decide_eq_true c24
            refine ⟨_, Wk.refl _ _, ?_⟩
            show awp _ _ _ _ _ _ _
            refine awp_cond_t rfl ?_
            refine awp_seq ?_
            refine awp_regs hF ?_
            refine dv (gyes_none rfl) (q_mv (v := vl) rfl) rfl (by decide) (cok1 trivial) ?_
            refine dv (gyes_none rfl) (q_as (v := vl) rfl) rfl (by decide) (cok1 trivial) ?_
            refine dv (gyes_none rfl) (q_as (v := .int .i64 6) rfl) rfl (by decide) (cok1 (cconst rfl)) ?_
            refine ⟨_, Wk.refl _ _, ?_⟩
            show awp _ _ _ _ _ _ _
            refine awp_ret_wk ?_
            have hr : nmOk n = true := by show nmK n n.size = _; rw [← show i = n.size by omega, ← hi.2]; first | assumption | exact Bool.eq_false_iff.2 (by assumption)
            have hv : addV l n b = 6 := by unfold addV; rw [if_neg (by rw [hr]; simp), if_pos (by omega)]
            refine ⟨_, Wk.refl _ _, ?_⟩
            repeat (with_reducible first | refine then_ret ?_ | refine blk_ret ?_ | refine then_exit ?_ | refine blk_exit ?_ | refine blk_exit' (by decide) ?_ | refine blk_normal ?_ | refine then_normal ?_ | refine retq_ret ?_ | refine retq_normal ?_ | refine ng_normal ?_ | refine ng_ret ?_ | refine ng_exit ?_)
            refine ret_is (v := .tuple #[vl, .int .i64 6]) rfl (.tmp rfl (.tmp rfl .nil)) rfl ?_
            exact .inl ⟨by rw [hv]; decide, by rw [hv]; first | done | rfl, s38.kp⟩
          ·
            replace c24 := of_decide_eq_false c24
            refine ⟨_, Wk.refl _ _, ?_⟩
            show awp _ _ _ _ _ _ _
            refine awp_cond_f rfl ?_
            refine awp_skip_wk ?_
            refine ⟨_, Wk.refl _ _, ?_⟩
            show awp _ _ _ _ _ _ _
            refine awp_seq ?_
            refine awp_seq ?_
            refine awp_regs hF ?_
            refine dv (gyes_none rfl) (q_mv (v := vl) rfl) rfl (by decide) (cok1 trivial) ?_
            refine dv (gyes_none rfl) (q_mv (v := .string n) rfl) rfl (by decide) (cok1 trivial) ?_
            refine dv (gyes_none rfl) (q_call0 Tryz.call11 rfl (rfind_ok vl l (s38.sls hl) hl1 n)) rfl (by decide) (call_ok rfl) ?_
            refine dvb (gyes_none rfl) (q_int rfl rfl rfl) rfl (by decide) (cok2 trivial (cconst rfl)) (fun c25 => ?_) (fun c25 => ?_)
            ·
              replace c25 := of_decide_eq_true c25
              refine ⟨_, Wk.refl _ _, ?_⟩
              show awp _ _ _ _ _ _ _
              refine awp_cond_t rfl ?_
              refine awp_seq ?_
              refine awp_regs hF ?_
              refine dv (gyes_none rfl) (q_mv (v := vl) rfl) rfl (by decide) (cok1 trivial) ?_
              refine dv (gyes_none rfl) (q_as (v := vl) rfl) rfl (by decide) (cok1 trivial) ?_
              refine dv (gyes_none rfl) (q_as (v := .int .i64 26) rfl) rfl (by decide) (cok1 (cconst rfl)) ?_
              refine ⟨_, Wk.refl _ _, ?_⟩
              show awp _ _ _ _ _ _ _
              refine awp_ret_wk ?_
              have hr : nmOk n = true := by show nmK n n.size = _; rw [← show i = n.size by omega, ← hi.2]; first | assumption | exact Bool.eq_false_iff.2 (by assumption)
              have hv : addV l n b = 26 := by unfold addV; rw [if_neg (by rw [hr]; simp), if_neg (by omega), if_pos (Decidable.byContradiction fun hq => by have := ixF_no hq; omega)]
              refine ⟨_, Wk.refl _ _, ?_⟩
              repeat (with_reducible first | refine then_ret ?_ | refine blk_ret ?_ | refine then_exit ?_ | refine blk_exit ?_ | refine blk_exit' (by decide) ?_ | refine blk_normal ?_ | refine then_normal ?_ | refine retq_ret ?_ | refine retq_normal ?_ | refine ng_normal ?_ | refine ng_ret ?_ | refine ng_exit ?_)
              refine ret_is (v := .tuple #[vl, .int .i64 26]) rfl (.tmp rfl (.tmp rfl .nil)) rfl ?_
              exact .inl ⟨by rw [hv]; decide, by rw [hv]; first | done | rfl, s38.kp⟩
            ·
              replace c25 := of_decide_eq_false c25
              refine ⟨_, Wk.refl _ _, ?_⟩
              show awp _ _ _ _ _ _ _
              refine awp_cond_f rfl ?_
              refine awp_skip_wk ?_
              refine ⟨_, Wk.refl _ _, ?_⟩
              show awp _ _ _ _ _ _ _
              refine awp_seq ?_
              refine awp_seq ?_
              refine awp_regs hF ?_
              refine dv (gyes_none rfl) (q_mv (v := vl) rfl) rfl (by decide) (cok1 trivial) ?_
              refine dv (gyes_none rfl) (q_len_sls (l := l) Tryz.underlying36 (s38.sls hl) rfl) rfl (by decide) (cok1 trivial) ?_
              refine dvb (gyes_none rfl) (q_int rfl rfl rfl) rfl (by decide) (cok2 trivial (cconst rfl)) (fun c26 => ?_) (fun c26 => ?_)
              ·
                replace c26 := of_decide_eq_true c26
                refine ⟨_, Wk.refl _ _, ?_⟩
                show awp _ _ _ _ _ _ _
                refine awp_cond_t rfl ?_
                refine awp_seq ?_
                refine awp_regs hF ?_
                refine dv (gyes_none rfl) (q_mv (v := vl) rfl) rfl (by decide) (cok1 trivial) ?_
                refine dv (gyes_none rfl) (q_as (v := vl) rfl) rfl (by decide) (cok1 trivial) ?_
                refine dv (gyes_none rfl) (q_as (v := .int .i64 6) rfl) rfl (by decide) (cok1 (cconst rfl)) ?_
                refine ⟨_, Wk.refl _ _, ?_⟩
                show awp _ _ _ _ _ _ _
                refine awp_ret_wk ?_
                have hr : nmOk n = true := by show nmK n n.size = _; rw [← show i = n.size by omega, ← hi.2]; first | assumption | exact Bool.eq_false_iff.2 (by assumption)
                have hv : addV l n b = 6 := by unfold addV; rw [if_neg (by rw [hr]; simp), if_neg (by omega), if_neg (fun hq => by have := ixF_of hq; omega), if_pos (by omega)]
                refine ⟨_, Wk.refl _ _, ?_⟩
                repeat (with_reducible first | refine then_ret ?_ | refine blk_ret ?_ | refine then_exit ?_ | refine blk_exit ?_ | refine blk_exit' (by decide) ?_ | refine blk_normal ?_ | refine then_normal ?_ | refine retq_ret ?_ | refine retq_normal ?_ | refine ng_normal ?_ | refine ng_ret ?_ | refine ng_exit ?_)
                refine ret_is (v := .tuple #[vl, .int .i64 6]) rfl (.tmp rfl (.tmp rfl .nil)) rfl ?_
                exact .inl ⟨by rw [hv]; decide, by rw [hv]; first | done | rfl, s38.kp⟩
              ·
                replace c26 := of_decide_eq_false c26
                refine ⟨_, Wk.refl _ _, ?_⟩
                show awp _ _ _ _ _ _ _
                refine awp_cond_f rfl ?_
                refine awp_skip_wk ?_
                refine ⟨_, Wk.refl _ _, ?_⟩
                show awp _ _ _ _ _ _ _
                refine awp_seq ?_
                refine awp_regs hF ?_
                refine x_new (fun b => .slice (some ⟨b, 0, none⟩) 0 0) s38 (gyes_none rfl) (q_emptyLit Tryz.underlying36 Tryz.sizeOf42) rfl (by decide) (by simp [Op.operands, Call.operands]) (fun b39 H40 hb42 s41 => ?_)
                refine dv (gyes_none rfl) (q_mv (v := vl) rfl) rfl (by decide) (cok1 trivial) ?_
                refine x_new (fun b => .slice (some ⟨b, 0, none⟩) l.length l.length) s41 (gyes_none rfl) (q_append_nullSS (l := l) (f := filc) (m' := l.length) rfl Tryz.underlying36 Tryz.underlying36 Tryz.type42 rfl rfl (by decide) rfl rfl rfl (s41.getj (j := 0) rfl) filc_w (s41.sls hl) (fun x _ u hu => lc_scalar (filc_sc x u hu)) (by show (2 * _ + 1000) * 32 ≤ _; omega)) rfl (by decide) (cok2 trivial trivial) (fun b43 H44 hb46 s45 => ?_)
                refine dv (gyes_none rfl) (q_mv (v := .string n) rfl) rfl (by decide) (cok1 trivial) ?_
                refine dv (gyes_none rfl) (q_mv (v := .string b) rfl) rfl (by decide) (cok1 trivial) ?_
                refine dv (gyes_none rfl) (q_buildL (ds := [.string n, .string b]) [(0, 1), (1, 1)] [.string n, .string b] Tryz.underlying42 Tryz.zeroValue42 (by first | exact flat_agg rfl | exact flat_scalar rfl) (by kernel_rfl) ⟨rfl, rfl, trivial⟩ (lvsC (by exact trivial) (lvsC (by exact trivial) lvs0)) rfl) rfl (by decide) (cok2 trivial trivial) ?_
                refine x_new (fun b => .slice (some ⟨b, 0, none⟩) 1 1) s45 (gyes_none rfl) (q_buildSliceL (ds := [.string n, .string b]) [.agg #[.string n, .string b]] rfl Tryz.underlying36 Tryz.sizeOf42 Tryz.zeroValue42 rfl (by decide) (by decide) ⟨rfl, trivial⟩ (lvsC (by exact trivial) lvs0) rfl rfl) rfl (by decide) (cok1 trivial) (fun b47 H48 hb50 s49 => ?_)
                refine x_appendS (m := 2) (l := [(n, b)]) (l0 := l) (l' := l ++ [(n, b)]) (f := filc) [] hF s49 (by kernel_rfl) (j := 1) ((l ++ [(n, b)]).length) (by simp) (gyes_none rfl) Tryz.underlying36 Tryz.underlying36 Tryz.type42 rfl rfl (by decide) rfl filc_w rfl rfl rfl (s49.slsj (l := [(n, b)]) filc_w (j := 0) rfl rfl (Nat.le_refl _)) (fun x _ u hu => lc_scalar (filc_sc x u hu)) (by first | rfl | simp) (by show (2 * _ + 1000) * 32 ≤ _; first | omega | (simp only [List.length_append, List.length_cons, List.length_nil, List.length_take, List.length_drop]; omega)) trivial trivial (by decide) rfl rfl rfl (fun b51 H52 hb54 s53 => ⟨?_, ?_⟩)
                · exact trivial
                refine dv (gyes_none rfl) (q_as (v := .slice (some ⟨b51, 0, none⟩) ((l ++ [(n, b)]).length) ((l ++ [(n, b)]).length)) rfl) rfl (by decide) (cok1 trivial) ?_
                refine dv (gyes_none rfl) (q_as (v := .int .i64 0) rfl) rfl (by decide) (cok1 (cconst rfl)) ?_
                refine ⟨_, Wk.refl _ _, ?_⟩
                show awp _ _ _ _ _ _ _
                refine awp_ret_wk ?_
                have hr : nmOk n = true := by show nmK n n.size = _; rw [← show i = n.size by omega, ← hi.2]; first | assumption | exact Bool.eq_false_iff.2 (by assumption)
                have hv : addV l n b = 0 := by unfold addV; rw [if_neg (by rw [hr]; simp), if_neg (by omega), if_neg (fun hq => by have := ixF_of hq; omega), if_neg (by omega)]
                refine ⟨_, Wk.refl _ _, ?_⟩
                repeat (with_reducible first | refine then_ret ?_ | refine blk_ret ?_ | refine then_exit ?_ | refine blk_exit ?_ | refine blk_exit' (by decide) ?_ | refine blk_normal ?_ | refine then_normal ?_ | refine retq_ret ?_ | refine retq_normal ?_ | refine ng_normal ?_ | refine ng_ret ?_ | refine ng_exit ?_)
                refine ret_is (v := .tuple #[.slice (some ⟨b51, 0, none⟩) ((l ++ [(n, b)]).length) ((l ++ [(n, b)]).length), .int .i64 0]) rfl (.tmp rfl (.tmp rfl .nil)) rfl ?_
                exact .inr ⟨hv, _, s53.kp, s53.out (j := 1) rfl, rfl, s53.getj (j := 1) rfl⟩
        ·
          refine dv (gyes_none rfl) (q_not (b := false) rfl) rfl (by decide) (cok1 trivial) ?_
          refine ⟨_, Wk.refl _ _, ?_⟩
          show awp _ _ _ _ _ _ _
          refine awp_cond_t rfl ?_
          refine awp_seq ?_
          refine awp_regs hF ?_
          refine dv (gyes_none rfl) (q_mv (v := vl) rfl) rfl (by decide) (cok1 trivial) ?_
          refine dv (gyes_none rfl) (q_as (v := vl) rfl) rfl (by decide) (cok1 trivial) ?_
          refine dv (gyes_none rfl) (q_as (v := .int .i64 25) rfl) rfl (by decide) (cok1 (cconst rfl)) ?_
          refine ⟨_, Wk.refl _ _, ?_⟩
          show awp _ _ _ _ _ _ _
          refine awp_ret_wk ?_
          have hr : nmOk n = false := by show nmK n n.size = _; rw [← show i = n.size by omega, ← hi.2]; first | assumption | exact Bool.eq_false_iff.2 (by assumption)
          have hv : addV l n b = 25 := by unfold addV; rw [if_pos hr]
          refine ⟨_, Wk.refl _ _, ?_⟩
          repeat (with_reducible first | refine then_ret ?_ | refine blk_ret ?_ | refine then_exit ?_ | refine blk_exit ?_ | refine blk_exit' (by decide) ?_ | refine blk_normal ?_ | refine then_normal ?_ | refine retq_ret ?_ | refine retq_normal ?_ | refine ng_normal ?_ | refine ng_ret ?_ | refine ng_exit ?_)
          refine ret_is (v := .tuple #[vl, .int .i64 25]) rfl (.tmp rfl (.tmp rfl .nil)) rfl ?_
          exact .inl ⟨by rw [hv]; decide, by rw [hv]; first | done | rfl, s38.kp⟩

end Go.Proofs.YtnafdgcikaifmaaGreatA


/-
  From a law's arguments, slices among them, to abstract states.
-/
namespace Go.Proofs.YtnafdgcikaifmaaGreatA
set_option linter.unusedVariables false
open Go Go.RowKit Go.Shelf
/-- The places of the arguments' blocks. -/
def rhoOf (ls : List (Option Loc)) : Ren := fun b => match ls[b]? with | some (some l) => .at l | _ => .none
/-- A block of an argument, or none. -/
def ArgO (W : World) (ol : Option Loc) (o : AObj) : Prop :=
  (ol = none ∧ o = .none) ∨ ∃ lc vs, ol = some lc ∧ o = .cells false vs 1 ∧ lc.blk < W.heap.size ∧ ∀ ρ, ORel ρ lc W (.cells false vs 1)
def ArgOs (W : World) : List (Option Loc) → AHeap → Prop
  | [], [] => True
  | ol :: ls, o :: H => ArgO W ol o ∧ ArgOs W ls H
  | _, _ => False
theorem ArgOs.at {W : World} : ∀ {ls : List (Option Loc)} {H : AHeap}, ArgOs W ls H → ∀ (b : Nat) (ol : Option Loc), ls[b]? = some ol → ∃ o : AObj, H[b]? = some o ∧ ArgO W ol o
  | [], [], _, b, ol, h => by simp at h
  | [], _ :: _, h, _, _, _ => h.elim
  | _ :: _, [], h, _, _, _ => h.elim
  | x :: ls, o :: H, ⟨h1, h2⟩, b, ol, h => by
    cases b with
    | zero => simp at h; subst h; exact ⟨o, by simp, h1⟩
    | succ b => simpa using ArgOs.at h2 b ol (by simpa using h)
theorem ArgOs.at' {W : World} : ∀ {ls : List (Option Loc)} {H : AHeap}, ArgOs W ls H → ∀ (b : Nat) (o : AObj), H[b]? = some o → ∃ ol : Option Loc, ls[b]? = some ol ∧ ArgO W ol o
  | [], [], _, b, o, h => by simp at h
  | [], _ :: _, h, _, _, _ => h.elim
  | _ :: _, [], h, _, _, _ => h.elim
  | x :: ls, o' :: H, ⟨h1, h2⟩, b, o, h => by
    cases b with
    | zero => simp at h; subst h; exact ⟨x, by simp, h1⟩
    | succ b => simpa using ArgOs.at' h2 b o (by simpa using h)
theorem ArgOs.len {W : World} : ∀ {ls : List (Option Loc)} {H : AHeap}, ArgOs W ls H → ls.length = H.length
  | [], [], _ => rfl
  | [], _ :: _, h => h.elim
  | _ :: _, [], h => h.elim
  | x :: ls, o' :: H, ⟨h1, h2⟩ => by simp [ArgOs.len h2]
/-- A slice that came as an argument: its block, its value. -/
structure SArg {α : Type} (f : α → Value) (w : World) (v : Value) (l : List α) (b : Nat) (ol : Option Loc) (o : AObj) (va : Value) : Prop where
  obj : ArgO w ol o
  val : ∀ ρ : Ren, (∀ lc, ol = some lc → ρ b = .at lc) → VRel ρ va v
  sl : ∀ H : AHeap, H[b]? = some o → Sl f H va l
end Go.Proofs.YtnafdgcikaifmaaGreatA


/-
  Slices among a law's arguments, as the row's facts tell of them.
-/
namespace Go.Proofs.YtnafdgcikaifmaaGreatA
set_option linter.unusedVariables false
open Go Go.RowKit Go.Shelf Go.ChangeShapes
/-- A slice that came in lies in a block of cells. -/
theorem arg_block {P : Program} {w : World} {b0 : Nat} {t e : TypeId} {x : Addr} {len cap : Nat} (ht : P.underlying t = some (.slice e)) (hval : Value.okWide P w .any b0 t (.slice (some x) len cap)) : x.spot = none ∧ ∃ cs T fr, w.heap[x.block]? = some (.cells cs T fr) := by
  simp only [Value.okWide, ht, Cell.okWide, Cell.ok] at hval
  obtain ⟨_, _, _, h2, row, cells, h3, _⟩ := hval
  refine ⟨h2, ?_⟩
  unfold World.shape? at h3
  split at h3
  · exact ⟨_, _, _, by assumption⟩
  · cases h3
theorem weightsAll_mem {H : Type} {P : Program} {e : TypeId} {n : Nat} : ∀ {ds : List (DataW H)} {d : DataW H}, d ∈ ds → n ∈ d.weights P e → n ∈ DataW.weightsAll P e ds
  | [], d, h, _ => by simp at h
  | d' :: ds, d, h, hn => by
    simp only [DataW.weightsAll, List.mem_append]
    rcases List.mem_cons.1 h with rfl | h
    · exact .inl hn
    · exact .inr (weightsAll_mem h hn)
def RowF {α : Type} (f : α → Value) (w : World) (a : Option Addr) (len cap : Nat) (zs : List α) : Prop :=
  (a = none ∧ len = 0 ∧ cap = 0) ∨ ∃ x, a = some x ∧ x.spot = none ∧ len ≤ cap ∧ zs.length = cap ∧ (∃ cs T fr, w.heap[x.block]? = some (.cells cs T fr)) ∧ ∀ i (h : i < zs.length), w.cell? (x.add i) = some (f zs[i])
theorem arg_strs {H : Type} {enc : TypeId × Value → H} {P : Program} {w : World} {base b0 : Nat} {t e : TypeId} {a : Option Addr} {len cap : Nat} {d : DataW H} {ps : List MemPlace} (ht : P.underlying t = some (.slice e)) (he : P.underlying e = some .string) (hc : P.cellsOf e = 1)
    (hby : 0 < P.bytesOf e) {ts : List TypeId} {ds : List (DataW H)} {j : Nat} (hsz : (DataW.weightsEach P ts ds).all (· ≤ reachBytes) = true) (hts : ts[j]? = some t) (hds : ds[j]? = some d)
    (hval : Value.okWide P w .any b0 t (.slice a len cap)) (h : DataW.Trod enc P w base (fun _ => true) true t (.slice a len cap) d ps) : ∃ zs : List ByteArray, RowF strv w a len cap zs ∧ (∀ s ∈ zs, s.size ≤ 140737488355328) ∧ zs.length ≤ 140737488355328 := by
  obtain ⟨fuel, hf⟩ := h
  rcases open_strings ht he hc hf with ⟨hcs, _⟩ | ⟨x, l, c, zs, hcs, _, hl, hm, hz, hd, hcell, hwz⟩
  · simp [Value.cells] at hcs
    obtain ⟨rfl, rfl, rfl⟩ := hcs
    exact ⟨[], .inl ⟨rfl, rfl, rfl⟩, by simp, by simp⟩
  · simp [Value.cells] at hcs
    obtain ⟨rfl, rfl, rfl⟩ := hcs
    obtain ⟨h1, h2⟩ := arg_block ht hval
    have hr : reachBytes ≤ 140737488355328 := by decide
    simp only [Prod.mk.injEq] at hd
    obtain ⟨rfl, _⟩ := hd
    refine ⟨zs, .inr ⟨x, rfl, h1, hl, by simpa using hz, h2, fun i hi => ?_⟩, fun s hs => ?_, ?_⟩
    · have := hcell i hi
      rw [this]
      simp [strv, List.getD_eq_getElem?_getD, hi]
    · have hm : s.size ∈ DataW.weightsEach P ts ds := by
        refine DataW.weights_mem_each hts hds _ ?_
        simp only [DataW.weights, ht, List.mem_cons, List.mem_append]
        have hs' : s ∈ zs.take len ∨ s ∈ zs.drop len := by rw [← List.mem_append, List.take_append_drop]; exact hs
        have key : ∀ l : List ByteArray, s ∈ l → s.size ∈ DataW.weightsAll P e (strs l : List (DataW H)) := fun l hl => by
          refine weightsAll_mem (d := .lit (.string s.data.toList)) ?_ (by simp [DataW.weights])
          unfold strs
          exact List.mem_map.2 ⟨s, hl, rfl⟩
        rcases hs' with h | h
        · exact .inr (.inl (key _ h))
        · exact .inr (.inr (key _ h))
      have := List.all_eq_true.1 hsz _ hm
      simp at this
      omega
    · have h3 := sized_slice hsz hts hds ht
      simp only [strs, List.length_map, List.length_take, List.length_drop] at h3
      have h4 := Nat.le_mul_of_pos_right (min len zs.length + (zs.length - len)) hby
      omega
end Go.Proofs.YtnafdgcikaifmaaGreatA


/-
  A law's arguments, slices and slices of slices among them, as blocks.
-/
namespace Go.Proofs.YtnafdgcikaifmaaGreatA
set_option linter.unusedVariables false
open Go Go.RowKit Go.Shelf Go.ChangeShapes
def rhoP (ls : List Plc) : Ren := fun b => ls.getD b .none
def AtOff (ρ : Ren) (off : Nat) (ls : List Plc) : Prop := ∀ (i : Nat) (p : Plc), ls[i]? = some p → ρ (off + i) = p
def InH (H : AHeap) (off : Nat) (L : AHeap) : Prop := ∀ (i : Nat) (o : AObj), L[i]? = some o → H[off + i]? = some o
theorem AtOff.app {ρ : Ren} {off : Nat} {a b : List Plc} (h : AtOff ρ off (a ++ b)) : AtOff ρ off a ∧ AtOff ρ (off + a.length) b := by
  refine ⟨fun i p hi => h i p ?_, fun i p hi => ?_⟩
  · rw [List.getElem?_append_left (List.getElem?_eq_some_iff.1 hi).1]; exact hi
  · have := h (a.length + i) p (by rw [List.getElem?_append_right (by omega)]; simpa using hi)
    rw [Nat.add_assoc]; exact this
theorem InH.app {H : AHeap} {off : Nat} {a b : AHeap} (h : InH H off (a ++ b)) : InH H off a ∧ InH H (off + a.length) b := by
  refine ⟨fun i p hi => h i p ?_, fun i p hi => ?_⟩
  · rw [List.getElem?_append_left (List.getElem?_eq_some_iff.1 hi).1]; exact hi
  · have := h (a.length + i) p (by rw [List.getElem?_append_right (by omega)]; simpa using hi)
    rw [Nat.add_assoc]; exact this
theorem InH.refl (H : AHeap) : InH H 0 H := fun i o h => by rw [Nat.zero_add]; exact h
def ArgP (ρ : Ren) (w : World) (p : Plc) (o : AObj) : Prop :=
  (p = .none ∧ o = .none) ∨ (p = .null ∧ o = .null) ∨ ∃ lc vs sz, p = .at lc ∧ o = .cells false vs sz ∧ lc.blk < w.heap.size ∧ ORel ρ lc w (.cells false vs sz)
structure PArg (w : World) (v : Value) (off : Nat) (ls : List Plc) (L : AHeap) (va : Value) : Prop where
  len : ls.length = L.length
  obj : ∀ ρ : Ren, AtOff ρ off ls → ∀ (i : Nat) (p : Plc), ls[i]? = some p → ∃ o : AObj, L[i]? = some o ∧ ArgP ρ w p o
  val : ∀ ρ, AtOff ρ off ls → VRel ρ va v
inductive PAll (w : World) : Nat → List Value → List Plc → AHeap → List Value → Prop
  | nil (off : Nat) : PAll w off [] [] [] []
  | cons {off : Nat} {v va : Value} {vs vas : List Value} {ls ls' : List Plc} {L L' : AHeap} (h : PArg w v off ls L va) (k : PAll w (off + ls.length) vs ls' L' vas) : PAll w off (v :: vs) (ls ++ ls') (L ++ L') (va :: vas)
theorem PArg.scalar {w : World} {v : Value} (off : Nat) (h : Scalar v = true) : PArg w v off [] [] v := ⟨rfl, fun ρ _ i p h => by simp at h, fun ρ _ => .scalar h ρ⟩
theorem PAll.sum {w : World} : ∀ {off : Nat} {vs vas : List Value} {ls : List Plc} {L : AHeap}, PAll w off vs ls L vas → ls.length = L.length ∧ (∀ ρ : Ren, AtOff ρ off ls → (∀ (i : Nat) (p : Plc), ls[i]? = some p → ∃ o : AObj, L[i]? = some o ∧ ArgP ρ w p o) ∧ LRel ρ vas vs) := by
  intro off vs vas ls L h
  induction h with
  | nil off => exact ⟨rfl, fun ρ _ => ⟨fun i p h => by simp at h, .nil ρ⟩⟩
  | @cons off v va vs vas ls ls' L L' h k ih =>
    refine ⟨by rw [List.length_append, List.length_append, h.len, ih.1], fun ρ hρ => ?_⟩
    obtain ⟨h1, h2⟩ := hρ.app
    obtain ⟨h3, h4⟩ := ih.2 ρ h2
    refine ⟨fun i p hi => ?_, .cons (h.val ρ h1) h4⟩
    by_cases e : i < ls.length
    · rw [List.getElem?_append_left e] at hi
      obtain ⟨o, k1, k2⟩ := h.obj ρ h1 i p hi
      exact ⟨o, by rw [List.getElem?_append_left (by rw [← h.len]; exact e)]; exact k1, k2⟩
    · rw [List.getElem?_append_right (by omega)] at hi
      obtain ⟨o, k1, k2⟩ := h3 _ p hi
      exact ⟨o, by rw [List.getElem?_append_right (by rw [← h.len]; omega), ← h.len]; exact k1, k2⟩
theorem world_of_acallsP {P : Program} {f : FuncId} {args : List Value} {args' : Array Value} {H : AHeap} {ls : List Plc} {v : Value} {w : World} (hA : PAll w 0 args'.toList ls H args) (hv : Scalar v = true) (h : ACalls P f args H (Rets v H)) :
    Calls P f args' w fun e w' => e = .returned v ∧ Below w.heap.size w w' := by
  obtain ⟨hlen, hs⟩ := hA.sum
  have hat : AtOff (rhoP ls) 0 ls := fun i p hi => by
    rw [Nat.zero_add]; unfold rhoP; rw [List.getD_eq_getElem?_getD, hi]; rfl
  obtain ⟨hob, hval⟩ := hs _ hat
  have hrev : ∀ (b : Nat) (o : AObj), H[b]? = some o → ∃ p, ls[b]? = some p ∧ ArgP (rhoP ls) w p o := fun b o hb => by
    have hbl := (List.getElem?_eq_some_iff.1 hb).1
    obtain ⟨o', h1, h2⟩ := hob b _ (List.getElem?_eq_getElem (by rw [hlen]; exact hbl))
    rw [hb] at h1; cases h1
    exact ⟨_, List.getElem?_eq_getElem (by rw [hlen]; exact hbl), h2⟩
  have hget : ∀ b p, rhoP ls b = p → p ≠ .none → ls[b]? = some p := fun b p hb hn => by
    unfold rhoP at hb
    rw [List.getD_eq_getElem?_getD] at hb
    cases e : ls[b]? with
    | none => rw [e] at hb; exact absurd hb.symm hn
    | some q => rw [e] at hb; exact congrArg some hb
  have hnw : ∀ b l, rhoP ls b = .at l → ¬ wr H b := fun b l hb ⟨o, h1, h2⟩ => by
    obtain ⟨o', h3, h4⟩ := hob b _ (hget b _ hb (by simp))
    rw [h1] at h3; cases h3
    rcases h4 with ⟨h3, _⟩ | ⟨h3, _⟩ | ⟨lc, vs, sz, h3, rfl, _⟩
    · cases h3
    · cases h3
    · cases h2
  have hh : HRel (rhoP ls) H w := by
    refine ⟨fun b hb => ?_, fun b l hb => ?_, fun b c l m _ hb _ hw => absurd hw (hnw b l hb), fun g vs sz hg => ?_, fun b hb => ?_⟩
    · unfold rhoP
      rw [List.getD_eq_getElem?_getD, List.getElem?_eq_none (by rw [hlen]; exact hb)]; rfl
    · obtain ⟨o, h1, h2⟩ := hob b _ (hget b _ hb (by simp))
      rcases h2 with ⟨h3, _⟩ | ⟨h3, _⟩ | ⟨lc, vs, sz, h3, rfl, h4, h5⟩
      · cases h3
      · cases h3
      · cases h3; exact ⟨_, h1, h4, h5⟩
    · obtain ⟨p, _, h3⟩ := hrev g _ hg
      rcases h3 with ⟨_, h3⟩ | ⟨_, h3⟩ | ⟨lc, vs, sz, _, h3, _⟩ <;> cases h3
    · obtain ⟨o, h1, h2⟩ := hob b _ (hget b _ hb (by simp))
      rcases h2 with ⟨h3, _⟩ | ⟨h3, _⟩ | ⟨lc, vs, sz, h3, _⟩ <;> cases h3
  refine (h _ w args' hh hval).mono ?_
  rintro e w' ⟨v1, v', H', ρ', rfl, ⟨rfl, rfl⟩, k1, k2, k3, k4⟩
  rw [k1.scalar_eq hv]
  exact ⟨rfl, k3.os, k3.tape, k3.output, k3.size, fun k hk => k3.keep k hk fun ⟨b, l, hb, _, hw⟩ => hnw b l hb hw⟩
/-! ### Slices that came in -/
/-- A slice in the world: its elements, of one cell each. -/
def SlC {α : Type} (f : α → Value) (w : World) (u : Value) (r : List α) : Prop :=
  (u = .slice none 0 0 ∧ r = []) ∨ ∃ x l c, u = .slice (some x) l c ∧ l ≤ c ∧ r.length = l ∧ (c = 0 ∨ (x.spot = none ∧ ∃ cs T fr, w.heap[x.block]? = some (.cells cs T fr) ∧ x.off + c ≤ cs.size ∧ ∀ i (h : i < r.length), cs[x.off + i]? = some (f r[i])))
theorem AtOff.one {ρ : Ren} {off : Nat} {p : Plc} (h : AtOff ρ off [p]) : ρ off = p := h 0 p rfl
theorem parg_one {w : World} {v va : Value} {off : Nat} {p : Plc} {o : AObj} (h1 : ∀ ρ, ρ off = p → ArgP ρ w p o) (h2 : ∀ ρ, ρ off = p → VRel ρ va v) : PArg w v off [p] [o] va :=
  ⟨rfl, fun ρ hρ i q hi => by
    cases i with
    | zero => simp at hi; subst hi; exact ⟨o, rfl, h1 ρ hρ.one⟩
    | succ i => simp at hi, fun ρ hρ => h2 ρ hρ.one⟩
theorem parg_row {α : Type} {f : α → Value} (hf : ∀ x, Scalar (f x) = true) {w : World} {u : Value} {r : List α} (h : SlC f w u r) (off : Nat) : ∃ p o va, PArg w u off [p] [o] va ∧ ∀ H, InH H off [o] → Sl f H va r := by
  rcases h with ⟨rfl, rfl⟩ | ⟨x, l, c, rfl, hl, hr, h⟩
  · exact ⟨.none, .none, .slice none 0 0, parg_one (fun ρ _ => .inl ⟨rfl, rfl⟩) (fun ρ _ => .nilSlice), fun H _ => .nil⟩
  · by_cases h0 : c = 0
    · subst h0
      obtain rfl : l = 0 := by omega
      obtain rfl : r = [] := List.length_eq_zero_iff.1 hr
      exact ⟨.null, .null, .slice (some ⟨off, 0, none⟩) 0 0, parg_one (fun ρ _ => .inr (.inl ⟨rfl, rfl⟩)) (fun ρ h => .empty h), fun H hH => .inr ⟨off, 0, 0, [], rfl, .inr (.inr (.inl ⟨hH 0 _ rfl, rfl⟩)), by simp, by simp, fun i h => by simp at h⟩⟩
    · obtain ⟨hsp, cs, T, fr, hb, hsz, hc⟩ := h.resolve_left h0
      have hlt : x.block < w.heap.size := (Array.getElem?_eq_some_iff.1 hb).1
      have hx : x = ⟨x.block, x.off, none⟩ := by cases x; simp at hsp; subst hsp; rfl
      refine ⟨.at ⟨x.block, x.off, x.off + c, 1⟩, .cells false (r.map f) 1, .slice (some ⟨off, 0, none⟩) l c, parg_one (fun ρ hρ => .inr (.inr ⟨_, _, _, rfl, rfl, hlt, rfl, cs, T, fr, hb, by simp; omega, hsz, fun i hi => ?_, fun h => by cases h⟩)) (fun ρ hρ => ?_), fun H hH => ?_⟩
      · have hi' : i < r.length := by simpa using hi
        have h1 := hc i hi'
        have e1 : (r.map f).getD i undef = f r[i] := by simp [hi']
        have e2 : cs.getD (x.off + i) undef = f r[i] := by rw [Array.getD_eq_getD_getElem?, h1]; rfl
        rw [e1]
        show VRel ρ (f r[i]) (cs.getD (x.off + i) undef)
        rw [e2]
        exact .scalar (hf _) ρ
      · rw [hx]
        exact .slice hρ hl (Nat.le_refl _) (.inl rfl) (by simp)
      · exact .inr ⟨off, 0, c, r.map f, by rw [hr], .inl ⟨false, hH 0 _ rfl⟩, by simp, by omega, fun i h => by simp [h]⟩
/-- A slice of slices. -/
structure Sl2C {α : Type} (f : α → Value) (w : World) (u : Value) (us : List Value) (rs : List (List α)) : Prop where
  out : SlC (fun v : Value => v) w u us
  len : us.length = rs.length
  row : ∀ i (h : i < us.length), SlC f w us[i] (nth rs i)
/-! ### From the row's facts -/
theorem addr_at {x : Addr} (hsp : x.spot = none) (i : Nat) : x.add i = ⟨x.block, x.off + i, none⟩ := by
  have hx : x = ⟨x.block, x.off, none⟩ := by cases x; simp at hsp; subst hsp; rfl
  rw [hx]
  unfold Addr.add
  split
  · subst i; rfl
  · rfl
theorem cell_some {w : World} {a : Addr} {v : Value} (h : w.cell? a = some v) : a.spot = none ∧ ∃ cs T fr, w.heap[a.block]? = some (.cells cs T fr) ∧ cs[a.off]? = some v := by
  unfold World.cell? at h
  split at h
  · rename_i c T fr hb
    split at h
    · cases h
    · rename_i hs
      exact ⟨by simpa using hs, c, T, fr, hb, h⟩
  · cases h
theorem slc_of {α : Type} {f : α → Value} {w : World} {x : Addr} {l c : Nat} {r : List α} (hl : l ≤ c) (hr : r.length = l) (hc : ∀ i, i < c → ∃ v, w.cell? (x.add i) = some v) (hv : ∀ i (h : i < r.length), w.cell? (x.add i) = some (f r[i])) : SlC f w (.slice (some x) l c) r := by
  refine .inr ⟨x, l, c, rfl, hl, hr, ?_⟩
  by_cases h0 : c = 0
  · exact .inl h0
  · right
    obtain ⟨v0, h1⟩ := hc 0 (by omega)
    have e0 : x.add 0 = x := by unfold Addr.add; rw [if_pos rfl]
    rw [e0] at h1
    obtain ⟨hsp, cs, T, fr, hb, _⟩ := cell_some h1
    have at' : ∀ i v, w.cell? (x.add i) = some v → cs[x.off + i]? = some v := fun i v h => by
      rw [addr_at hsp] at h
      obtain ⟨_, cs', T', fr', hb', h2⟩ := cell_some h
      simp only at hb' h2
      rw [hb] at hb'; cases hb'
      exact h2
    refine ⟨hsp, cs, T, fr, hb, ?_, fun i h => at' i _ (hv i h)⟩
    obtain ⟨v, h2⟩ := hc (c - 1) (by omega)
    have := (Array.getElem?_eq_some_iff.1 (at' _ _ h2)).1
    omega
/-! ### Arrays that came in -/
end Go.Proofs.YtnafdgcikaifmaaGreatA


/-
  A law's arguments: slices whose elements are structs or arrays, and arrays of numbers.
-/
namespace Go.Proofs.YtnafdgcikaifmaaGreatA
set_option linter.unusedVariables false
open Go Go.RowKit Go.Shelf Go.ChangeShapes Go.WideShapes
section
variable {α : Type} [Inhabited α] {f : α → List Value} {m : Nat}
def SlCm (f : α → List Value) (m : Nat) (w : World) (u : Value) (r : List α) : Prop :=
  (u = .slice none 0 0 ∧ r = []) ∨ ∃ x l c, u = .slice (some x) l c ∧ l ≤ c ∧ r.length = l ∧ (c = 0 ∨ (x.spot = none ∧ ∃ cs T fr, w.heap[x.block]? = some (.cells cs T fr) ∧ x.off + c * m ≤ cs.size ∧ ∀ i (h : i < r.length), ∀ j, j < m → cs[x.off + i * m + j]? = (f (nth r i))[j]?))
theorem parg_rowm (hw : Wm f m) (hm : 0 < m) (hf : ∀ x, ∀ u ∈ f x, Scalar u = true) {w : World} {u : Value} {r : List α} (h : SlCm f m w u r) (off : Nat) : ∃ p o va, PArg w u off [p] [o] va ∧ ∀ H, InH H off [o] → SlS f m H va r := by
  rcases h with ⟨rfl, rfl⟩ | ⟨x, l, c, rfl, hl, hr, h⟩
  · exact ⟨.none, .none, .slice none 0 0, parg_one (fun ρ _ => .inl ⟨rfl, rfl⟩) (fun ρ _ => .nilSlice), fun H _ => .nil⟩
  · by_cases h0 : c = 0
    · subst h0
      obtain rfl : l = 0 := by omega
      obtain rfl : r = [] := List.length_eq_zero_iff.1 hr
      exact ⟨.null, .null, .slice (some ⟨off, 0, none⟩) 0 0, parg_one (fun ρ _ => .inr (.inl ⟨rfl, rfl⟩)) (fun ρ h => .empty h), fun H hH => .inr ⟨off, 0, 0, [], rfl, .inr (.inr (.inl ⟨hH 0 _ rfl, rfl⟩)), by simp, by simp, by simp [fl]⟩⟩
    · obtain ⟨hsp, cs, T, fr, hb, hsz, hc⟩ := h.resolve_left h0
      have hlt : x.block < w.heap.size := (Array.getElem?_eq_some_iff.1 hb).1
      have hx : x = ⟨x.block, x.off, none⟩ := by cases x; simp at hsp; subst hsp; rfl
      have hlen : (fl f r).length = l * m := by rw [fl_len hw, hr]
      have hlm : l * m ≤ c * m := Nat.mul_le_mul_right m hl
      refine ⟨.at ⟨x.block, x.off, x.off + c * m, m⟩, .cells false (fl f r) m, .slice (some ⟨off, 0, none⟩) l c, parg_one (fun ρ hρ => .inr (.inr ⟨_, _, _, rfl, rfl, hlt, rfl, cs, T, fr, hb, by rw [hlen]; show x.off + l * m ≤ x.off + c * m; omega, hsz, fun i hi => ?_, fun h => by cases h⟩)) (fun ρ hρ => ?_), fun H hH => ?_⟩
      · have hi1 : i < l * m := by rw [← hlen]; exact hi
        have hq : i / m < r.length := by rw [hr]; exact Nat.div_lt_of_lt_mul (by rw [Nat.mul_comm]; exact hi1)
        have hj : i % m < m := Nat.mod_lt _ hm
        have hij : i / m * m + i % m = i := by rw [Nat.mul_comm]; exact Nat.div_add_mod i m
        have h1 := hc (i / m) hq (i % m) hj
        have h2 := fl_get hw hq hj
        rw [hij] at h2
        rw [show x.off + i / m * m + i % m = x.off + i by omega, ← h2] at h1
        have h3 : (fl f r)[i]? = some (fl f r)[i] := List.getElem?_eq_getElem hi
        rw [h3] at h1
        show VRel ρ ((fl f r).getD i undef) (cs.getD (x.off + i) undef)
        rw [List.getD_eq_getElem?_getD, h3, Array.getD_eq_getD_getElem?, h1]
        have hmem : (fl f r)[i] ∈ fl f r := List.getElem_mem hi
        obtain ⟨y, _, hy⟩ := List.mem_flatMap.1 hmem
        exact .scalar (hf y _ hy) ρ
      · rw [hx]
        exact .slice hρ hl (Nat.le_refl _) (.inl rfl) (by show x.off + 0 + c * m ≤ x.off + c * m; omega)
      · exact .inr ⟨off, 0, c, fl f r, by rw [hr], .inl ⟨false, hH 0 _ rfl⟩, by rw [hlen, hr]; omega, by omega, by rw [List.drop_zero, List.take_of_length_le (by rw [hlen, hr]; exact Nat.le_refl _)]⟩
def ElemOk (P : Program) (e : TypeId) (f : α → List Value) (ok : α → Prop) : Prop := ∀ (H : Type) (enc : TypeId × Value → H) (w : World) (base fuel : Nat) (cs : List Value) (x : DataW H × List MemPlace), DataW.trod enc P w base (fun _ => true) true fuel e cs = some x → ∃ a, cs = f a ∧ ok a
theorem trod_elems {H : Type} {enc : TypeId × Value → H} {P : Program} {w : World} {base fuel : Nat} {t e : TypeId} {u : Value} {x : DataW H × List MemPlace} {ok : α → Prop} (ht : P.underlying t = some (.slice e)) (hc : P.cellsOf e = m) (hm : 0 < m) (hw : Wm f m) (hE : ElemOk P e f ok)
    (h : DataW.trod enc P w base (fun _ => true) true fuel t [u] = some x) : ∃ r, SlCm f m w u r ∧ ∀ a ∈ r, ok a := by
  rcases Go.Deep.open_slice ht h with ⟨hcs, _⟩ | ⟨a, l, c, mm, n, D, Pl, hcs, hb, hl, hmx, hmm, _, hx⟩
  · simp at hcs; subst hcs
    exact ⟨[], .inl ⟨rfl, rfl⟩, by simp⟩
  · simp at hcs; subst hcs
    simp at hmm
    subst hmm
    rw [hc] at hx
    have hex : ∀ i : Nat, ∃ g : α, i < mm → ok g ∧ ∀ j, j < m → w.cell? (a.add (i * m + j)) = (f g)[j]? := fun i => by
      by_cases hi : i < mm
      · obtain ⟨cs', h1, h2⟩ := hx i hi
        obtain ⟨g, rfl, hg⟩ := hE _ _ _ _ _ _ _ h2
        obtain ⟨_, _, hcell⟩ := World.cells?_some h1
        exact ⟨g, fun _ => ⟨hg, fun j hj => by have := hcell j hj; rwa [Go.Deep.add_add] at this⟩⟩
      · exact ⟨default, fun h => absurd h hi⟩
    obtain ⟨g, hg⟩ : ∃ g : Nat → α, ∀ i, i < mm → ok (g i) ∧ ∀ j, j < m → w.cell? (a.add (i * m + j)) = (f (g i))[j]? := ⟨fun i => (hex i).choose, fun i => (hex i).choose_spec⟩
    refine ⟨(List.range l).map g, .inr ⟨a, l, mm, rfl, hl, by simp, ?_⟩, fun b hb' => ?_⟩
    · by_cases h0 : mm = 0
      · exact .inl h0
      · right
        have some' : ∀ i j, i < mm → j < m → ∃ v, w.cell? (a.add (i * m + j)) = some v := fun i j hi hj => by
          rw [(hg i hi).2 j hj]; exact ⟨_, List.getElem?_eq_getElem (by rw [hw]; exact hj)⟩
        obtain ⟨v0, h1⟩ := some' 0 0 (by omega) hm
        have e0 : a.add (0 * m + 0) = a := by rw [Nat.zero_mul]; unfold Addr.add; rw [if_pos rfl]
        rw [e0] at h1
        obtain ⟨hsp, cs, T, fr, hbk, _⟩ := cell_some h1
        have at' : ∀ i v, w.cell? (a.add i) = some v → cs[a.off + i]? = some v := fun i v h => by
          rw [addr_at hsp] at h
          obtain ⟨_, cs', T', fr', hb', h2⟩ := cell_some h
          simp only at hb' h2
          rw [hbk] at hb'; cases hb'
          exact h2
        refine ⟨hsp, cs, T, fr, hbk, ?_, fun i h j hj => ?_⟩
        · obtain ⟨v, h2⟩ := some' (mm - 1) (m - 1) (by omega) (by omega)
          have h3 := (Array.getElem?_eq_some_iff.1 (at' _ _ h2)).1
          have h4 : (mm - 1) * m + m = mm * m := by
            conv => rhs; rw [show mm = (mm - 1) + 1 by omega, Nat.add_mul, Nat.one_mul]
          omega
        · have hil : i < l := by simpa using h
          obtain ⟨v, h2⟩ := some' i j (by omega) hj
          have h3 := at' _ _ h2
          rw [(hg i (by omega)).2 j hj] at h2
          rw [Nat.add_assoc, h3, nth_eq (by simpa using hil)]
          simp only [List.getElem_map, List.getElem_range]
          exact h2.symm
    · obtain ⟨i, hi, rfl⟩ := List.mem_map.1 hb'
      exact (hg i (by have := List.mem_range.1 hi; omega)).1
end
section
variable {H : Type} {enc : TypeId × Value → H} {P : Program} {w : World} {base fuel : Nat} {t e : TypeId} {cs : List Value} {x : DataW H × List MemPlace}
theorem take1 {o : Nat} {v : Value} (h : (cs.drop o).take 1 = [v]) : cs[o]? = some v := by
  have h1 : ((cs.drop o).take 1)[0]? = some v := by rw [h]; rfl
  rw [List.getElem?_take, if_pos (by decide), List.getElem?_drop] at h1
  exact h1
theorem trod_len {fs : Array Field} (hs : P.underlying e = some (.struct fs)) (h : DataW.trod enc P w base (fun _ => true) true fuel e cs = some x) : cs.length = P.cellsOf e := by
  obtain ⟨_, _, _, _, hl, _⟩ := DataW.trod_struct hs h
  exact hl
theorem fld {fs : Array Field} (hs : P.underlying e = some (.struct fs)) (h : DataW.trod enc P w base (fun _ => true) true fuel e cs = some x) {i : Nat} {fd : Field} (hi : fs[i]? = some fd) : ∃ n y, DataW.trod enc P w base (fun _ => true) true n fd.type ((cs.drop fd.offset).take (P.cellsOf fd.type)) = some y := by
  obtain ⟨xs, n, _, _, _, hl, hx⟩ := DataW.trod_struct hs h
  have h1 := hx i fd hi
  have h2 := (Array.getElem?_eq_some_iff.1 hi).1
  rw [List.getElem?_eq_getElem (by omega)] at h1
  exact ⟨n, _, h1⟩
theorem fld_str {fs : Array Field} (hs : P.underlying e = some (.struct fs)) (h : DataW.trod enc P w base (fun _ => true) true fuel e cs = some x) {i : Nat} {fd : Field} (hi : fs[i]? = some fd) (hc : P.cellsOf fd.type = 1) (hu : P.underlying fd.type = some .string) : ∃ s : ByteArray, cs[fd.offset]? = some (.string s) ∧ s.size ≤ maxLen := by
  obtain ⟨n, y, h1⟩ := fld hs h hi
  rw [hc] at h1
  obtain ⟨s, e1, _, hw⟩ := DataW.trod_string hu h1
  exact ⟨s, take1 e1, hw⟩
end
end Go.Proofs.YtnafdgcikaifmaaGreatA


/-
  A law's arguments: arrays of whole numbers of a sign.
-/
namespace Go.Proofs.YtnafdgcikaifmaaGreatA
set_option linter.unusedVariables false
open Go Go.RowKit Go.Proofs
section
variable {P : Program} {e : TypeId} {H : Type} {enc : TypeId × Value → H} {w : World} {base fuel : Nat} {cs : List Value} {x : DataW H × List MemPlace}
end
theorem slc_of_rowf {α : Type} {f : α → Value} {w : World} {a : Option Addr} {len cap : Nat} {zs : List α} (h : RowF f w a len cap zs) : SlC f w (.slice a len cap) (zs.take len) := by
  rcases h with ⟨rfl, rfl, rfl⟩ | ⟨x, rfl, hsp, hl, hz, hb, hc⟩
  · exact .inl ⟨rfl, by simp⟩
  · refine slc_of hl (by rw [List.length_take]; omega) (fun i hi => ⟨_, hc i (by omega)⟩) (fun i hi => ?_)
    rw [List.length_take] at hi
    rw [hc i (by omega), List.getElem_take]
end Go.Proofs.YtnafdgcikaifmaaGreatA


/-
  Walks of functions of the given program, and what they compute.
-/
namespace Go.Proofs.YtnafdgcikaifmaaGreatA
set_option linter.unusedVariables false
open Go Go.RowKit Go.Shelf Go.Proofs
theorem elem_filc : ElemOk Tryz.prog 31 filc FlW := fun H enc w base fuel cs x h => by
  obtain ⟨n0, g0, b0⟩ := fld_str Tryz.underlying31 h (i := 0) rfl (by kernel_rfl) Tryz.underlying9
  obtain ⟨n1, g1, b1⟩ := fld_str Tryz.underlying31 h (i := 1) rfl (by kernel_rfl) Tryz.underlying9
  have hl : cs.length = 2 := (trod_len Tryz.underlying31 h).trans (by kernel_rfl)
  match cs, hl with
  | [c0, c1], _ =>
    obtain rfl : c0 = _ := Option.some.inj g0
    obtain rfl : c1 = _ := Option.some.inj g1
    exact ⟨(n0, n1), rfl, ⟨b0, b1⟩⟩

end Go.Proofs.YtnafdgcikaifmaaGreatA


/-
  Walks of functions of the given program, and what they compute.
-/
namespace Go.Proofs.YtnafdgcikaifmaaGreatA
set_option linter.unusedVariables false
open Go Go.RowKit Go.Shelf Go.Proofs
theorem set_same {α : Type} {F : List α} {j : Nat} {x : α} (h : F[j]? = some x) : F.set j x = F := by
  refine List.ext_getElem? fun i => ?_
  rw [List.getElem?_set]
  split
  · rename_i e; subst e
    split
    · exact h.symm
    · rename_i h2; rw [List.getElem?_eq_none (by omega)] at h; cases h
  · rfl
theorem St.moveB {H0 : AHeap} {X : Nat → Prop} {Z : Rs} {H H' : AHeap} {F : List (Nat × AObj)} (h : St H0 X Z H F) {j jl b9 bl bn : Nat} {o9 ol on : AObj} (h9 : F[j]? = some (b9, o9)) (hl : F[jl]? = some (bl, ol)) (hij : j ≠ jl) (k : K0 H H') (hb : H.length ≤ bn ∨ bn = bl) (hn : H'[bn]? = some on) : St H0 X Z H' (F.set jl (bn, on)) := by
  have hlt := lt_of_some (h.getj h9)
  have h2 := h.turn2 h9 hl hij (k.mono fun _ h => h.elim) (hb.imp id fun e => by rw [e]; simp) (bn := bn) (by
    rcases hb with hb | rfl
    · intro e; omega
    · exact h.nej hl h9 (Ne.symm hij)) ((k.get _ hlt fun h => h).trans (h.getj h9)) hn
  rw [set_same h9] at h2
  exact h2
theorem raddb_ok {H0 : AHeap} (bl : Nat) (l : List Fl) (h : H0[bl]? = some (.cells true (fl filc l) 2)) (hl1 : l.length ≤ 1000) (n b : ByteArray) (hn : n.size ≤ 9223372036854775807) (hb : b.size ≤ 9223372036854775807) : ACalls Tryz.prog 9 [.slice (some ⟨bl, 0, none⟩) l.length l.length, .string n, .string b] H0 (fun v H' => ∃ b', K0 H0 H' ∧ v = .tuple #[.slice (some ⟨b', 0, none⟩) (addS l (n, b)).length (addS l (n, b)).length, .int .i64 ((addV l n b : Nat) : Int)] ∧ (H0.length ≤ b' ∨ b' = bl) ∧ H'[b']? = some (.cells true (fl filc (addS l (n, b))) 2)) := by
  refine (radd_ok _ l (slsz_full (Z := Rd H0) filc_w (.inl ⟨true, h⟩) rfl (Nat.le_refl _)) hl1 n b hn hb).mono ?_
  rintro v H' (⟨q1, rfl, k⟩ | ⟨q1, bn, k, q2, rfl, q3⟩)
  · have e : addS l (n, b) = l := if_neg q1
    exact ⟨bl, k, by rw [e], .inr rfl, by rw [e]; exact (k.get _ (lt_of_some h) fun h => h).trans h⟩
  · have e : addS l (n, b) = l ++ [(n, b)] := if_pos q1
    exact ⟨bn, k, by rw [e, q1]; rfl, .inl q2, by rw [e]; exact q3⟩
set_option maxRecDepth 100000 in
set_option maxHeartbeats 4000000 in
theorem pclos_ok {H0 : AHeap} (x b : ByteArray) (n : Nat) (hn : n ≤ 1000000) (qn qr bw : Nat) (vW : Value) (wl : List Fl) (hnd : [qn, qr].Nodup) (h1 : H0[qn]? = some (.cells true [.int .i64 ((n : Nat) : Int)] 1)) (h2 : H0[qr]? = some (.cells true [.bool true] 1)) (hw1 : Rd H0 bw [vW] 1) (hw2 : bw ∉ [qn, qr]) (hW : SlSZ filc 2 (Off H0 [qn, qr]) vW wl) (hlt : n < wl.length) (hx : (nth wl n).1 = x) (hy : (nth wl n).2 = b) : ACalls Tryz.prog 12 [.string x, .string b, .pointer (some ⟨qr, 0, none⟩), .pointer (some ⟨qn, 0, none⟩), .pointer (some ⟨bw, 0, none⟩)] H0 (fun v H' => v = .bool true ∧ Kp (· ∈ [qn, qr]) H0 H' ∧ H'[qn]? = some (.cells true [.int .i64 ((n + 1 : Nat) : Int)] 1) ∧ H'[qr]? = some (.cells true [.bool true] 1)) := by
  have hF : Wd Fence.wide := .inl rfl
  have hM : Tryz.prog.follows .mixedOrders = true := by kernel_rfl
  have s0 : St H0 (· ∈ [qn, qr]) (Off H0 [qn, qr]) H0 [(qn, .cells true [.int .i64 ((n : Nat) : Int)] 1), (qr, .cells true [.bool true] 1)] := St.beginL [(qn, .cells true [.int .i64 ((n : Nat) : Int)] 1), (qr, .cells true [.bool true] 1)] hnd (allAt_mem ⟨h1, h2, trivial⟩)
  refine acalls_st Tryz.func12 rfl Tryz.ntmps12 rfl ?_
  refine awp_seq ?_
  refine awp_regs hF ?_
  refine dv (gyes_none rfl) (q_as (v := .bool false) rfl) rfl (by decide) (cok1 (cconst rfl)) ?_
  refine ⟨_, Wk.refl _ _, ?_⟩
  show awp _ _ _ _ _ _ _
  refine awp_seq ?_
  refine awp_regs hF ?_
  refine dv (gyes_none rfl) (q_load (v := .bool true) Tryz.isAgg4 rfl (s0.rd (j := 1) rfl) rfl) rfl (by decide) (cok1 trivial) ?_
  refine dv (gyes_none rfl) (q_mv (v := .bool true) rfl) rfl (by decide) (cok1 trivial) ?_
  refine dv (gyes_some rfl rfl) (q_load (v := .int .i64 ((n : Nat) : Int)) Tryz.isAgg3 rfl (s0.rd (j := 0) rfl) rfl) rfl (by decide) (cok1 trivial) ?_
  refine dv (gyes_some rfl rfl) (q_load (v := vW) Tryz.isAgg36 rfl (s0.zrd ⟨hw1, hw2⟩) rfl) rfl (by decide) (cok1 trivial) ?_
  refine dv (gyes_some rfl rfl) (q_len_sls (l := wl) Tryz.underlying36 (s0.sls hW) rfl) rfl (by decide) (cok1 trivial) ?_
  refine dv (gyes_some rfl rfl) (OpQ.cast (v' := .bool true) (q_int rfl rfl rfl) (congrArg Value.bool (decide_eq_true (by omega)))) rfl (by decide) (cok2 trivial trivial) ?_
  refine dv (gyes_none rfl) (q_pt (v := .bool true) rfl rfl) rfl (by decide) (call_ok rfl) ?_
  refine dv (gyes_none rfl) (q_mv (v := .bool true) rfl) rfl (by decide) (cok1 trivial) ?_
  refine dv (gyes_some rfl rfl) (q_load (v := vW) Tryz.isAgg36 rfl (s0.zrd ⟨hw1, hw2⟩) rfl) rfl (by decide) (cok1 trivial) ?_
  refine dv (gyes_some rfl rfl) (q_load (v := .int .i64 ((n : Nat) : Int)) Tryz.isAgg3 rfl (s0.rd (j := 0) rfl) rfl) rfl (by decide) (cok1 trivial) ?_
  refine dv (gyes_some rfl rfl) (q_index_sls (l := wl) (i := n) Tryz.underlying36 Tryz.sizeOf42 (s0.sls hW) filc_w rfl rfl (by omega)) rfl (by decide) (cok2 trivial trivial) ?_
  refine dv (gyes_some rfl rfl) (q_field_sls (l := wl) (i := n) Tryz.underlying42 rfl Tryz.sizeOf9 (s0.sls hW) filc_w rfl (by omega)) rfl (by decide) (cok1 trivial) ?_
  refine dv (gyes_some rfl rfl) (q_load_sls0 (l := wl) (i := n) (u := .string ((nth wl n).1)) Tryz.isAgg9 (s0.sls hW) filc_w rfl (by omega) (by decide) rfl) rfl (by decide) (cok1 trivial) ?_
  refine dv (gyes_some rfl rfl) (q_mv (v := .string x) rfl) rfl (by decide) (cok1 trivial) ?_
  refine dv (gyes_some rfl rfl) (OpQ.cast (v' := .bool true) (q_streq rfl rfl) (congrArg Value.bool (decide_eq_true hx))) rfl (by decide) (cok2 trivial trivial) ?_
  refine dv (gyes_none rfl) (q_pt (v := .bool true) rfl rfl) rfl (by decide) (call_ok rfl) ?_
  refine dv (gyes_none rfl) (q_mv (v := .bool true) rfl) rfl (by decide) (cok1 trivial) ?_
  refine dv (gyes_some rfl rfl) (q_load (v := vW) Tryz.isAgg36 rfl (s0.zrd ⟨hw1, hw2⟩) rfl) rfl (by decide) (cok1 trivial) ?_
  refine dv (gyes_some rfl rfl) (q_load (v := .int .i64 ((n : Nat) : Int)) Tryz.isAgg3 rfl (s0.rd (j := 0) rfl) rfl) rfl (by decide) (cok1 trivial) ?_
  refine dv (gyes_some rfl rfl) (q_index_sls (l := wl) (i := n) Tryz.underlying36 Tryz.sizeOf42 (s0.sls hW) filc_w rfl rfl (by omega)) rfl (by decide) (cok2 trivial trivial) ?_
  refine dv (gyes_some rfl rfl) (q_field_sls (l := wl) (i := n) Tryz.underlying42 rfl Tryz.sizeOf9 (s0.sls hW) filc_w rfl (by omega)) rfl (by decide) (cok1 trivial) ?_
  refine dv (gyes_some rfl rfl) (q_load_sls (l := wl) (i := n) (u := .string ((nth wl n).2)) Tryz.isAgg9 (s0.sls hW) filc_w rfl (by omega) (by decide) rfl) rfl (by decide) (cok1 trivial) ?_
  refine dv (gyes_some rfl rfl) (q_mv (v := .string b) rfl) rfl (by decide) (cok1 trivial) ?_
  refine dv (gyes_some rfl rfl) (OpQ.cast (v' := .bool true) (q_streq rfl rfl) (congrArg Value.bool (decide_eq_true hy))) rfl (by decide) (cok2 trivial trivial) ?_
  refine dv (gyes_none rfl) (q_pt (v := .bool true) rfl rfl) rfl (by decide) (call_ok rfl) ?_
  refine x_store1 [] hF s0 (by kernel_rfl) (gyes_none rfl) (j := 1) (v := .bool true) rfl Tryz.sizeOf4 rfl rfl rfl (lc_scalar rfl) (Nat.le_of_ble_eq_true rfl) trivial trivial rfl rfl (F' := [(qn, .cells true [.int .i64 ((n : Nat) : Int)] 1), (qr, .cells true [.bool true] 1)]) rfl (fun H1 s2 => ⟨?_, ?_⟩)
  · exact trivial
  refine ⟨_, Wk.refl _ _, ?_⟩
  show awp _ _ _ _ _ _ _
  refine awp_seq ?_
  refine awp_regs hF ?_
  refine dv (gyes_none rfl) (q_load (v := .int .i64 ((n : Nat) : Int)) Tryz.isAgg3 rfl (s2.rd (j := 0) rfl) rfl) rfl (by decide) (cok1 trivial) ?_
  refine dv (gyes_none rfl) (OpQ.cast (v' := .int .i64 ((n + 1 : Nat) : Int)) (q_int rfl rfl rfl) (congrArg _ ((i64_in (by omega)).trans (by first | rfl | omega | (push_cast; rfl))))) rfl (by decide) (cok2 trivial (cconst rfl)) ?_
  refine x_store1 [] hF s2 (by kernel_rfl) (gyes_none rfl) (j := 0) (v := .int .i64 ((n + 1 : Nat) : Int)) rfl Tryz.sizeOf3 rfl rfl rfl (lc_scalar rfl) (Nat.le_of_ble_eq_true rfl) trivial trivial rfl rfl (F' := [(qn, .cells true [.int .i64 ((n + 1 : Nat) : Int)] 1), (qr, .cells true [.bool true] 1)]) rfl (fun H3 s4 => ⟨?_, ?_⟩)
  · exact trivial
  refine ⟨_, Wk.refl _ _, ?_⟩
  show awp _ _ _ _ _ _ _
  refine awp_seq ?_
  refine awp_regs hF ?_
  refine dv (gyes_none rfl) (q_as (v := .bool true) rfl) rfl (by decide) (cok1 (cconst rfl)) ?_
  refine ⟨_, Wk.refl _ _, ?_⟩
  show awp _ _ _ _ _ _ _
  refine awp_ret_wk ?_
  refine ⟨_, Wk.refl _ _, ?_⟩
  repeat (with_reducible first | refine then_ret ?_ | refine blk_ret ?_ | refine then_exit ?_ | refine blk_exit ?_ | refine blk_exit' (by decide) ?_ | refine blk_normal ?_ | refine then_normal ?_ | refine retq_ret ?_ | refine retq_normal ?_ | refine ng_normal ?_ | refine ng_ret ?_ | refine ng_exit ?_)
  refine ret_is (v := .bool true) rfl (.tmp rfl .nil) rfl ?_
  exact ⟨rfl, s4.kp, s4.getj (j := 0) rfl, s4.getj (j := 1) rfl⟩
theorem prun_ok {H0 : AHeap} {F : List (Nat × AObj)} {Z : Rs} {H : AHeap} (hs : St H0 none0 Z H F) (bf bi : Nat) (vP vW : Value) (ps : List Nat) (l : List Fl) (hl : l.length ≤ 1000) (qn qr bw jn jr : Nat) (h1 : F[jn]? = some (qn, .cells true [.int .i64 0] 1)) (h2 : F[jr]? = some (qr, .cells true [.bool true] 1)) (hij : jn ≠ jr)
    (hw2 : bw ∉ [qn, qr]) (hi2 : bi ∉ [qn, qr]) (hf2 : bf ∉ [qn, qr]) (hw1 : Rd H bw [vW] 1) (hi1 : Rd H bi [.pointer (some ⟨bf, 0, none⟩)] 1) (hf1 : Rd H bf [vP] 1) (hW : SlSZ filc 2 (Off H [qn, qr]) vW l) (hP : SlZ ptv (Off H [qn, qr]) vP ps) (hz : FZ (Off H [qn, qr]) ps l) :
    ACalls Tryz.prog 16 [.func (.func 12) #[] #[.pointer (some ⟨qr, 0, none⟩), .pointer (some ⟨qn, 0, none⟩), .pointer (some ⟨bw, 0, none⟩)], .pointer (some ⟨bi, 0, none⟩)] H (fun v H' => v = .tuple #[] ∧ Kp (· ∈ [qn, qr]) H H' ∧ H'[qn]? = some (.cells true [.int .i64 ((l.length : Nat) : Int)] 1) ∧ H'[qr]? = some (.cells true [.bool true] 1)) := by
  have hne : qn ≠ qr := hs.nej h1 h2 hij
  let Iv : Nat → AHeap → Prop := fun i H' => Kp (· ∈ [qn, qr]) H H' ∧ H'[qn]? = some (.cells true [.int .i64 ((i : Nat) : Int)] 1) ∧ H'[qr]? = some (.cells true [.bool true] 1)
  refine (all1_ok (H0 := H) bf vP ps l hl _ bi Iv (fun _ _ => False) ?h0 ?hm ?hb ?hy).mono ?_
  case h0 => exact ⟨.refl _ _, hs.getj h1, hs.getj h2⟩
  case hm =>
    rintro i H1 H2 ⟨q1, q6, q7⟩ kk
    exact ⟨q1.trans (kk.mono fun _ h => h.elim), (kk.get _ (lt_of_some q6) (fun h => h)).trans q6, (kk.get _ (lt_of_some q7) (fun h => h)).trans q7⟩
  case hb =>
    rintro i H1 ⟨q1, _⟩
    exact ⟨q1.rd hi1 hi2, q1.rd hf1 hf2, hP.mono fun b vs sz h => q1.rd h.1 h.2, hz.mono fun b vs sz h => q1.rd h.1 h.2⟩
  case hy =>
    rintro i H1 ⟨q1, q6, q7⟩ hi
    refine ylds_func Tryz.call12 ((pclos_ok (H0 := H1) (nth l i).1 (nth l i).2 i (by omega) qn qr bw vW l (by simp [hne]) q6 q7 (q1.rd hw1 hw2) hw2 (hW.mono fun b vs sz h => ⟨q1.rd h.1 h.2, h.2⟩) hi rfl rfl).mono ?_)
    rintro v H2 ⟨rfl, r1, r4, r5⟩
    exact ⟨true, rfl, fun h => ⟨q1.trans r1, r4, r5⟩, fun h => nomatch h⟩
  rintro v H' ⟨rfl, ⟨q1, q6, q7⟩ | ⟨_, _, h⟩⟩
  · exact ⟨rfl, q1, q6, q7⟩
  · exact h.elim

end Go.Proofs.YtnafdgcikaifmaaGreatA

