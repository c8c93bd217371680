/-
  Walks over abstract states: texts of one claim, merged.
-/
import Derived.Test.YtoaliamemkjfhaaM2
import Derived.Test.YtoaliamemkjfhaaProg
import Derived.KernelRfl
import Derived.Test.YtoaliamemkjfhaaPSpk
/-
  Walks of functions of the given program, and what they compute.
-/
namespace Go.Proofs.YtoaliamemkjfhaaA
set_option linter.unusedVariables false
open Go Go.RowKit Go.Shelf Go.Proofs
theorem imask_mod (n : Nat) (hn : n < 65536) : imask (n : Int) 32767 = n % 32768 := by
  unfold imask
  rw [BitVec.toNat_ofInt]
  have h1 : ((n : Int) % ((2 ^ 64 : Nat) : Int)).toNat = n := by omega
  rw [h1, show (32767 : Nat) = 2 ^ 15 - 1 by decide, Nat.and_two_pow_sub_one_eq_mod]
theorem imask_hi (n : Nat) (hn : n < 65536) : (((imask (n : Int) 32768 : Nat) : Int) != 0) = decide (32768 ≤ n) := by
  unfold imask
  rw [BitVec.toNat_ofInt]
  have h1 : ((n : Int) % ((2 ^ 64 : Nat) : Int)).toNat = n := by omega
  rw [h1, show (32768 : Nat) = 2 ^ 15 by decide]
  have key : (n &&& 2 ^ 15 = 0) ↔ n.testBit 15 = false := by
    constructor
    · intro h
      have h2 : (n &&& 2 ^ 15).testBit 15 = false := by rw [h]; simp
      rwa [Nat.testBit_and, Nat.testBit_two_pow_self, Bool.and_true] at h2
    · intro h
      apply Nat.eq_of_testBit_eq
      intro i
      rw [Nat.testBit_and, Nat.testBit_two_pow]
      by_cases e : 15 = i
      · subst e; rw [h]; simp
      · simp [e]
  have hb : n.testBit 15 = decide (n / 2 ^ 15 % 2 = 1) := by first | exact Nat.testBit_eq_decide_div_mod_eq | exact Nat.testBit_to_div_mod
  by_cases h : 2 ^ 15 ≤ n
  · have h2 : n / 2 ^ 15 % 2 = 1 := by omega
    have h3 : n &&& 2 ^ 15 ≠ 0 := fun h4 => by rw [key.1 h4, decide_eq_true h2] at hb; cases hb
    rw [decide_eq_true h]; simp only [bne_iff_ne]; omega
  · have h2 : ¬ n / 2 ^ 15 % 2 = 1 := by omega
    have h3 : n &&& 2 ^ 15 = 0 := key.2 (by rw [hb, decide_eq_false h2])
    rw [decide_eq_false h, h3]; rfl
def ofN (ns : List Nat) (i : Int) : Nat := if 0 ≤ i ∧ i < ns.length then nth ns i.toNat else 1
theorem ofN_in {ns : List Nat} {i : Int} (h : 0 ≤ i) (h2 : i < ns.length) : ofN ns i = nth ns i.toNat := if_pos ⟨h, h2⟩
theorem ofN_out {ns : List Nat} {i : Int} (h : ¬ (0 ≤ i ∧ i < ns.length)) : ofN ns i = 1 := if_neg h
def isD (k : Nat) (d : DefT) : Bool := d.1 == (k : Int)
def isN (k : Nat) (d : NeedT) : Bool := d.1 == (k : Int)
def ofName (ds : List DefT) (ne : List NeedT) (n : Nat) : ByteArray :=
  if 0 ≤ ixG ds (isD (n % 32768)) then (nth ds (ixG ds (isD (n % 32768))).toNat).2 else if 0 ≤ ixG ne (isN (n % 32768)) then (nth ne (ixG ne (isN (n % 32768))).toNat).2.2.1 else ⟨#[]⟩
def ofFile (ds : List DefT) (ne : List NeedT) (n : Nat) : ByteArray :=
  if 0 ≤ ixG ds (isD (n % 32768)) then ⟨#[]⟩ else if 0 ≤ ixG ne (isN (n % 32768)) then (nth ne (ixG ne (isN (n % 32768))).toNat).2.1 else ⟨#[]⟩
set_option maxRecDepth 100000 in
set_option maxHeartbeats 4000000 in
theorem closD_ok {H0 : AHeap} (d : DefT) (k bc : Nat) (hc : Rd H0 bc [.int .i64 ((k : Nat) : Int)] 1) : ACalls Try.prog 31 [.agg #[.int .i64 d.1, .string d.2], .pointer (some ⟨bc, 0, none⟩)] H0 (Rets (.bool (isD k d)) H0) := by
  have hF : Wd Fence.wide := .inl rfl
  have hM : Try.prog.follows .mixedOrders = true := by kernel_rfl
  have s0 := St.begin H0
  refine acalls_st Try.func31 rfl Try.ntmps31 rfl ?_
  refine awp_seq ?_
  refine awp_regs hF ?_
  refine x_new (fun b => .pointer (some ⟨b, 0, none⟩)) s0 (gN rfl) (q_box (v := .agg #[.int .i64 d.1, .string d.2]) (vs := [.int .i64 d.1, .string d.2]) 2 rfl (by exact trivial) rfl) rfl (by decide) (cok1 trivial) (fun b1 H2 hb4 s3 => ?_)
  refine dv (gN rfl) (q_as (v := .bool false) rfl) rfl (by decide) (cok1 (cconst rfl)) ?_
  refine ⟨_, Wk.refl _ _, ?_⟩
  show awp _ _ _ _ _ _ _
  refine awp_seq ?_
  refine awp_regs hF ?_
  refine dv (gN rfl) (q_field Try.underlying38 rfl Try.sizeOf3 rfl (s3.rd (j := 0) rfl)) rfl (by decide) (cok1 trivial) ?_
  refine dv (gN rfl) (q_load (v := .int .i64 d.1) Try.isAgg3 rfl (s3.rd (j := 0) rfl) rfl) rfl (by decide) (cok1 trivial) ?_
  refine dv (gN rfl) (q_load (v := .int .i64 ((k : Nat) : Int)) Try.isAgg3 rfl (s3.zrd hc) rfl) rfl (by decide) (cok1 trivial) ?_
  refine dv (gN rfl) (q_int rfl rfl rfl) rfl (by decide) (cok2 trivial trivial) ?_
  refine dv (gN rfl) (q_as (v := .bool ((d.1 : Int) == ((k : Nat) : Int))) rfl) rfl (by decide) (cok1 trivial) ?_
  refine ⟨_, Wk.refl _ _, ?_⟩
  show awp _ _ _ _ _ _ _
  refine awp_ret_wk ?_
  refine ⟨_, Wk.refl _ _, ?_⟩
  repeat (with_reducible first | refine then_ret ?_ | refine blk_ret ?_ | refine then_exit ?_ | refine blk_exit ?_ | refine blk_exit' (by decide) ?_ | refine blk_normal ?_ | refine then_normal ?_ | refine retq_ret ?_ | refine retq_normal ?_ | refine ng_normal ?_ | refine ng_ret ?_ | refine ng_exit ?_)
  exact ret_none (v := .bool ((d.1 : Int) == ((k : Nat) : Int))) rfl s3.kp (.tmp rfl .nil) rfl rfl ⟨rfl, rfl⟩
set_option maxRecDepth 100000 in
set_option maxHeartbeats 4000000 in
theorem closN_ok {H0 : AHeap} (d : NeedT) (k bc : Nat) (hc : Rd H0 bc [.int .i64 ((k : Nat) : Int)] 1) : ACalls Try.prog 33 [.agg #[.int .i64 d.1, .string d.2.1, .string d.2.2.1, .bool d.2.2.2], .pointer (some ⟨bc, 0, none⟩)] H0 (Rets (.bool (isN k d)) H0) := by
  have hF : Wd Fence.wide := .inl rfl
  have hM : Try.prog.follows .mixedOrders = true := by kernel_rfl
  have s0 := St.begin H0
  refine acalls_st Try.func33 rfl Try.ntmps33 rfl ?_
  refine awp_seq ?_
  refine awp_regs hF ?_
  refine x_new (fun b => .pointer (some ⟨b, 0, none⟩)) s0 (gN rfl) (q_box (v := .agg #[.int .i64 d.1, .string d.2.1, .string d.2.2.1, .bool d.2.2.2]) (vs := [.int .i64 d.1, .string d.2.1, .string d.2.2.1, .bool d.2.2.2]) 4 rfl (by exact trivial) rfl) rfl (by decide) (cok1 trivial) (fun b1 H2 hb4 s3 => ?_)
  refine dv (gN rfl) (q_as (v := .bool false) rfl) rfl (by decide) (cok1 (cconst rfl)) ?_
  refine ⟨_, Wk.refl _ _, ?_⟩
  show awp _ _ _ _ _ _ _
  refine awp_seq ?_
  refine awp_regs hF ?_
  refine dv (gN rfl) (q_field Try.underlying50 rfl Try.sizeOf3 rfl (s3.rd (j := 0) rfl)) rfl (by decide) (cok1 trivial) ?_
  refine dv (gN rfl) (q_load (v := .int .i64 d.1) Try.isAgg3 rfl (s3.rd (j := 0) rfl) rfl) rfl (by decide) (cok1 trivial) ?_
  refine dv (gN rfl) (q_load (v := .int .i64 ((k : Nat) : Int)) Try.isAgg3 rfl (s3.zrd hc) rfl) rfl (by decide) (cok1 trivial) ?_
  refine dv (gN rfl) (q_int rfl rfl rfl) rfl (by decide) (cok2 trivial trivial) ?_
  refine dv (gN rfl) (q_as (v := .bool ((d.1 : Int) == ((k : Nat) : Int))) rfl) rfl (by decide) (cok1 trivial) ?_
  refine ⟨_, Wk.refl _ _, ?_⟩
  show awp _ _ _ _ _ _ _
  refine awp_ret_wk ?_
  refine ⟨_, Wk.refl _ _, ?_⟩
  repeat (with_reducible first | refine then_ret ?_ | refine blk_ret ?_ | refine then_exit ?_ | refine blk_exit ?_ | refine blk_exit' (by decide) ?_ | refine blk_normal ?_ | refine then_normal ?_ | refine retq_ret ?_ | refine retq_normal ?_ | refine ng_normal ?_ | refine ng_ret ?_ | refine ng_exit ?_)
  exact ret_none (v := .bool ((d.1 : Int) == ((k : Nat) : Int))) rfl s3.kp (.tmp rfl .nil) rfl rfl ⟨rfl, rfl⟩
set_option maxRecDepth 100000 in
set_option maxHeartbeats 4000000 in
theorem indexD_ok {H0 : AHeap} (l : List DefT) (vL : Value) (hL : SlS defc 2 H0 vL l) (hl : l.length ≤ 1000000) (k bc : Nat) (hc : Rd H0 bc [.int .i64 ((k : Nat) : Int)] 1) : ACalls Try.prog 30 [vL, .func (.func 31) #[] #[.pointer (some ⟨bc, 0, none⟩)]] H0 (Rets (.int .i64 (ixG l (isD k))) H0) := by
  have hF : Wd Fence.wide := .inl rfl
  have hM : Try.prog.follows .mixedOrders = true := by kernel_rfl
  have s0 := St.begin H0
  refine acalls_st Try.func30 rfl Try.ntmps30 rfl ?_
  refine awp_seq ?_
  refine awp_regs hF ?_
  refine dv (gN rfl) (q_as (v := .int .i64 0) rfl) rfl (by decide) (cok1 (cconst rfl)) ?_
  refine ⟨_, Wk.refl _ _, ?_⟩
  show awp _ _ _ _ _ _ _
  refine awp_seq ?_
  refine awp_seq ?_
  refine awp_regs hF ?_
  refine dv (gN rfl) (q_mv (v := vL) rfl) rfl (by decide) (cok1 trivial) ?_
  refine dv (gN rfl) (q_len_sls (l := l) Try.underlying26 (s0.sls hL) rfl) rfl (by decide) (cok1 trivial) ?_
  refine dv (gN rfl) (q_mv (v := .int .i64 0) rfl) rfl (by decide) (cok1 (cconst rfl)) ?_
  refine ⟨_, Wk.refl _ _, ?_⟩
  show awp _ _ _ _ _ _ _
  refine awp_block ?_
  refine awp_wk (Wk.U [(0, vL), (1, .func (.func 31) #[] #[.pointer (some ⟨bc, 0, none⟩)]), (7, .int .i64 ((l.length : Nat) : Int)), (8, .int .i64 0)] ⟨rfl, rfl, rfl, rfl, trivial⟩) ?_
  refine awp_loop (fun (i : Nat) st => ∃ (H1 : AHeap), st = ⟨19, U [(0, vL), (1, .func (.func 31) #[] #[.pointer (some ⟨bc, 0, none⟩)]), (7, .int .i64 ((l.length : Nat) : Int)), (8, .int .i64 ((i : Nat) : Int))], [], H1⟩ ∧ St H0 (none0) (Rd H0) H1 [] ∧ (∀ j, j < i → isD k (nth l j) = false)) (fun (i : Nat) => l.length - i) (x0 := (0)) ?h0 ?round
  case h0 =>
    exact ⟨_, rfl, s0, fun j h => absurd h (Nat.not_lt_zero _)⟩
  case round =>
    rintro i _ ⟨H1, rfl, s2, hi⟩
    refine awp_seq ?_
    refine awp_regs hF ?_
    refine dvb (gN rfl) (q_int rfl rfl rfl) rfl (by decide) (cok2 trivial trivial) (fun c1 => ?_) (fun c1 => ?_)
    ·
      replace c1 := of_decide_eq_true c1
      refine ⟨_, Wk.refl _ _, ?_⟩
      show awp _ _ _ _ _ _ _
      refine awp_seq ?_
      refine awp_cond_t rfl ?_
      refine awp_skip_wk ?_
      refine ⟨_, Wk.refl _ _, ?_⟩
      show awp _ _ _ _ _ _ _
      refine awp_seq ?_
      refine awp_block ?_
      refine awp_seq ?_
      refine awp_regs hF ?_
      refine dv (gN rfl) (q_mv (v := .int .i64 ((i : Nat) : Int)) rfl) rfl (by decide) (cok1 trivial) ?_
      refine dv (gN rfl) (q_as (v := .int .i64 ((i : Nat) : Int)) rfl) rfl (by decide) (cok1 trivial) ?_
      refine ⟨_, Wk.refl _ _, ?_⟩
      show awp _ _ _ _ _ _ _
      refine awp_seq ?_
      refine awp_regs hF ?_
      refine dv (gN rfl) (q_mv (v := .func (.func 31) #[] #[.pointer (some ⟨bc, 0, none⟩)]) rfl) rfl (by decide) (cok1 trivial) ?_
      refine dv (gN rfl) (q_mv (v := vL) rfl) rfl (by decide) (cok1 trivial) ?_
      refine dv (gN rfl) (q_mv (v := .int .i64 ((i : Nat) : Int)) rfl) rfl (by decide) (cok1 trivial) ?_
      refine dv (gN rfl) (q_index_sls (l := l) (i := i) Try.underlying26 Try.sizeOf38 (s2.sls hL) defc_w rfl rfl (by omega)) rfl (by decide) (cok2 trivial trivial) ?_
      refine dv (gN rfl) (q_loadA_sls (l := l) (i := i) Try.isAgg38 Try.sizeOf38 (s2.sls hL) defc_w rfl (by omega)) rfl (by decide) (cok1 trivial) ?_
      refine dvb (gN rfl) (q_callv0 Try.call31 rfl rfl (closD_ok (nth l i) k bc (s2.zrd hc))) rfl (by decide) (cok2 trivial trivial) (fun c2 => ?_) (fun c2 => ?_)
      ·
        refine ⟨_, Wk.refl _ _, ?_⟩
        show awp _ _ _ _ _ _ _
        refine awp_cond_t rfl ?_
        refine awp_seq ?_
        refine awp_regs hF ?_
        refine dv (gN rfl) (q_mv (v := .int .i64 ((i : Nat) : Int)) rfl) rfl (by decide) (cok1 trivial) ?_
        refine dv (gN rfl) (q_as (v := .int .i64 ((i : Nat) : Int)) rfl) rfl (by decide) (cok1 trivial) ?_
        refine ⟨_, Wk.refl _ _, ?_⟩
        show awp _ _ _ _ _ _ _
        refine awp_ret_wk ?_
        refine ⟨_, Wk.refl _ _, ?_⟩
        repeat (with_reducible first | refine then_ret ?_ | refine blk_ret ?_ | refine then_exit ?_ | refine blk_exit ?_ | refine blk_exit' (by decide) ?_ | refine blk_normal ?_ | refine then_normal ?_ | refine retq_ret ?_ | refine retq_normal ?_ | refine ng_normal ?_ | refine ng_ret ?_ | refine ng_exit ?_)
        exact ret_none (v := .int .i64 ((i : Nat) : Int)) rfl s2.kp (.tmp rfl .nil) rfl rfl ⟨by rw [ixG_yes (i := i) (by omega) (by assumption) hi], rfl⟩
      ·
        refine ⟨_, Wk.refl _ _, ?_⟩
        show awp _ _ _ _ _ _ _
        refine awp_cond_f rfl ?_
        refine awp_skip_wk ?_
        refine ⟨_, Wk.refl _ _, ?_⟩
        show awp _ _ _ _ _ _ _
        refine awp_regs hF ?_
        refine dv (gN rfl) (OpQ.cast (v' := .int .i64 ((i + 1 : Nat) : Int)) (q_int rfl rfl rfl) (congrArg _ ((i64_in (by omega)).trans (by first | rfl | omega | (push_cast; rfl))))) rfl (by decide) (cok2 trivial (cconst rfl)) ?_
        refine dv (gN rfl) (q_mv (v := .int .i64 ((i + 1 : Nat) : Int)) rfl) rfl (by decide) (cok1 trivial) ?_
        refine ⟨_, Wk.U [(0, vL), (1, .func (.func 31) #[] #[.pointer (some ⟨bc, 0, none⟩)]), (7, .int .i64 ((l.length : Nat) : Int)), (8, .int .i64 (((i + 1) : Nat) : Int))] ⟨rfl, rfl, rfl, rfl, trivial⟩, (i + 1), ⟨_, rfl, s2, lt_succ_cases hi (by assumption)⟩, (by omega)⟩
    ·
      replace c1 := of_decide_eq_false c1
      refine ⟨_, Wk.refl _ _, ?_⟩
      show awp _ _ _ _ _ _ _
      refine awp_seq ?_
      refine awp_cond_f rfl ?_
      refine awp_exit_wk ?_
      refine ⟨_, Wk.refl _ _, ?_⟩
      show awp _ _ _ _ _ _ _
      refine awp_seq ?_
      refine awp_regs hF ?_
      refine dv (gN rfl) (q_as (v := .int .i64 (-1)) rfl) rfl (by decide) (cok1 (cconst rfl)) ?_
      refine ⟨_, Wk.refl _ _, ?_⟩
      show awp _ _ _ _ _ _ _
      refine awp_ret_wk ?_
      refine ⟨_, Wk.refl _ _, ?_⟩
      repeat (with_reducible first | refine then_ret ?_ | refine blk_ret ?_ | refine then_exit ?_ | refine blk_exit ?_ | refine blk_exit' (by decide) ?_ | refine blk_normal ?_ | refine then_normal ?_ | refine retq_ret ?_ | refine retq_normal ?_ | refine ng_normal ?_ | refine ng_ret ?_ | refine ng_exit ?_)
      exact ret_none (v := .int .i64 (-1)) rfl s2.kp (.tmp rfl .nil) rfl rfl ⟨by rw [ixG_no (i := i) (by omega) hi], rfl⟩
set_option maxRecDepth 100000 in
set_option maxHeartbeats 4000000 in
theorem indexN_ok {H0 : AHeap} (l : List NeedT) (vL : Value) (hL : SlS needc 4 H0 vL l) (hl : l.length ≤ 1000000) (k bc : Nat) (hc : Rd H0 bc [.int .i64 ((k : Nat) : Int)] 1) : ACalls Try.prog 32 [vL, .func (.func 33) #[] #[.pointer (some ⟨bc, 0, none⟩)]] H0 (Rets (.int .i64 (ixG l (isN k))) H0) := by
  have hF : Wd Fence.wide := .inl rfl
  have hM : Try.prog.follows .mixedOrders = true := by kernel_rfl
  have s0 := St.begin H0
  refine acalls_st Try.func32 rfl Try.ntmps32 rfl ?_
  refine awp_seq ?_
  refine awp_regs hF ?_
  refine dv (gN rfl) (q_as (v := .int .i64 0) rfl) rfl (by decide) (cok1 (cconst rfl)) ?_
  refine ⟨_, Wk.refl _ _, ?_⟩
  show awp _ _ _ _ _ _ _
  refine awp_seq ?_
  refine awp_seq ?_
  refine awp_regs hF ?_
  refine dv (gN rfl) (q_mv (v := vL) rfl) rfl (by decide) (cok1 trivial) ?_
  refine dv (gN rfl) (q_len_sls (l := l) Try.underlying45 (s0.sls hL) rfl) rfl (by decide) (cok1 trivial) ?_
  refine dv (gN rfl) (q_mv (v := .int .i64 0) rfl) rfl (by decide) (cok1 (cconst rfl)) ?_
  refine ⟨_, Wk.refl _ _, ?_⟩
  show awp _ _ _ _ _ _ _
  refine awp_block ?_
  refine awp_wk (Wk.U [(0, vL), (1, .func (.func 33) #[] #[.pointer (some ⟨bc, 0, none⟩)]), (7, .int .i64 ((l.length : Nat) : Int)), (8, .int .i64 0)] ⟨rfl, rfl, rfl, rfl, trivial⟩) ?_
  refine awp_loop (fun (i : Nat) st => ∃ (H1 : AHeap), st = ⟨19, U [(0, vL), (1, .func (.func 33) #[] #[.pointer (some ⟨bc, 0, none⟩)]), (7, .int .i64 ((l.length : Nat) : Int)), (8, .int .i64 ((i : Nat) : Int))], [], H1⟩ ∧ St H0 (none0) (Rd H0) H1 [] ∧ (∀ j, j < i → isN k (nth l j) = false)) (fun (i : Nat) => l.length - i) (x0 := (0)) ?h0 ?round
  case h0 =>
    exact ⟨_, rfl, s0, fun j h => absurd h (Nat.not_lt_zero _)⟩
  case round =>
    rintro i _ ⟨H1, rfl, s2, hi⟩
    refine awp_seq ?_
    refine awp_regs hF ?_
    refine dvb (gN rfl) (q_int rfl rfl rfl) rfl (by decide) (cok2 trivial trivial) (fun c1 => ?_) (fun c1 => ?_)
    ·
      replace c1 := of_decide_eq_true c1
      refine ⟨_, Wk.refl _ _, ?_⟩
      show awp _ _ _ _ _ _ _
      refine awp_seq ?_
      refine awp_cond_t rfl ?_
      refine awp_skip_wk ?_
      refine ⟨_, Wk.refl _ _, ?_⟩
      show awp _ _ _ _ _ _ _
      refine awp_seq ?_
      refine awp_block ?_
      refine awp_seq ?_
      refine awp_regs hF ?_
      refine dv (gN rfl) (q_mv (v := .int .i64 ((i : Nat) : Int)) rfl) rfl (by decide) (cok1 trivial) ?_
      refine dv (gN rfl) (q_as (v := .int .i64 ((i : Nat) : Int)) rfl) rfl (by decide) (cok1 trivial) ?_
      refine ⟨_, Wk.refl _ _, ?_⟩
      show awp _ _ _ _ _ _ _
      refine awp_seq ?_
      refine awp_regs hF ?_
      refine dv (gN rfl) (q_mv (v := .func (.func 33) #[] #[.pointer (some ⟨bc, 0, none⟩)]) rfl) rfl (by decide) (cok1 trivial) ?_
      refine dv (gN rfl) (q_mv (v := vL) rfl) rfl (by decide) (cok1 trivial) ?_
      refine dv (gN rfl) (q_mv (v := .int .i64 ((i : Nat) : Int)) rfl) rfl (by decide) (cok1 trivial) ?_
      refine dv (gN rfl) (q_index_sls (l := l) (i := i) Try.underlying45 Try.sizeOf50 (s2.sls hL) needc_w rfl rfl (by omega)) rfl (by decide) (cok2 trivial trivial) ?_
      refine dv (gN rfl) (q_loadA_sls (l := l) (i := i) Try.isAgg50 Try.sizeOf50 (s2.sls hL) needc_w rfl (by omega)) rfl (by decide) (cok1 trivial) ?_
      refine dvb (gN rfl) (q_callv0 Try.call33 rfl rfl (closN_ok (nth l i) k bc (s2.zrd hc))) rfl (by decide) (cok2 trivial trivial) (fun c2 => ?_) (fun c2 => ?_)
      ·
        refine ⟨_, Wk.refl _ _, ?_⟩
        show awp _ _ _ _ _ _ _
        refine awp_cond_t rfl ?_
        refine awp_seq ?_
        refine awp_regs hF ?_
        refine dv (gN rfl) (q_mv (v := .int .i64 ((i : Nat) : Int)) rfl) rfl (by decide) (cok1 trivial) ?_
        refine dv (gN rfl) (q_as (v := .int .i64 ((i : Nat) : Int)) rfl) rfl (by decide) (cok1 trivial) ?_
        refine ⟨_, Wk.refl _ _, ?_⟩
        show awp _ _ _ _ _ _ _
        refine awp_ret_wk ?_
        refine ⟨_, Wk.refl _ _, ?_⟩
        repeat (with_reducible first | refine then_ret ?_ | refine blk_ret ?_ | refine then_exit ?_ | refine blk_exit ?_ | refine blk_exit' (by decide) ?_ | refine blk_normal ?_ | refine then_normal ?_ | refine retq_ret ?_ | refine retq_normal ?_ | refine ng_normal ?_ | refine ng_ret ?_ | refine ng_exit ?_)
        exact ret_none (v := .int .i64 ((i : Nat) : Int)) rfl s2.kp (.tmp rfl .nil) rfl rfl ⟨by rw [ixG_yes (i := i) (by omega) (by assumption) hi], rfl⟩
      ·
        refine ⟨_, Wk.refl _ _, ?_⟩
        show awp _ _ _ _ _ _ _
        refine awp_cond_f rfl ?_
        refine awp_skip_wk ?_
        refine ⟨_, Wk.refl _ _, ?_⟩
        show awp _ _ _ _ _ _ _
        refine awp_regs hF ?_
        refine dv (gN rfl) (OpQ.cast (v' := .int .i64 ((i + 1 : Nat) : Int)) (q_int rfl rfl rfl) (congrArg _ ((i64_in (by omega)).trans (by first | rfl | omega | (push_cast; rfl))))) rfl (by decide) (cok2 trivial (cconst rfl)) ?_
        refine dv (gN rfl) (q_mv (v := .int .i64 ((i + 1 : Nat) : Int)) rfl) rfl (by decide) (cok1 trivial) ?_
        refine ⟨_, Wk.U [(0, vL), (1, .func (.func 33) #[] #[.pointer (some ⟨bc, 0, none⟩)]), (7, .int .i64 ((l.length : Nat) : Int)), (8, .int .i64 (((i + 1) : Nat) : Int))] ⟨rfl, rfl, rfl, rfl, trivial⟩, (i + 1), ⟨_, rfl, s2, lt_succ_cases hi (by assumption)⟩, (by omega)⟩
    ·
      replace c1 := of_decide_eq_false c1
      refine ⟨_, Wk.refl _ _, ?_⟩
      show awp _ _ _ _ _ _ _
      refine awp_seq ?_
      refine awp_cond_f rfl ?_
      refine awp_exit_wk ?_
      refine ⟨_, Wk.refl _ _, ?_⟩
      show awp _ _ _ _ _ _ _
      refine awp_seq ?_
      refine awp_regs hF ?_
      refine dv (gN rfl) (q_as (v := .int .i64 (-1)) rfl) rfl (by decide) (cok1 (cconst rfl)) ?_
      refine ⟨_, Wk.refl _ _, ?_⟩
      show awp _ _ _ _ _ _ _
      refine awp_ret_wk ?_
      refine ⟨_, Wk.refl _ _, ?_⟩
      repeat (with_reducible first | refine then_ret ?_ | refine blk_ret ?_ | refine then_exit ?_ | refine blk_exit ?_ | refine blk_exit' (by decide) ?_ | refine blk_normal ?_ | refine then_normal ?_ | refine retq_ret ?_ | refine retq_normal ?_ | refine ng_normal ?_ | refine ng_ret ?_ | refine ng_exit ?_)
      exact ret_none (v := .int .i64 (-1)) rfl s2.kp (.tmp rfl .nil) rfl rfl ⟨by rw [ixG_no (i := i) (by omega) hi], rfl⟩
theorem nthN_mem {α : Type} [Inhabited α] {l : List α} {k : Nat} (h : k < l.length) : nth l k ∈ l := by rw [nth_eq h]; exact List.getElem_mem h
set_option maxRecDepth 100000 in
set_option maxHeartbeats 4000000 in
theorem of_ok {H0 : AHeap} (ds : List DefT) (ne : List NeedT) (ns : List Nat) (vD vN vU : Value) (hD : SlS defc 2 H0 vD ds) (hN : SlS needc 4 H0 vN ne) (hU : Sl i64v H0 vU ns) (hdl : ds.length ≤ 1000000) (hnl : ne.length ≤ 1000000) (hul : ns.length ≤ 1000000) (hnb : ∀ n ∈ ns, n < 65536) (i : Int) : ACalls Try.prog 17 [.agg #[vD, vN, vU], .int .i64 i] H0 (Rets (.tuple #[.string (ofName ds ne (ofN ns i)), .string (ofFile ds ne (ofN ns i)), .bool (decide (32768 ≤ ofN ns i))]) H0) := by
  have hF : Wd Fence.wide := .inl rfl
  have hM : Try.prog.follows .mixedOrders = true := by kernel_rfl
  have s0 := St.begin H0
  refine acalls_st Try.func17 rfl Try.ntmps17 rfl ?_
  refine awp_seq ?_
  refine awp_regs hF ?_
  refine x_new (fun b => .pointer (some ⟨b, 0, none⟩)) s0 (gN rfl) (q_box (v := .agg #[vD, vN, vU]) (vs := [vD, vN, vU]) 3 rfl (by exact trivial) rfl) rfl (by decide) (cok1 trivial) (fun b1 H2 hb4 s3 => ?_)
  refine dv (gN rfl) (q_as (v := .string ({ data := #[] })) rfl) rfl (by decide) (cok1 (cconst rfl)) ?_
  refine dv (gN rfl) (q_as (v := .string ({ data := #[] })) rfl) rfl (by decide) (cok1 (cconst rfl)) ?_
  refine dv (gN rfl) (q_as (v := .bool false) rfl) rfl (by decide) (cok1 (cconst rfl)) ?_
  refine ⟨_, Wk.refl _ _, ?_⟩
  show awp _ _ _ _ _ _ _
  refine awp_seq ?_
  refine awp_regs hF ?_
  refine dv (gN rfl) (q_as (v := .int .i64 1) rfl) rfl (by decide) (cok1 (cconst rfl)) ?_
  refine ⟨_, Wk.refl _ _, ?_⟩
  show awp _ _ _ _ _ _ _
  refine awp_seq ?_
  refine awp_seq ?_
  refine awp_regs hF ?_
  refine dv (gN rfl) (q_mv (v := .int .i64 i) rfl) rfl (by decide) (cok1 trivial) ?_
  refine dvb (gN rfl) (q_int rfl rfl rfl) rfl (by decide) (cok2 trivial (cconst rfl)) (fun c1 => ?_) (fun c1 => ?_)
  ·
    replace c1 := of_decide_eq_true c1
    refine dv (gN rfl) (q_mv (v := .bool true) rfl) rfl (by decide) (cok1 trivial) ?_
    refine dv (gS rfl rfl) (q_mv (v := .int .i64 i) rfl) rfl (by decide) (cok1 trivial) ?_
    refine dv (gS rfl rfl) (q_field Try.underlying47 rfl Try.sizeOf40 rfl (s3.rd (j := 0) rfl)) rfl (by decide) (cok1 trivial) ?_
    refine dv (gS rfl rfl) (q_load (v := vU) Try.isAgg40 rfl (s3.rd (j := 0) rfl) rfl) rfl (by decide) (cok1 trivial) ?_
    refine dv (gS rfl rfl) (q_len_sl (l := ns) Try.underlying40 (s3.sl hU) rfl) rfl (by decide) (cok1 trivial) ?_
    refine dvb (gS rfl rfl) (q_int rfl rfl rfl) rfl (by decide) (cok2 trivial trivial) (fun c2 => ?_) (fun c2 => ?_)
    ·
      replace c2 := of_decide_eq_true c2
      refine dv (gN rfl) (q_pt (v := .bool true) rfl rfl) rfl (by decide) (call_ok rfl) ?_
      refine ⟨_, Wk.refl _ _, ?_⟩
      show awp _ _ _ _ _ _ _
      refine awp_cond_t rfl ?_
      refine awp_regs hF ?_
      refine dv (gN rfl) (q_field Try.underlying47 rfl Try.sizeOf40 rfl (s3.rd (j := 0) rfl)) rfl (by decide) (cok1 trivial) ?_
      refine dv (gN rfl) (q_load (v := vU) Try.isAgg40 rfl (s3.rd (j := 0) rfl) rfl) rfl (by decide) (cok1 trivial) ?_
      refine dv (gN rfl) (q_mv (v := .int .i64 i) rfl) rfl (by decide) (cok1 trivial) ?_
      refine dv (gN rfl) (q_index_slI (l := ns) (z := i) Try.underlying40 Try.sizeOf3 (s3.sl hU) rfl rfl (by omega) (by omega)) rfl (by decide) (cok2 trivial trivial) ?_
      refine dv (gN rfl) (q_load_sl (l := ns) (i := i.toNat) Try.isAgg3 (s3.sl hU) rfl (by omega)) rfl (by decide) (cok1 trivial) ?_
      refine dv (gN rfl) (q_as (v := .int .i64 ((nth ns i.toNat : Nat) : Int)) rfl) rfl (by decide) (cok1 trivial) ?_
      refine ⟨_, Wk.refl _ _, ?_⟩
      show awp _ _ _ _ _ _ _
      refine awp_seq ?_
      refine awp_regs hF ?_
      refine dv (gN rfl) (q_mv (v := .int .i64 ((nth ns i.toNat : Nat) : Int)) rfl) rfl (by decide) (cok1 trivial) ?_
      have hn6 : nth ns i.toNat < 65536 := hnb _ (nthN_mem (by omega))
      have hon : ofN ns i = nth ns i.toNat := ofN_in (by omega) (by omega)
      refine dv (gN rfl) (OpQ.cast (v' := .int .i64 (((nth ns i.toNat) % 32768 : Nat) : Int)) (q_imask (m := 32767) rfl rfl (by decide)) (congrArg (fun x : Nat => Value.int .i64 (x : Int)) (imask_mod (nth ns i.toNat) hn6))) rfl (by decide) (cok2 trivial (cconst rfl)) ?_
      refine dv (gN rfl) (q_mv (v := .int .i64 ((nth ns i.toNat : Nat) : Int)) rfl) rfl (by decide) (cok1 trivial) ?_
      refine dv (gN rfl) (q_imask (m := 32768) rfl rfl (by first | decide | omega)) rfl (by decide) (cok2 trivial (cconst rfl)) ?_
      refine dv (gN rfl) (OpQ.cast (v' := .bool (decide (32768 ≤ nth ns i.toNat))) (q_int rfl rfl rfl) (congrArg Value.bool (imask_hi (nth ns i.toNat) hn6))) rfl (by decide) (cok2 trivial (cconst rfl)) ?_
      refine x_new (fun b => .pointer (some ⟨b, 0, none⟩)) s3 (gN rfl) (q_alloc (vs := [.int .i64 0]) 1 Try.zeroValue3 (by first | exact flat_scalar rfl | exact flat_agg rfl) rfl) rfl (by decide) (by simp [Op.operands, Call.operands]) (fun b5 H6 hb8 s7 => ?_)
      refine x_store1 [] hF s7 (by kernel_rfl) (gN rfl) (j := 0) (v := .int .i64 (((nth ns i.toNat) % 32768 : Nat) : Int)) rfl Try.sizeOf3 rfl rfl rfl (lc_scalar rfl) (Nat.le_of_ble_eq_true rfl) trivial trivial rfl rfl (F' := [(b5, .cells true [.int .i64 (((nth ns i.toNat) % 32768 : Nat) : Int)] 1), (b1, .cells true [vD, vN, vU] 3)]) rfl (fun H9 s10 => ⟨?_, ?_⟩)
      · exact trivial
      refine dv (gN rfl) (q_as (v := .bool (decide (32768 ≤ nth ns i.toNat))) rfl) rfl (by decide) (cok1 trivial) ?_
      refine ⟨_, Wk.refl _ _, ?_⟩
      show awp _ _ _ _ _ _ _
      refine awp_seq ?_
      refine awp_seq ?_
      refine awp_regs hF ?_
      refine dv (gN rfl) (q_field Try.underlying47 rfl Try.sizeOf26 rfl (s10.rd (j := 1) rfl)) rfl (by decide) (cok1 trivial) ?_
      refine dv (gN rfl) (q_load (v := vD) Try.isAgg26 rfl (s10.rd (j := 1) rfl) rfl) rfl (by decide) (cok1 trivial) ?_
      refine dv (gN rfl) (q_makeFuncL [.pointer (some ⟨b5, 0, none⟩)] ⟨rfl, trivial⟩) rfl (by decide) (cok1 trivial) ?_
      refine dv (gN rfl) (q_call0 Try.call30 rfl (indexD_ok ds _ (s10.sls hD) hdl ((nth ns i.toNat) % 32768) b5 (s10.rd (j := 0) rfl))) rfl (by decide) (call_ok rfl) ?_
      refine dv (gN rfl) (q_as (v := .int .i64 (ixG ds (isD ((nth ns i.toNat) % 32768)))) rfl) rfl (by decide) (cok1 trivial) ?_
      refine ⟨_, Wk.refl _ _, ?_⟩
      show awp _ _ _ _ _ _ _
      refine awp_seq ?_
      refine awp_regs hF ?_
      refine dv (gN rfl) (q_mv (v := .int .i64 (ixG ds (isD ((nth ns i.toNat) % 32768)))) rfl) rfl (by decide) (cok1 trivial) ?_
      refine dvb (gN rfl) (q_int rfl rfl rfl) rfl (by decide) (cok2 trivial (cconst rfl)) (fun c3 => ?_) (fun c3 => ?_)
      ·
        replace c3 := of_decide_eq_true c3
        have hlt := ixG_lt (by assumption : 0 ≤ ixG ds (isD ((nth ns i.toNat) % 32768)))
        refine ⟨_, Wk.refl _ _, ?_⟩
        show awp _ _ _ _ _ _ _
        refine awp_cond_t rfl ?_
        refine awp_seq ?_
        refine awp_regs hF ?_
        refine dv (gN rfl) (q_field Try.underlying47 rfl Try.sizeOf26 rfl (s10.rd (j := 1) rfl)) rfl (by decide) (cok1 trivial) ?_
        refine dv (gN rfl) (q_load (v := vD) Try.isAgg26 rfl (s10.rd (j := 1) rfl) rfl) rfl (by decide) (cok1 trivial) ?_
        refine dv (gN rfl) (q_mv (v := .int .i64 (ixG ds (isD ((nth ns i.toNat) % 32768)))) rfl) rfl (by decide) (cok1 trivial) ?_
        refine dv (gN rfl) (q_index_slsI (l := ds) (z := (ixG ds (isD ((nth ns i.toNat) % 32768)))) Try.underlying26 Try.sizeOf38 (s10.sls hD) defc_w rfl rfl (by omega) (by omega)) rfl (by decide) (cok2 trivial trivial) ?_
        refine dv (gN rfl) (q_field_sls (l := ds) (i := ((ixG ds (isD ((nth ns i.toNat) % 32768))).toNat)) Try.underlying38 rfl Try.sizeOf9 (s10.sls hD) defc_w rfl (by omega)) rfl (by decide) (cok1 trivial) ?_
        refine dv (gN rfl) (q_load_sls (l := ds) (i := ((ixG ds (isD ((nth ns i.toNat) % 32768))).toNat)) (u := .string ((nth ds ((ixG ds (isD ((nth ns i.toNat) % 32768))).toNat)).2)) Try.isAgg9 (s10.sls hD) defc_w rfl (by omega) (by decide) rfl) rfl (by decide) (cok1 trivial) ?_
        refine dv (gN rfl) (q_mv (v := .bool (decide (32768 ≤ nth ns i.toNat))) rfl) rfl (by decide) (cok1 trivial) ?_
        refine dv (gN rfl) (q_as (v := .string ((nth ds ((ixG ds (isD ((nth ns i.toNat) % 32768))).toNat)).2)) rfl) rfl (by decide) (cok1 trivial) ?_
        refine dv (gN rfl) (q_as (v := .string ({ data := #[] })) rfl) rfl (by decide) (cok1 (cconst rfl)) ?_
        refine dv (gN rfl) (q_as (v := .bool (decide (32768 ≤ nth ns i.toNat))) rfl) rfl (by decide) (cok1 trivial) ?_
        refine ⟨_, Wk.refl _ _, ?_⟩
        show awp _ _ _ _ _ _ _
        refine awp_ret_wk ?_
        refine ⟨_, Wk.refl _ _, ?_⟩
        repeat (with_reducible first | refine then_ret ?_ | refine blk_ret ?_ | refine then_exit ?_ | refine blk_exit ?_ | refine blk_exit' (by decide) ?_ | refine blk_normal ?_ | refine then_normal ?_ | refine retq_ret ?_ | refine retq_normal ?_ | refine ng_normal ?_ | refine ng_ret ?_ | refine ng_exit ?_)
        exact ret_none (v := .tuple #[.string ((nth ds ((ixG ds (isD ((nth ns i.toNat) % 32768))).toNat)).2), .string ({ data := #[] }), .bool (decide (32768 ≤ nth ns i.toNat))]) rfl s10.kp (.tmp rfl (.tmp rfl (.tmp rfl .nil))) rfl rfl ⟨by rw [hon]; simp only [ofName, ofFile, if_pos, if_neg, *, not_false_eq_true], rfl⟩
      ·
        replace c3 := of_decide_eq_false c3
        refine ⟨_, Wk.refl _ _, ?_⟩
        show awp _ _ _ _ _ _ _
        refine awp_cond_f rfl ?_
        refine awp_skip_wk ?_
        refine ⟨_, Wk.refl _ _, ?_⟩
        show awp _ _ _ _ _ _ _
        refine awp_seq ?_
        refine awp_seq ?_
        refine awp_regs hF ?_
        refine dv (gN rfl) (q_field Try.underlying47 rfl Try.sizeOf45 rfl (s10.rd (j := 1) rfl)) rfl (by decide) (cok1 trivial) ?_
        refine dv (gN rfl) (q_load (v := vN) Try.isAgg45 rfl (s10.rd (j := 1) rfl) rfl) rfl (by decide) (cok1 trivial) ?_
        refine dv (gN rfl) (q_makeFuncL [.pointer (some ⟨b5, 0, none⟩)] ⟨rfl, trivial⟩) rfl (by decide) (cok1 trivial) ?_
        refine dv (gN rfl) (q_call0 Try.call32 rfl (indexN_ok ne _ (s10.sls hN) hnl ((nth ns i.toNat) % 32768) b5 (s10.rd (j := 0) rfl))) rfl (by decide) (call_ok rfl) ?_
        refine dv (gN rfl) (q_as (v := .int .i64 (ixG ne (isN ((nth ns i.toNat) % 32768)))) rfl) rfl (by decide) (cok1 trivial) ?_
        refine ⟨_, Wk.refl _ _, ?_⟩
        show awp _ _ _ _ _ _ _
        refine awp_seq ?_
        refine awp_regs hF ?_
        refine dv (gN rfl) (q_mv (v := .int .i64 (ixG ne (isN ((nth ns i.toNat) % 32768)))) rfl) rfl (by decide) (cok1 trivial) ?_
        refine dvb (gN rfl) (q_int rfl rfl rfl) rfl (by decide) (cok2 trivial (cconst rfl)) (fun c4 => ?_) (fun c4 => ?_)
        ·
          replace c4 := of_decide_eq_true c4
          have hlt := ixG_lt (by assumption : 0 ≤ ixG ne (isN ((nth ns i.toNat) % 32768)))
          refine ⟨_, Wk.refl _ _, ?_⟩
          show awp _ _ _ _ _ _ _
          refine awp_cond_t rfl ?_
          refine awp_seq ?_
          refine awp_regt hF hM (by kernel_rfl) (by kernel_rfl) ?_
          refine dv (gN rfl) (q_field Try.underlying47 rfl Try.sizeOf45 rfl (s10.rd (j := 1) rfl)) rfl (by decide) (cok1 trivial) ?_
          refine dv (gN rfl) (q_load (v := vN) Try.isAgg45 rfl (s10.rd (j := 1) rfl) rfl) rfl (by decide) (cok1 trivial) ?_
          refine dv (gN rfl) (q_mv (v := .int .i64 (ixG ne (isN ((nth ns i.toNat) % 32768)))) rfl) rfl (by decide) (cok1 trivial) ?_
          refine dv (gN rfl) (q_index_slsI (l := ne) (z := (ixG ne (isN ((nth ns i.toNat) % 32768)))) Try.underlying45 Try.sizeOf50 (s10.sls hN) needc_w rfl rfl (by omega) (by omega)) rfl (by decide) (cok2 trivial trivial) ?_
          refine dv (gN rfl) (q_field_sls (l := ne) (i := ((ixG ne (isN ((nth ns i.toNat) % 32768))).toNat)) Try.underlying50 rfl Try.sizeOf9 (s10.sls hN) needc_w rfl (by omega)) rfl (by decide) (cok1 trivial) ?_
          refine dv (gN rfl) (q_load_sls (l := ne) (i := ((ixG ne (isN ((nth ns i.toNat) % 32768))).toNat)) (u := .string ((nth ne ((ixG ne (isN ((nth ns i.toNat) % 32768))).toNat)).2.2.1)) Try.isAgg9 (s10.sls hN) needc_w rfl (by omega) (by decide) rfl) rfl (by decide) (cok1 trivial) ?_
          refine dv (gN rfl) (q_field Try.underlying47 rfl Try.sizeOf45 rfl (s10.rd (j := 1) rfl)) rfl (by decide) (cok1 trivial) ?_
          refine dv (gN rfl) (q_load (v := vN) Try.isAgg45 rfl (s10.rd (j := 1) rfl) rfl) rfl (by decide) (cok1 trivial) ?_
          refine dv (gN rfl) (q_mv (v := .int .i64 (ixG ne (isN ((nth ns i.toNat) % 32768)))) rfl) rfl (by decide) (cok1 trivial) ?_
          refine dv (gN rfl) (q_index_slsI (l := ne) (z := (ixG ne (isN ((nth ns i.toNat) % 32768)))) Try.underlying45 Try.sizeOf50 (s10.sls hN) needc_w rfl rfl (by omega) (by omega)) rfl (by decide) (cok2 trivial trivial) ?_
          refine dv (gN rfl) (q_field_sls (l := ne) (i := ((ixG ne (isN ((nth ns i.toNat) % 32768))).toNat)) Try.underlying50 rfl Try.sizeOf9 (s10.sls hN) needc_w rfl (by omega)) rfl (by decide) (cok1 trivial) ?_
          refine dv (gN rfl) (q_load_sls (l := ne) (i := ((ixG ne (isN ((nth ns i.toNat) % 32768))).toNat)) (u := .string ((nth ne ((ixG ne (isN ((nth ns i.toNat) % 32768))).toNat)).2.1)) Try.isAgg9 (s10.sls hN) needc_w rfl (by omega) (by decide) rfl) rfl (by decide) (cok1 trivial) ?_
          refine dv (gN rfl) (q_mv (v := .bool (decide (32768 ≤ nth ns i.toNat))) rfl) rfl (by decide) (cok1 trivial) ?_
          refine dv (gN rfl) (q_as (v := .string ((nth ne ((ixG ne (isN ((nth ns i.toNat) % 32768))).toNat)).2.2.1)) rfl) rfl (by decide) (cok1 trivial) ?_
          refine dv (gN rfl) (q_as (v := .string ((nth ne ((ixG ne (isN ((nth ns i.toNat) % 32768))).toNat)).2.1)) rfl) rfl (by decide) (cok1 trivial) ?_
          refine dv (gN rfl) (q_as (v := .bool (decide (32768 ≤ nth ns i.toNat))) rfl) rfl (by decide) (cok1 trivial) ?_
          refine ⟨_, Wk.refl _ _, ?_⟩
          show awp _ _ _ _ _ _ _
          refine awp_ret_wk ?_
          refine ⟨_, Wk.refl _ _, ?_⟩
          repeat (with_reducible first | refine then_ret ?_ | refine blk_ret ?_ | refine then_exit ?_ | refine blk_exit ?_ | refine blk_exit' (by decide) ?_ | refine blk_normal ?_ | refine then_normal ?_ | refine retq_ret ?_ | refine retq_normal ?_ | refine ng_normal ?_ | refine ng_ret ?_ | refine ng_exit ?_)
          exact ret_none (v := .tuple #[.string ((nth ne ((ixG ne (isN ((nth ns i.toNat) % 32768))).toNat)).2.2.1), .string ((nth ne ((ixG ne (isN ((nth ns i.toNat) % 32768))).toNat)).2.1), .bool (decide (32768 ≤ nth ns i.toNat))]) rfl s10.kp (.tmp rfl (.tmp rfl (.tmp rfl .nil))) rfl rfl ⟨by rw [hon]; simp only [ofName, ofFile, if_pos, if_neg, *, not_false_eq_true], rfl⟩
        ·
          replace c4 := of_decide_eq_false c4
          refine ⟨_, Wk.refl _ _, ?_⟩
          show awp _ _ _ _ _ _ _
          refine awp_cond_f rfl ?_
          refine awp_skip_wk ?_
          refine ⟨_, Wk.refl _ _, ?_⟩
          show awp _ _ _ _ _ _ _
          refine awp_seq ?_
          refine awp_regs hF ?_
          refine dv (gN rfl) (q_mv (v := .bool (decide (32768 ≤ nth ns i.toNat))) rfl) rfl (by decide) (cok1 trivial) ?_
          refine dv (gN rfl) (q_as (v := .string ({ data := #[] })) rfl) rfl (by decide) (cok1 (cconst rfl)) ?_
          refine dv (gN rfl) (q_as (v := .string ({ data := #[] })) rfl) rfl (by decide) (cok1 (cconst rfl)) ?_
          refine dv (gN rfl) (q_as (v := .bool (decide (32768 ≤ nth ns i.toNat))) rfl) rfl (by decide) (cok1 trivial) ?_
          refine ⟨_, Wk.refl _ _, ?_⟩
          show awp _ _ _ _ _ _ _
          refine awp_ret_wk ?_
          refine ⟨_, Wk.refl _ _, ?_⟩
          repeat (with_reducible first | refine then_ret ?_ | refine blk_ret ?_ | refine then_exit ?_ | refine blk_exit ?_ | refine blk_exit' (by decide) ?_ | refine blk_normal ?_ | refine then_normal ?_ | refine retq_ret ?_ | refine retq_normal ?_ | refine ng_normal ?_ | refine ng_ret ?_ | refine ng_exit ?_)
          exact ret_none (v := .tuple #[.string ({ data := #[] }), .string ({ data := #[] }), .bool (decide (32768 ≤ nth ns i.toNat))]) rfl s10.kp (.tmp rfl (.tmp rfl (.tmp rfl .nil))) rfl rfl ⟨by rw [hon]; simp only [ofName, ofFile, if_pos, if_neg, *, not_false_eq_true], rfl⟩
    ·
      replace c2 := of_decide_eq_false c2
      refine dv (gN rfl) (q_pt (v := .bool false) rfl rfl) rfl (by decide) (call_ok rfl) ?_
      refine ⟨_, Wk.refl _ _, ?_⟩
      show awp _ _ _ _ _ _ _
      refine awp_cond_f rfl ?_
      refine awp_skip_wk ?_
      refine ⟨_, Wk.refl _ _, ?_⟩
      show awp _ _ _ _ _ _ _
      refine awp_seq ?_
      refine awp_regs hF ?_
      refine dv (gN rfl) (q_mv (v := .int .i64 1) rfl) rfl (by decide) (cok1 trivial) ?_
      have hn6 : 1 < 65536 := by decide
      have hon : ofN ns i = 1 := ofN_out (by omega)
      refine dv (gN rfl) (OpQ.cast (v' := .int .i64 (((1) % 32768 : Nat) : Int)) (q_imask (m := 32767) rfl rfl (by decide)) (congrArg (fun x : Nat => Value.int .i64 (x : Int)) (imask_mod (1) hn6))) rfl (by decide) (cok2 trivial (cconst rfl)) ?_
      refine dv (gN rfl) (q_mv (v := .int .i64 1) rfl) rfl (by decide) (cok1 trivial) ?_
      refine dv (gN rfl) (q_imask (m := 32768) rfl rfl (by first | decide | omega)) rfl (by decide) (cok2 trivial (cconst rfl)) ?_
      refine dv (gN rfl) (OpQ.cast (v' := .bool (decide (32768 ≤ 1))) (q_int rfl rfl rfl) (congrArg Value.bool (imask_hi (1) hn6))) rfl (by decide) (cok2 trivial (cconst rfl)) ?_
      refine x_new (fun b => .pointer (some ⟨b, 0, none⟩)) s3 (gN rfl) (q_alloc (vs := [.int .i64 0]) 1 Try.zeroValue3 (by first | exact flat_scalar rfl | exact flat_agg rfl) rfl) rfl (by decide) (by simp [Op.operands, Call.operands]) (fun b11 H12 hb14 s13 => ?_)
      refine x_store1 [] hF s13 (by kernel_rfl) (gN rfl) (j := 0) (v := .int .i64 (((1) % 32768 : Nat) : Int)) rfl Try.sizeOf3 rfl rfl rfl (lc_scalar rfl) (Nat.le_of_ble_eq_true rfl) trivial trivial rfl rfl (F' := [(b11, .cells true [.int .i64 (((1) % 32768 : Nat) : Int)] 1), (b1, .cells true [vD, vN, vU] 3)]) rfl (fun H15 s16 => ⟨?_, ?_⟩)
      · exact trivial
      refine dv (gN rfl) (q_as (v := .bool (decide (32768 ≤ 1))) rfl) rfl (by decide) (cok1 trivial) ?_
      refine ⟨_, Wk.refl _ _, ?_⟩
      show awp _ _ _ _ _ _ _
      refine awp_seq ?_
      refine awp_seq ?_
      refine awp_regs hF ?_
      refine dv (gN rfl) (q_field Try.underlying47 rfl Try.sizeOf26 rfl (s16.rd (j := 1) rfl)) rfl (by decide) (cok1 trivial) ?_
      refine dv (gN rfl) (q_load (v := vD) Try.isAgg26 rfl (s16.rd (j := 1) rfl) rfl) rfl (by decide) (cok1 trivial) ?_
      refine dv (gN rfl) (q_makeFuncL [.pointer (some ⟨b11, 0, none⟩)] ⟨rfl, trivial⟩) rfl (by decide) (cok1 trivial) ?_
      refine dv (gN rfl) (q_call0 Try.call30 rfl (indexD_ok ds _ (s16.sls hD) hdl ((1) % 32768) b11 (s16.rd (j := 0) rfl))) rfl (by decide) (call_ok rfl) ?_
      refine dv (gN rfl) (q_as (v := .int .i64 (ixG ds (isD ((1) % 32768)))) rfl) rfl (by decide) (cok1 trivial) ?_
      refine ⟨_, Wk.refl _ _, ?_⟩
      show awp _ _ _ _ _ _ _
      refine awp_seq ?_
      refine awp_regs hF ?_
      refine dv (gN rfl) (q_mv (v := .int .i64 (ixG ds (isD ((1) % 32768)))) rfl) rfl (by decide) (cok1 trivial) ?_
      refine dvb (gN rfl) (q_int rfl rfl rfl) rfl (by decide) (cok2 trivial (cconst rfl)) (fun c5 => ?_) (fun c5 => ?_)
      ·
        replace c5 := of_decide_eq_true c5
        have hlt := ixG_lt (by assumption : 0 ≤ ixG ds (isD ((1) % 32768)))
        refine ⟨_, Wk.refl _ _, ?_⟩
        show awp _ _ _ _ _ _ _
        refine awp_cond_t rfl ?_
        refine awp_seq ?_
        refine awp_regs hF ?_
        refine dv (gN rfl) (q_field Try.underlying47 rfl Try.sizeOf26 rfl (s16.rd (j := 1) rfl)) rfl (by decide) (cok1 trivial) ?_
        refine dv (gN rfl) (q_load (v := vD) Try.isAgg26 rfl (s16.rd (j := 1) rfl) rfl) rfl (by decide) (cok1 trivial) ?_
        refine dv (gN rfl) (q_mv (v := .int .i64 (ixG ds (isD ((1) % 32768)))) rfl) rfl (by decide) (cok1 trivial) ?_
        refine dv (gN rfl) (q_index_slsI (l := ds) (z := (ixG ds (isD ((1) % 32768)))) Try.underlying26 Try.sizeOf38 (s16.sls hD) defc_w rfl rfl (by omega) (by omega)) rfl (by decide) (cok2 trivial trivial) ?_
        refine dv (gN rfl) (q_field_sls (l := ds) (i := ((ixG ds (isD ((1) % 32768))).toNat)) Try.underlying38 rfl Try.sizeOf9 (s16.sls hD) defc_w rfl (by omega)) rfl (by decide) (cok1 trivial) ?_
        refine dv (gN rfl) (q_load_sls (l := ds) (i := ((ixG ds (isD ((1) % 32768))).toNat)) (u := .string ((nth ds ((ixG ds (isD ((1) % 32768))).toNat)).2)) Try.isAgg9 (s16.sls hD) defc_w rfl (by omega) (by decide) rfl) rfl (by decide) (cok1 trivial) ?_
        refine dv (gN rfl) (q_mv (v := .bool (decide (32768 ≤ 1))) rfl) rfl (by decide) (cok1 trivial) ?_
        refine dv (gN rfl) (q_as (v := .string ((nth ds ((ixG ds (isD ((1) % 32768))).toNat)).2)) rfl) rfl (by decide) (cok1 trivial) ?_
        refine dv (gN rfl) (q_as (v := .string ({ data := #[] })) rfl) rfl (by decide) (cok1 (cconst rfl)) ?_
        refine dv (gN rfl) (q_as (v := .bool (decide (32768 ≤ 1))) rfl) rfl (by decide) (cok1 trivial) ?_
        refine ⟨_, Wk.refl _ _, ?_⟩
        show awp _ _ _ _ _ _ _
        refine awp_ret_wk ?_
        refine ⟨_, Wk.refl _ _, ?_⟩
        repeat (with_reducible first | refine then_ret ?_ | refine blk_ret ?_ | refine then_exit ?_ | refine blk_exit ?_ | refine blk_exit' (by decide) ?_ | refine blk_normal ?_ | refine then_normal ?_ | refine retq_ret ?_ | refine retq_normal ?_ | refine ng_normal ?_ | refine ng_ret ?_ | refine ng_exit ?_)
        exact ret_none (v := .tuple #[.string ((nth ds ((ixG ds (isD ((1) % 32768))).toNat)).2), .string ({ data := #[] }), .bool (decide (32768 ≤ 1))]) rfl s16.kp (.tmp rfl (.tmp rfl (.tmp rfl .nil))) rfl rfl ⟨by rw [hon]; simp only [ofName, ofFile, if_pos, if_neg, *, not_false_eq_true], rfl⟩
      ·
        replace c5 := of_decide_eq_false c5
        refine ⟨_, Wk.refl _ _, ?_⟩
        show awp _ _ _ _ _ _ _
        refine awp_cond_f rfl ?_
        refine awp_skip_wk ?_
        refine ⟨_, Wk.refl _ _, ?_⟩
        show awp _ _ _ _ _ _ _
        refine awp_seq ?_
        refine awp_seq ?_
        refine awp_regs hF ?_
        refine dv (gN rfl) (q_field Try.underlying47 rfl Try.sizeOf45 rfl (s16.rd (j := 1) rfl)) rfl (by decide) (cok1 trivial) ?_
        refine dv (gN rfl) (q_load (v := vN) Try.isAgg45 rfl (s16.rd (j := 1) rfl) rfl) rfl (by decide) (cok1 trivial) ?_
        refine dv (gN rfl) (q_makeFuncL [.pointer (some ⟨b11, 0, none⟩)] ⟨rfl, trivial⟩) rfl (by decide) (cok1 trivial) ?_
        refine dv (gN rfl) (q_call0 Try.call32 rfl (indexN_ok ne _ (s16.sls hN) hnl ((1) % 32768) b11 (s16.rd (j := 0) rfl))) rfl (by decide) (call_ok rfl) ?_
        refine dv (gN rfl) (q_as (v := .int .i64 (ixG ne (isN ((1) % 32768)))) rfl) rfl (by decide) (cok1 trivial) ?_
        refine ⟨_, Wk.refl _ _, ?_⟩
        show awp _ _ _ _ _ _ _
        refine awp_seq ?_
        refine awp_regs hF ?_
        refine dv (gN rfl) (q_mv (v := .int .i64 (ixG ne (isN ((1) % 32768)))) rfl) rfl (by decide) (cok1 trivial) ?_
        refine dvb (gN rfl) (q_int rfl rfl rfl) rfl (by decide) (cok2 trivial (cconst rfl)) (fun c6 => ?_) (fun c6 => ?_)
        ·
          replace c6 := of_decide_eq_true c6
          have hlt := ixG_lt (by assumption : 0 ≤ ixG ne (isN ((1) % 32768)))
          refine ⟨_, Wk.refl _ _, ?_⟩
          show awp _ _ _ _ _ _ _
          refine awp_cond_t rfl ?_
          refine awp_seq ?_
          refine awp_regt hF hM (by kernel_rfl) (by kernel_rfl) ?_
          refine dv (gN rfl) (q_field Try.underlying47 rfl Try.sizeOf45 rfl (s16.rd (j := 1) rfl)) rfl (by decide) (cok1 trivial) ?_
          refine dv (gN rfl) (q_load (v := vN) Try.isAgg45 rfl (s16.rd (j := 1) rfl) rfl) rfl (by decide) (cok1 trivial) ?_
          refine dv (gN rfl) (q_mv (v := .int .i64 (ixG ne (isN ((1) % 32768)))) rfl) rfl (by decide) (cok1 trivial) ?_
          refine dv (gN rfl) (q_index_slsI (l := ne) (z := (ixG ne (isN ((1) % 32768)))) Try.underlying45 Try.sizeOf50 (s16.sls hN) needc_w rfl rfl (by omega) (by omega)) rfl (by decide) (cok2 trivial trivial) ?_
          refine dv (gN rfl) (q_field_sls (l := ne) (i := ((ixG ne (isN ((1) % 32768))).toNat)) Try.underlying50 rfl Try.sizeOf9 (s16.sls hN) needc_w rfl (by omega)) rfl (by decide) (cok1 trivial) ?_
          refine dv (gN rfl) (q_load_sls (l := ne) (i := ((ixG ne (isN ((1) % 32768))).toNat)) (u := .string ((nth ne ((ixG ne (isN ((1) % 32768))).toNat)).2.2.1)) Try.isAgg9 (s16.sls hN) needc_w rfl (by omega) (by decide) rfl) rfl (by decide) (cok1 trivial) ?_
          refine dv (gN rfl) (q_field Try.underlying47 rfl Try.sizeOf45 rfl (s16.rd (j := 1) rfl)) rfl (by decide) (cok1 trivial) ?_
          refine dv (gN rfl) (q_load (v := vN) Try.isAgg45 rfl (s16.rd (j := 1) rfl) rfl) rfl (by decide) (cok1 trivial) ?_
          refine dv (gN rfl) (q_mv (v := .int .i64 (ixG ne (isN ((1) % 32768)))) rfl) rfl (by decide) (cok1 trivial) ?_
          refine dv (gN rfl) (q_index_slsI (l := ne) (z := (ixG ne (isN ((1) % 32768)))) Try.underlying45 Try.sizeOf50 (s16.sls hN) needc_w rfl rfl (by omega) (by omega)) rfl (by decide) (cok2 trivial trivial) ?_
          refine dv (gN rfl) (q_field_sls (l := ne) (i := ((ixG ne (isN ((1) % 32768))).toNat)) Try.underlying50 rfl Try.sizeOf9 (s16.sls hN) needc_w rfl (by omega)) rfl (by decide) (cok1 trivial) ?_
          refine dv (gN rfl) (q_load_sls (l := ne) (i := ((ixG ne (isN ((1) % 32768))).toNat)) (u := .string ((nth ne ((ixG ne (isN ((1) % 32768))).toNat)).2.1)) Try.isAgg9 (s16.sls hN) needc_w rfl (by omega) (by decide) rfl) rfl (by decide) (cok1 trivial) ?_
          refine dv (gN rfl) (q_mv (v := .bool (decide (32768 ≤ 1))) rfl) rfl (by decide) (cok1 trivial) ?_
          refine dv (gN rfl) (q_as (v := .string ((nth ne ((ixG ne (isN ((1) % 32768))).toNat)).2.2.1)) rfl) rfl (by decide) (cok1 trivial) ?_
          refine dv (gN rfl) (q_as (v := .string ((nth ne ((ixG ne (isN ((1) % 32768))).toNat)).2.1)) rfl) rfl (by decide) (cok1 trivial) ?_
          refine dv (gN rfl) (q_as (v := .bool (decide (32768 ≤ 1))) rfl) rfl (by decide) (cok1 trivial) ?_
          refine ⟨_, Wk.refl _ _, ?_⟩
          show awp _ _ _ _ _ _ _
          refine awp_ret_wk ?_
          refine ⟨_, Wk.refl _ _, ?_⟩
          repeat (with_reducible first | refine then_ret ?_ | refine blk_ret ?_ | refine then_exit ?_ | refine blk_exit ?_ | refine blk_exit' (by decide) ?_ | refine blk_normal ?_ | refine then_normal ?_ | refine retq_ret ?_ | refine retq_normal ?_ | refine ng_normal ?_ | refine ng_ret ?_ | refine ng_exit ?_)
          exact ret_none (v := .tuple #[.string ((nth ne ((ixG ne (isN ((1) % 32768))).toNat)).2.2.1), .string ((nth ne ((ixG ne (isN ((1) % 32768))).toNat)).2.1), .bool (decide (32768 ≤ 1))]) rfl s16.kp (.tmp rfl (.tmp rfl (.tmp rfl .nil))) rfl rfl ⟨by rw [hon]; simp only [ofName, ofFile, if_pos, if_neg, *, not_false_eq_true], rfl⟩
        ·
          replace c6 := of_decide_eq_false c6
          refine ⟨_, Wk.refl _ _, ?_⟩
          show awp _ _ _ _ _ _ _
          refine awp_cond_f rfl ?_
          refine awp_skip_wk ?_
          refine ⟨_, Wk.refl _ _, ?_⟩
          show awp _ _ _ _ _ _ _
          refine awp_seq ?_
          refine awp_regs hF ?_
          refine dv (gN rfl) (q_mv (v := .bool (decide (32768 ≤ 1))) rfl) rfl (by decide) (cok1 trivial) ?_
          refine dv (gN rfl) (q_as (v := .string ({ data := #[] })) rfl) rfl (by decide) (cok1 (cconst rfl)) ?_
          refine dv (gN rfl) (q_as (v := .string ({ data := #[] })) rfl) rfl (by decide) (cok1 (cconst rfl)) ?_
          refine dv (gN rfl) (q_as (v := .bool (decide (32768 ≤ 1))) rfl) rfl (by decide) (cok1 trivial) ?_
          refine ⟨_, Wk.refl _ _, ?_⟩
          show awp _ _ _ _ _ _ _
          refine awp_ret_wk ?_
          refine ⟨_, Wk.refl _ _, ?_⟩
          repeat (with_reducible first | refine then_ret ?_ | refine blk_ret ?_ | refine then_exit ?_ | refine blk_exit ?_ | refine blk_exit' (by decide) ?_ | refine blk_normal ?_ | refine then_normal ?_ | refine retq_ret ?_ | refine retq_normal ?_ | refine ng_normal ?_ | refine ng_ret ?_ | refine ng_exit ?_)
          exact ret_none (v := .tuple #[.string ({ data := #[] }), .string ({ data := #[] }), .bool (decide (32768 ≤ 1))]) rfl s16.kp (.tmp rfl (.tmp rfl (.tmp rfl .nil))) rfl rfl ⟨by rw [hon]; simp only [ofName, ofFile, if_pos, if_neg, *, not_false_eq_true], rfl⟩
  ·
    replace c1 := of_decide_eq_false c1
    refine dv (gN rfl) (q_mv (v := .bool false) rfl) rfl (by decide) (cok1 trivial) ?_
    refine dno rfl (.inl rfl) rfl (by decide) ?_
    refine dno rfl (.inl rfl) rfl (by decide) ?_
    refine dno rfl (.inl rfl) rfl (by decide) ?_
    refine dno rfl (.inl rfl) rfl (by decide) ?_
    refine dno rfl (.inl rfl) rfl (by decide) ?_
    refine dv (gN rfl) (q_pf (v := .bool false) rfl rfl) rfl (by decide) (call_ok rfl) ?_
    refine ⟨_, Wk.refl _ _, ?_⟩
    show awp _ _ _ _ _ _ _
    refine awp_cond_f rfl ?_
    refine awp_skip_wk ?_
    refine ⟨_, Wk.refl _ _, ?_⟩
    show awp _ _ _ _ _ _ _
    refine awp_seq ?_
    refine awp_regs hF ?_
    refine dv (gN rfl) (q_mv (v := .int .i64 1) rfl) rfl (by decide) (cok1 trivial) ?_
    have hn6 : 1 < 65536 := by decide
    have hon : ofN ns i = 1 := ofN_out (by omega)
    refine dv (gN rfl) (OpQ.cast (v' := .int .i64 (((1) % 32768 : Nat) : Int)) (q_imask (m := 32767) rfl rfl (by decide)) (congrArg (fun x : Nat => Value.int .i64 (x : Int)) (imask_mod (1) hn6))) rfl (by decide) (cok2 trivial (cconst rfl)) ?_
    refine dv (gN rfl) (q_mv (v := .int .i64 1) rfl) rfl (by decide) (cok1 trivial) ?_
    refine dv (gN rfl) (q_imask (m := 32768) rfl rfl (by first | decide | omega)) rfl (by decide) (cok2 trivial (cconst rfl)) ?_
    refine dv (gN rfl) (OpQ.cast (v' := .bool (decide (32768 ≤ 1))) (q_int rfl rfl rfl) (congrArg Value.bool (imask_hi (1) hn6))) rfl (by decide) (cok2 trivial (cconst rfl)) ?_
    refine x_new (fun b => .pointer (some ⟨b, 0, none⟩)) s3 (gN rfl) (q_alloc (vs := [.int .i64 0]) 1 Try.zeroValue3 (by first | exact flat_scalar rfl | exact flat_agg rfl) rfl) rfl (by decide) (by simp [Op.operands, Call.operands]) (fun b17 H18 hb20 s19 => ?_)
    refine x_store1 [] hF s19 (by kernel_rfl) (gN rfl) (j := 0) (v := .int .i64 (((1) % 32768 : Nat) : Int)) rfl Try.sizeOf3 rfl rfl rfl (lc_scalar rfl) (Nat.le_of_ble_eq_true rfl) trivial trivial rfl rfl (F' := [(b17, .cells true [.int .i64 (((1) % 32768 : Nat) : Int)] 1), (b1, .cells true [vD, vN, vU] 3)]) rfl (fun H21 s22 => ⟨?_, ?_⟩)
    · exact trivial
    refine dv (gN rfl) (q_as (v := .bool (decide (32768 ≤ 1))) rfl) rfl (by decide) (cok1 trivial) ?_
    refine ⟨_, Wk.refl _ _, ?_⟩
    show awp _ _ _ _ _ _ _
    refine awp_seq ?_
    refine awp_seq ?_
    refine awp_regs hF ?_
    refine dv (gN rfl) (q_field Try.underlying47 rfl Try.sizeOf26 rfl (s22.rd (j := 1) rfl)) rfl (by decide) (cok1 trivial) ?_
    refine dv (gN rfl) (q_load (v := vD) Try.isAgg26 rfl (s22.rd (j := 1) rfl) rfl) rfl (by decide) (cok1 trivial) ?_
    refine dv (gN rfl) (q_makeFuncL [.pointer (some ⟨b17, 0, none⟩)] ⟨rfl, trivial⟩) rfl (by decide) (cok1 trivial) ?_
    refine dv (gN rfl) (q_call0 Try.call30 rfl (indexD_ok ds _ (s22.sls hD) hdl ((1) % 32768) b17 (s22.rd (j := 0) rfl))) rfl (by decide) (call_ok rfl) ?_
    refine dv (gN rfl) (q_as (v := .int .i64 (ixG ds (isD ((1) % 32768)))) rfl) rfl (by decide) (cok1 trivial) ?_
    refine ⟨_, Wk.refl _ _, ?_⟩
    show awp _ _ _ _ _ _ _
    refine awp_seq ?_
    refine awp_regs hF ?_
    refine dv (gN rfl) (q_mv (v := .int .i64 (ixG ds (isD ((1) % 32768)))) rfl) rfl (by decide) (cok1 trivial) ?_
    refine dvb (gN rfl) (q_int rfl rfl rfl) rfl (by decide) (cok2 trivial (cconst rfl)) (fun c7 => ?_) (fun c7 => ?_)
    ·
      replace c7 := of_decide_eq_true c7
      have hlt := ixG_lt (by assumption : 0 ≤ ixG ds (isD ((1) % 32768)))
      refine ⟨_, Wk.refl _ _, ?_⟩
      show awp _ _ _ _ _ _ _
      refine awp_cond_t rfl ?_
      refine awp_seq ?_
      refine awp_regs hF ?_
      refine dv (gN rfl) (q_field Try.underlying47 rfl Try.sizeOf26 rfl (s22.rd (j := 1) rfl)) rfl (by decide) (cok1 trivial) ?_
      refine dv (gN rfl) (q_load (v := vD) Try.isAgg26 rfl (s22.rd (j := 1) rfl) rfl) rfl (by decide) (cok1 trivial) ?_
      refine dv (gN rfl) (q_mv (v := .int .i64 (ixG ds (isD ((1) % 32768)))) rfl) rfl (by decide) (cok1 trivial) ?_
      refine dv (gN rfl) (q_index_slsI (l := ds) (z := (ixG ds (isD ((1) % 32768)))) Try.underlying26 Try.sizeOf38 (s22.sls hD) defc_w rfl rfl (by omega) (by omega)) rfl (by decide) (cok2 trivial trivial) ?_
      refine dv (gN rfl) (q_field_sls (l := ds) (i := ((ixG ds (isD ((1) % 32768))).toNat)) Try.underlying38 rfl Try.sizeOf9 (s22.sls hD) defc_w rfl (by omega)) rfl (by decide) (cok1 trivial) ?_
      refine dv (gN rfl) (q_load_sls (l := ds) (i := ((ixG ds (isD ((1) % 32768))).toNat)) (u := .string ((nth ds ((ixG ds (isD ((1) % 32768))).toNat)).2)) Try.isAgg9 (s22.sls hD) defc_w rfl (by omega) (by decide) rfl) rfl (by decide) (cok1 trivial) ?_
      refine dv (gN rfl) (q_mv (v := .bool (decide (32768 ≤ 1))) rfl) rfl (by decide) (cok1 trivial) ?_
      refine dv (gN rfl) (q_as (v := .string ((nth ds ((ixG ds (isD ((1) % 32768))).toNat)).2)) rfl) rfl (by decide) (cok1 trivial) ?_
      refine dv (gN rfl) (q_as (v := .string ({ data := #[] })) rfl) rfl (by decide) (cok1 (cconst rfl)) ?_
      refine dv (gN rfl) (q_as (v := .bool (decide (32768 ≤ 1))) rfl) rfl (by decide) (cok1 trivial) ?_
      refine ⟨_, Wk.refl _ _, ?_⟩
      show awp _ _ _ _ _ _ _
      refine awp_ret_wk ?_
      refine ⟨_, Wk.refl _ _, ?_⟩
      repeat (with_reducible first | refine then_ret ?_ | refine blk_ret ?_ | refine then_exit ?_ | refine blk_exit ?_ | refine blk_exit' (by decide) ?_ | refine blk_normal ?_ | refine then_normal ?_ | refine retq_ret ?_ | refine retq_normal ?_ | refine ng_normal ?_ | refine ng_ret ?_ | refine ng_exit ?_)
      exact ret_none (v := .tuple #[.string ((nth ds ((ixG ds (isD ((1) % 32768))).toNat)).2), .string ({ data := #[] }), .bool (decide (32768 ≤ 1))]) rfl s22.kp (.tmp rfl (.tmp rfl (.tmp rfl .nil))) rfl rfl ⟨by rw [hon]; simp only [ofName, ofFile, if_pos, if_neg, *, not_false_eq_true], rfl⟩
    ·
      replace c7 := of_decide_eq_false c7
      refine ⟨_, Wk.refl _ _, ?_⟩
      show awp _ _ _ _ _ _ _
      refine awp_cond_f rfl ?_
      refine awp_skip_wk ?_
      refine ⟨_, Wk.refl _ _, ?_⟩
      show awp _ _ _ _ _ _ _
      refine awp_seq ?_
      refine awp_seq ?_
      refine awp_regs hF ?_
      refine dv (gN rfl) (q_field Try.underlying47 rfl Try.sizeOf45 rfl (s22.rd (j := 1) rfl)) rfl (by decide) (cok1 trivial) ?_
      refine dv (gN rfl) (q_load (v := vN) Try.isAgg45 rfl (s22.rd (j := 1) rfl) rfl) rfl (by decide) (cok1 trivial) ?_
      refine dv (gN rfl) (q_makeFuncL [.pointer (some ⟨b17, 0, none⟩)] ⟨rfl, trivial⟩) rfl (by decide) (cok1 trivial) ?_
      refine dv (gN rfl) (q_call0 Try.call32 rfl (indexN_ok ne _ (s22.sls hN) hnl ((1) % 32768) b17 (s22.rd (j := 0) rfl))) rfl (by decide) (call_ok rfl) ?_
      refine dv (gN rfl) (q_as (v := .int .i64 (ixG ne (isN ((1) % 32768)))) rfl) rfl (by decide) (cok1 trivial) ?_
      refine ⟨_, Wk.refl _ _, ?_⟩
      show awp _ _ _ _ _ _ _
      refine awp_seq ?_
      refine awp_regs hF ?_
      refine dv (gN rfl) (q_mv (v := .int .i64 (ixG ne (isN ((1) % 32768)))) rfl) rfl (by decide) (cok1 trivial) ?_
      refine dvb (gN rfl) (q_int rfl rfl rfl) rfl (by decide) (cok2 trivial (cconst rfl)) (fun c8 => ?_) (fun c8 => ?_)
      ·
        replace c8 := of_decide_eq_true c8
        have hlt := ixG_lt (by assumption : 0 ≤ ixG ne (isN ((1) % 32768)))
        refine ⟨_, Wk.refl _ _, ?_⟩
        show awp _ _ _ _ _ _ _
        refine awp_cond_t rfl ?_
        refine awp_seq ?_
        refine awp_regt hF hM (by kernel_rfl) (by kernel_rfl) ?_
        refine dv (gN rfl) (q_field Try.underlying47 rfl Try.sizeOf45 rfl (s22.rd (j := 1) rfl)) rfl (by decide) (cok1 trivial) ?_
        refine dv (gN rfl) (q_load (v := vN) Try.isAgg45 rfl (s22.rd (j := 1) rfl) rfl) rfl (by decide) (cok1 trivial) ?_
        refine dv (gN rfl) (q_mv (v := .int .i64 (ixG ne (isN ((1) % 32768)))) rfl) rfl (by decide) (cok1 trivial) ?_
        refine dv (gN rfl) (q_index_slsI (l := ne) (z := (ixG ne (isN ((1) % 32768)))) Try.underlying45 Try.sizeOf50 (s22.sls hN) needc_w rfl rfl (by omega) (by omega)) rfl (by decide) (cok2 trivial trivial) ?_
        refine dv (gN rfl) (q_field_sls (l := ne) (i := ((ixG ne (isN ((1) % 32768))).toNat)) Try.underlying50 rfl Try.sizeOf9 (s22.sls hN) needc_w rfl (by omega)) rfl (by decide) (cok1 trivial) ?_
        refine dv (gN rfl) (q_load_sls (l := ne) (i := ((ixG ne (isN ((1) % 32768))).toNat)) (u := .string ((nth ne ((ixG ne (isN ((1) % 32768))).toNat)).2.2.1)) Try.isAgg9 (s22.sls hN) needc_w rfl (by omega) (by decide) rfl) rfl (by decide) (cok1 trivial) ?_
        refine dv (gN rfl) (q_field Try.underlying47 rfl Try.sizeOf45 rfl (s22.rd (j := 1) rfl)) rfl (by decide) (cok1 trivial) ?_
        refine dv (gN rfl) (q_load (v := vN) Try.isAgg45 rfl (s22.rd (j := 1) rfl) rfl) rfl (by decide) (cok1 trivial) ?_
        refine dv (gN rfl) (q_mv (v := .int .i64 (ixG ne (isN ((1) % 32768)))) rfl) rfl (by decide) (cok1 trivial) ?_
        refine dv (gN rfl) (q_index_slsI (l := ne) (z := (ixG ne (isN ((1) % 32768)))) Try.underlying45 Try.sizeOf50 (s22.sls hN) needc_w rfl rfl (by omega) (by omega)) rfl (by decide) (cok2 trivial trivial) ?_
        refine dv (gN rfl) (q_field_sls (l := ne) (i := ((ixG ne (isN ((1) % 32768))).toNat)) Try.underlying50 rfl Try.sizeOf9 (s22.sls hN) needc_w rfl (by omega)) rfl (by decide) (cok1 trivial) ?_
        refine dv (gN rfl) (q_load_sls (l := ne) (i := ((ixG ne (isN ((1) % 32768))).toNat)) (u := .string ((nth ne ((ixG ne (isN ((1) % 32768))).toNat)).2.1)) Try.isAgg9 (s22.sls hN) needc_w rfl (by omega) (by decide) rfl) rfl (by decide) (cok1 trivial) ?_
        refine dv (gN rfl) (q_mv (v := .bool (decide (32768 ≤ 1))) rfl) rfl (by decide) (cok1 trivial) ?_
        refine dv (gN rfl) (q_as (v := .string ((nth ne ((ixG ne (isN ((1) % 32768))).toNat)).2.2.1)) rfl) rfl (by decide) (cok1 trivial) ?_
        refine dv (gN rfl) (q_as (v := .string ((nth ne ((ixG ne (isN ((1) % 32768))).toNat)).2.1)) rfl) rfl (by decide) (cok1 trivial) ?_
        refine dv (gN rfl) (q_as (v := .bool (decide (32768 ≤ 1))) rfl) rfl (by decide) (cok1 trivial) ?_
        refine ⟨_, Wk.refl _ _, ?_⟩
        show awp _ _ _ _ _ _ _
        refine awp_ret_wk ?_
        refine ⟨_, Wk.refl _ _, ?_⟩
        repeat (with_reducible first | refine then_ret ?_ | refine blk_ret ?_ | refine then_exit ?_ | refine blk_exit ?_ | refine blk_exit' (by decide) ?_ | refine blk_normal ?_ | refine then_normal ?_ | refine retq_ret ?_ | refine retq_normal ?_ | refine ng_normal ?_ | refine ng_ret ?_ | refine ng_exit ?_)
        exact ret_none (v := .tuple #[.string ((nth ne ((ixG ne (isN ((1) % 32768))).toNat)).2.2.1), .string ((nth ne ((ixG ne (isN ((1) % 32768))).toNat)).2.1), .bool (decide (32768 ≤ 1))]) rfl s22.kp (.tmp rfl (.tmp rfl (.tmp rfl .nil))) rfl rfl ⟨by rw [hon]; simp only [ofName, ofFile, if_pos, if_neg, *, not_false_eq_true], rfl⟩
      ·
        replace c8 := of_decide_eq_false c8
        refine ⟨_, Wk.refl _ _, ?_⟩
        show awp _ _ _ _ _ _ _
        refine awp_cond_f rfl ?_
        refine awp_skip_wk ?_
        refine ⟨_, Wk.refl _ _, ?_⟩
        show awp _ _ _ _ _ _ _
        refine awp_seq ?_
        refine awp_regs hF ?_
        refine dv (gN rfl) (q_mv (v := .bool (decide (32768 ≤ 1))) rfl) rfl (by decide) (cok1 trivial) ?_
        refine dv (gN rfl) (q_as (v := .string ({ data := #[] })) rfl) rfl (by decide) (cok1 (cconst rfl)) ?_
        refine dv (gN rfl) (q_as (v := .string ({ data := #[] })) rfl) rfl (by decide) (cok1 (cconst rfl)) ?_
        refine dv (gN rfl) (q_as (v := .bool (decide (32768 ≤ 1))) rfl) rfl (by decide) (cok1 trivial) ?_
        refine ⟨_, Wk.refl _ _, ?_⟩
        show awp _ _ _ _ _ _ _
        refine awp_ret_wk ?_
        refine ⟨_, Wk.refl _ _, ?_⟩
        repeat (with_reducible first | refine then_ret ?_ | refine blk_ret ?_ | refine then_exit ?_ | refine blk_exit ?_ | refine blk_exit' (by decide) ?_ | refine blk_normal ?_ | refine then_normal ?_ | refine retq_ret ?_ | refine retq_normal ?_ | refine ng_normal ?_ | refine ng_ret ?_ | refine ng_exit ?_)
        exact ret_none (v := .tuple #[.string ({ data := #[] }), .string ({ data := #[] }), .bool (decide (32768 ≤ 1))]) rfl s22.kp (.tmp rfl (.tmp rfl (.tmp rfl .nil))) rfl rfl ⟨by rw [hon]; simp only [ofName, ofFile, if_pos, if_neg, *, not_false_eq_true], rfl⟩

end Go.Proofs.YtoaliamemkjfhaaA


/-
  Walks of functions of the given program, and what they compute.
-/
namespace Go.Proofs.YtoaliamemkjfhaaA
set_option linter.unusedVariables false
open Go Go.RowKit Go.Shelf Go.Proofs
theorem speaks_a (H : AHeap) : ACalls Try.prog 8 [] H (Rets (.bool true) H) :=
  acalls_of_world rfl rfl (fun w => Go.Proofs.Ytoaliamemkjfhaa.PAll.turnbucklelaw12_speaks.calls 20 true w (by decide +kernel)) H
theorem numsL_len (b : ByteArray) : (numsL b).length = b.size / 2 := numsN_len b _
def nmS (c : UInt8) (k : Nat) : ByteArray := (⟨#[c]⟩ : ByteArray) ++ bytesOf [UInt8.ofNat (97 + k)]
def defsN (l : List Int) (k : Nat) : List DefT := (List.range k).map fun j => (nth l j, nmS 100 j)
def needsN (l : List Int) (k : Nat) : List NeedT := (List.range k).map fun j => (nth l j, (⟨#[102]⟩ : ByteArray), nmS 110 j, false)
theorem defsN_succ (l : List Int) (k : Nat) : defsN l k ++ [(nth l k, nmS 100 k)] = defsN l (k + 1) := by simp [defsN, List.range_succ]
theorem needsN_succ (l : List Int) (k : Nat) : needsN l k ++ [(nth l k, (⟨#[102]⟩ : ByteArray), nmS 110 k, false)] = needsN l (k + 1) := by simp [needsN, List.range_succ]
theorem defsN_len (l : List Int) (k : Nat) : (defsN l k).length = k := by simp [defsN]
theorem needsN_len (l : List Int) (k : Nat) : (needsN l k).length = k := by simp [needsN]
theorem needsN_file {l : List Int} {k j : Nat} (h : j < (needsN l k).length) : (nth (needsN l k) j).2.1 = (⟨#[102]⟩ : ByteArray) := by
  rw [nth_eq h]; simp [needsN]
theorem nums_lt (b : ByteArray) : ∀ n ∈ numsL b, n < 65536 := fun n hn => by
  obtain ⟨i, hi, rfl⟩ := List.mem_iff_getElem.1 hn
  rw [numsL_len] at hi
  rw [← nth_eq (by rw [numsL_len]; exact hi), numsL_nth hi]
  exact getB_lt2 hi
theorem name_def {ds : List DefT} {ne : List NeedT} {n j : Nat} (h : ixG ds (isD (n % 32768)) = (j : Nat)) : ofName ds ne n = (nth ds j).2 ∧ ofFile ds ne n = ⟨#[]⟩ := by
  unfold ofName ofFile
  rw [h, if_pos (by omega), if_pos (by omega)]; exact ⟨rfl, rfl⟩
theorem name_need {ds : List DefT} {ne : List NeedT} {n j : Nat} (h0 : ixG ds (isD (n % 32768)) = -1) (h : ixG ne (isN (n % 32768)) = (j : Nat)) : ofName ds ne n = (nth ne j).2.2.1 ∧ ofFile ds ne n = (nth ne j).2.1 := by
  unfold ofName ofFile
  rw [h0, h, if_neg (by decide), if_pos (by omega), if_neg (by decide), if_pos (by omega)]; exact ⟨rfl, rfl⟩
theorem name_none {ds : List DefT} {ne : List NeedT} {n : Nat} (h0 : ixG ds (isD (n % 32768)) = -1) (h : ixG ne (isN (n % 32768)) = -1) : ofName ds ne n = ⟨#[]⟩ ∧ ofFile ds ne n = ⟨#[]⟩ := by
  unfold ofName ofFile
  rw [h0, h, if_neg (by decide), if_neg (by decide), if_neg (by decide), if_neg (by decide)]; exact ⟨rfl, rfl⟩
theorem get2_eq (b : ByteArray) {i : Nat} (h : i < b.size / 2) : ofN (numsL b) (i : Nat) = getB (b.extract (2 * i) (2 * i + 2)) := by
  rw [ofN_in (by omega) (by rw [numsL_len]; omega), show (((i : Nat) : Int)).toNat = i from rfl, numsL_nth h]
  congr 2 <;> omega
theorem get2_lt (b : ByteArray) {i : Nat} (h : i < b.size / 2) : getB (b.extract (2 * i) (2 * i + 2)) < 65536 := by
  have := getB_lt2 h
  rwa [show i * 2 = 2 * i by omega, show (i + 1) * 2 = 2 * i + 2 by omega] at this
set_option maxRecDepth 100000 in
set_option maxHeartbeats 4000000 in
theorem vof_ok {H0 : AHeap} (nd nn : List Int) (vD vN : Value) (hD : Sl intv H0 vD nd) (hN : Sl intv H0 vN nn) (b : ByteArray) (hb : b.size ≤ 140737488355328) (i : Int) : ACalls Try.prog 6 [.agg #[vD, vN], .string b, .int .i64 i] H0 (Rets (.bool true) H0) := by
  have hF : Wd Fence.wide := .inl rfl
  have hM : Try.prog.follows .mixedOrders = true := by kernel_rfl
  have s0 := St.begin H0
  refine acalls_st Try.func6 rfl Try.ntmps6 rfl ?_
  refine awp_seq ?_
  refine awp_regs hF ?_
  refine x_new (fun b => .pointer (some ⟨b, 0, none⟩)) s0 (gN rfl) (q_box (v := .agg #[vD, vN]) (vs := [vD, vN]) 2 rfl (by exact trivial) rfl) rfl (by decide) (cok1 trivial) (fun b1 H2 hb4 s3 => ?_)
  refine dv (gN rfl) (q_as (v := .bool false) rfl) rfl (by decide) (cok1 (cconst rfl)) ?_
  refine ⟨_, Wk.refl _ _, ?_⟩
  show awp _ _ _ _ _ _ _
  refine awp_seq ?_
  refine awp_seq ?_
  refine awp_regs hF ?_
  refine dv (gN rfl) (q_call0 Try.call8 rfl (speaks_a H2)) rfl (by decide) (cok1 trivial) ?_
  refine dv (gN rfl) (q_not (b := true) rfl) rfl (by decide) (cok1 trivial) ?_
  refine ⟨_, Wk.refl _ _, ?_⟩
  show awp _ _ _ _ _ _ _
  refine awp_cond_f rfl ?_
  refine awp_skip_wk ?_
  refine ⟨_, Wk.refl _ _, ?_⟩
  show awp _ _ _ _ _ _ _
  refine awp_seq ?_
  refine awp_regt hF hM (by kernel_rfl) (by kernel_rfl) ?_
  refine dv (gN rfl) (q_indexArr (i := 0) Try.underlying44 Try.sizeOf40 rfl rfl (by first | decide | omega) (s3.rd (j := 0) rfl)) rfl (by decide) (cok2 trivial (cconst rfl)) ?_
  refine dv (gN rfl) (q_load (v := vD) Try.isAgg40 rfl (s3.rd (j := 0) rfl) rfl) rfl (by decide) (cok1 trivial) ?_
  refine dv (gN rfl) (q_indexArr (i := 1) Try.underlying44 Try.sizeOf40 rfl rfl (by first | decide | omega) (s3.rd (j := 0) rfl)) rfl (by decide) (cok2 trivial (cconst rfl)) ?_
  refine dv (gN rfl) (q_load (v := vN) Try.isAgg40 rfl (s3.rd (j := 0) rfl) rfl) rfl (by decide) (cok1 trivial) ?_
  refine dv (gN rfl) (q_as (v := vD) rfl) rfl (by decide) (cok1 trivial) ?_
  refine dv (gN rfl) (q_as (v := vN) rfl) rfl (by decide) (cok1 trivial) ?_
  refine ⟨_, Wk.refl _ _, ?_⟩
  show awp _ _ _ _ _ _ _
  refine awp_seq ?_
  refine awp_regs hF ?_
  refine x_new (fun b => .pointer (some ⟨b, 0, none⟩)) s3 (gN rfl) (q_alloc (vs := [.slice none 0 0, .slice none 0 0, .slice none 0 0]) 3 Try.zeroValue47 (by first | exact flat_scalar rfl | exact flat_agg rfl) rfl) rfl (by decide) (by simp [Op.operands, Call.operands]) (fun b5 H6 hb8 s7 => ?_)
  refine ⟨_, Wk.refl _ _, ?_⟩
  show awp _ _ _ _ _ _ _
  refine awp_seq ?_
  refine awp_seq ?_
  refine awp_regs hF ?_
  refine dv (gN rfl) (q_as (v := .int .i64 0) rfl) rfl (by decide) (cok1 (cconst rfl)) ?_
  refine ⟨_, Wk.refl _ _, ?_⟩
  show awp _ _ _ _ _ _ _
  refine awp_block ?_
  refine awp_nilc s7 (j := 0) (o := 0) (sz' := 2) rfl rfl (fun b9 H10 hb12 s11 => ?_)
  refine awp_wk (Wk.U [(1, .string b), (2, .int .i64 i), (7, vD), (8, vN), (9, .pointer (some ⟨b5, 0, none⟩)), (10, .int .i64 0)] ⟨rfl, rfl, rfl, rfl, rfl, rfl, trivial⟩) ?_
  refine awp_loop (fun (k : Nat) st => ∃ (H13 : AHeap) (bd : Nat), st = ⟨185, U [(1, .string b), (2, .int .i64 i), (7, vD), (8, vN), (9, .pointer (some ⟨b5, 0, none⟩)), (10, .int .i64 ((k : Nat) : Int))], [], H13⟩ ∧ St H0 (none0) (Rd H0) H13 [(bd, .cells true (fl defc (defsN nd k)) 2), (b5, .cells true [.slice (some ⟨bd, 0, none⟩) k k, .slice none 0 0, .slice none 0 0] 3), (b1, .cells true [vD, vN] 2)] ∧ (k ≤ nd.length ∧ k ≤ 20)) (fun (k : Nat) => 20 - k) (x0 := (0)) ?h0 ?round
  case h0 =>
    exact ⟨_, _, rfl, s11, ⟨Nat.zero_le _, Nat.zero_le _⟩⟩
  case round =>
    rintro k _ ⟨H13, bd, rfl, s14, hk⟩
    refine awp_seq ?_
    refine awp_seq ?_
    refine awp_regs hF ?_
    refine dv (gN rfl) (q_mv (v := .int .i64 ((k : Nat) : Int)) rfl) rfl (by decide) (cok1 trivial) ?_
    refine dv (gN rfl) (q_mv (v := vD) rfl) rfl (by decide) (cok1 trivial) ?_
    refine dv (gN rfl) (q_len_sl (l := nd) Try.underlying40 (s14.sl hD) rfl) rfl (by decide) (cok1 trivial) ?_
    refine dvb (gN rfl) (q_int rfl rfl rfl) rfl (by decide) (cok2 trivial trivial) (fun c1 => ?_) (fun c1 => ?_)
    ·
      replace c1 := of_decide_eq_true c1
      refine dv (gN rfl) (q_mv (v := .bool true) rfl) rfl (by decide) (cok1 trivial) ?_
      refine dv (gS rfl rfl) (q_mv (v := .int .i64 ((k : Nat) : Int)) rfl) rfl (by decide) (cok1 trivial) ?_
      refine dvb (gS rfl rfl) (q_int rfl rfl rfl) rfl (by decide) (cok2 trivial (cconst rfl)) (fun c2 => ?_) (fun c2 => ?_)
      ·
        replace c2 := of_decide_eq_true c2
        refine dv (gN rfl) (q_pt (v := .bool true) rfl rfl) rfl (by decide) (call_ok rfl) ?_
        refine ⟨_, Wk.refl _ _, ?_⟩
        show awp _ _ _ _ _ _ _
        refine awp_cond_t rfl ?_
        refine awp_skip_wk ?_
        refine ⟨_, Wk.refl _ _, ?_⟩
        show awp _ _ _ _ _ _ _
        refine awp_seq ?_
        refine awp_block ?_
        refine awp_regt hF hM (by kernel_rfl) (by kernel_rfl) ?_
        refine dv (gN rfl) (q_field Try.underlying47 rfl Try.sizeOf26 rfl (s14.rd (j := 1) rfl)) rfl (by decide) (cok1 trivial) ?_
        refine dv (gN rfl) (q_load (v := .slice (some ⟨bd, 0, none⟩) k k) Try.isAgg26 rfl (s14.rd (j := 1) rfl) rfl) rfl (by decide) (cok1 trivial) ?_
        refine dv (gN rfl) (q_mv (v := vD) rfl) rfl (by decide) (cok1 trivial) ?_
        refine dv (gN rfl) (q_mv (v := .int .i64 ((k : Nat) : Int)) rfl) rfl (by decide) (cok1 trivial) ?_
        refine dv (gN rfl) (q_index_sl (l := nd) (i := k) Try.underlying40 Try.sizeOf3 (s14.sl hD) rfl rfl (by omega)) rfl (by decide) (cok2 trivial trivial) ?_
        refine dv (gN rfl) (q_load_sl (l := nd) (i := k) Try.isAgg3 (s14.sl hD) rfl (by omega)) rfl (by decide) (cok1 trivial) ?_
        refine dv (gN rfl) (q_mv (v := .int .i64 ((k : Nat) : Int)) rfl) rfl (by decide) (cok1 trivial) ?_
        refine dv (gN rfl) (OpQ.cast (v' := .int .i64 ((97 + k : Nat) : Int)) (q_int rfl rfl rfl) (congrArg _ ((i64_in (by omega)).trans (by first | rfl | omega | (push_cast; rfl))))) rfl (by decide) (cok2 (cconst rfl) trivial) ?_
        refine dv (gN rfl) (OpQ.cast (v' := .int .u8 (((97 + k) % 256 : Nat) : Int)) (q_conv Try.underlying3 Try.underlying5 rfl) (congrArg _ (wrapU8 (97 + k)))) rfl (by decide) (cok1 trivial) ?_
        refine x_new (fun b => .slice (some ⟨b, 0, none⟩) 1 1) s14 (gN rfl) (q_buildSliceL (ds := [.int .u8 (((97 + k) % 256 : Nat) : Int)]) [.int .u8 (((97 + k) % 256 : Nat) : Int)] rfl Try.underlying48 Try.sizeOf5 Try.zeroValue5 rfl (by decide) (by decide) ⟨rfl, trivial⟩ (lvsC (by exact trivial) lvs0) rfl rfl) rfl (by decide) (cok1 trivial) (fun b15 H16 hb18 s17 => ?_)
        refine dv (gN rfl) (q_bytesl (l := [UInt8.ofNat (97 + k)]) Try.underlying48 Try.underlying9 Try.underlying5 rfl (s17.rd (j := 0) rfl) rfl) rfl (by decide) (cok1 trivial) ?_
        refine dv (gN rfl) (q_cat rfl rfl (Nat.le_of_ble_eq_true rfl)) rfl (by decide) (cok2 (cconst rfl) trivial) ?_
        refine dv (gN rfl) (q_buildL (ds := [.int .i64 (nth nd k), .string ((⟨#[100]⟩ : ByteArray) ++ (bytesOf [UInt8.ofNat (97 + k)]))]) [(0, 1), (1, 1)] [.int .i64 (nth nd k), .string ((⟨#[100]⟩ : ByteArray) ++ (bytesOf [UInt8.ofNat (97 + k)]))] Try.underlying38 Try.zeroValue38 (by first | exact flat_agg rfl | exact flat_scalar rfl) (by kernel_rfl) ⟨rfl, rfl, trivial⟩ (lvsC (by exact trivial) (lvsC (by exact trivial) lvs0)) rfl) rfl (by decide) (cok2 trivial trivial) ?_
        refine x_new (fun b => .slice (some ⟨b, 0, none⟩) 1 1) s17 (gN rfl) (q_buildSliceL (ds := [.int .i64 (nth nd k), .string ((⟨#[100]⟩ : ByteArray) ++ (bytesOf [UInt8.ofNat (97 + k)]))]) [.agg #[.int .i64 (nth nd k), .string ((⟨#[100]⟩ : ByteArray) ++ (bytesOf [UInt8.ofNat (97 + k)]))]] rfl Try.underlying26 Try.sizeOf38 Try.zeroValue38 rfl (by decide) (by decide) ⟨rfl, trivial⟩ (lvsC (by exact trivial) lvs0) rfl rfl) rfl (by decide) (cok1 trivial) (fun b19 H20 hb22 s21 => ?_)
        refine x_appendS (m := 2) (l := [(nth nd k, (⟨#[100]⟩ : ByteArray) ++ (bytesOf [UInt8.ofNat (97 + k)]))]) (l0 := defsN nd k) (l' := defsN nd (k + 1)) (f := defc) [] hF s21 (by kernel_rfl) (j := 2) (k + 1) rfl (gN rfl) Try.underlying26 Try.underlying26 Try.type38 rfl rfl (by decide) rfl defc_w rfl rfl rfl (s21.slsj (l := [(nth nd k, (⟨#[100]⟩ : ByteArray) ++ (bytesOf [UInt8.ofNat (97 + k)]))]) defc_w (j := 0) rfl rfl (Nat.le_refl _)) (fun x _ u hu => lc_scalar (defc_sc x u hu)) (defsN_len nd k).symm (by show (2 * _ + 1000) * 24 ≤ _; first | omega | (simp only [List.length_append, List.length_cons, List.length_nil, List.length_take, List.length_drop]; omega)) trivial trivial (by decide) rfl rfl (defsN_succ nd k) (fun b23 H24 hb26 s25 => ⟨?_, ?_⟩)
        · exact trivial
        refine dv (gN rfl) (q_field Try.underlying47 rfl Try.sizeOf26 rfl (s25.rd (j := 3) rfl)) rfl (by decide) (cok1 trivial) ?_
        refine x_store1 [] hF s25 (by kernel_rfl) (gN rfl) (j := 3) (v := .slice (some ⟨b23, 0, none⟩) (k + 1) (k + 1)) rfl Try.sizeOf26 rfl rfl rfl (lc_slice (s25.live (j := 2) rfl)) (Nat.le_of_ble_eq_true rfl) trivial trivial rfl rfl (F' := [(b19, .cells true [.int .i64 (nth nd k), .string ((⟨#[100]⟩ : ByteArray) ++ (bytesOf [UInt8.ofNat (97 + k)]))] 2), (b15, .cells true (([UInt8.ofNat (97 + k)]).map bytv) 1), (b23, .cells true (fl defc (defsN nd (k + 1))) 2), (b5, .cells true [.slice (some ⟨b23, 0, none⟩) (k + 1) (k + 1), .slice none 0 0, .slice none 0 0] 3), (b1, .cells true [vD, vN] 2)]) rfl (fun H27 s28 => ⟨?_, ?_⟩)
        · exact trivial
        refine ⟨_, Wk.refl _ _, ?_⟩
        show awp _ _ _ _ _ _ _
        refine awp_regs hF ?_
        refine dv (gN rfl) (q_mv (v := .int .i64 ((k : Nat) : Int)) rfl) rfl (by decide) (cok1 trivial) ?_
        refine dv (gN rfl) (OpQ.cast (v' := .int .i64 ((k + 1 : Nat) : Int)) (q_int rfl rfl rfl) (congrArg _ ((i64_in (by omega)).trans (by first | rfl | omega | (push_cast; rfl))))) rfl (by decide) (cok2 trivial (cconst rfl)) ?_
        refine dv (gN rfl) (q_as (v := .int .i64 ((k + 1 : Nat) : Int)) rfl) rfl (by decide) (cok1 trivial) ?_
        refine ⟨_, Wk.U [(1, .string b), (2, .int .i64 i), (7, vD), (8, vN), (9, .pointer (some ⟨b5, 0, none⟩)), (10, .int .i64 (((k + 1) : Nat) : Int))] ⟨rfl, rfl, rfl, rfl, rfl, rfl, trivial⟩, (k + 1), ⟨_, _, rfl, (s28.sub (.cons _ (.cons _ (.cons_cons _ (.cons_cons _ (.cons_cons _ (.refl _))))))), ⟨by omega, by omega⟩⟩, (by omega)⟩
      ·
        replace c2 := of_decide_eq_false c2
        refine dv (gN rfl) (q_pt (v := .bool false) rfl rfl) rfl (by decide) (call_ok rfl) ?_
        refine ⟨_, Wk.refl _ _, ?_⟩
        show awp _ _ _ _ _ _ _
        refine awp_cond_f rfl ?_
        refine awp_exit_wk ?_
        refine ⟨_, Wk.refl _ _, ?_⟩
        show awp _ _ _ _ _ _ _
        refine awp_seq ?_
        refine awp_seq ?_
        refine awp_regs hF ?_
        refine dv (gN rfl) (q_as (v := .int .i64 0) rfl) rfl (by decide) (cok1 (cconst rfl)) ?_
        refine ⟨_, Wk.refl _ _, ?_⟩
        show awp _ _ _ _ _ _ _
        refine awp_block ?_
        refine awp_nilc s14 (j := 1) (o := 1) (sz' := 4) rfl rfl (fun b29 H30 hb32 s31 => ?_)
        refine awp_wk (Wk.U [(1, .string b), (2, .int .i64 i), (8, vN), (9, .pointer (some ⟨b5, 0, none⟩)), (11, .int .i64 0)] ⟨rfl, rfl, rfl, rfl, rfl, trivial⟩) ?_
        refine awp_loop (fun (k2 : Nat) st => ∃ (H33 : AHeap) (bn : Nat), st = ⟨185, U [(1, .string b), (2, .int .i64 i), (8, vN), (9, .pointer (some ⟨b5, 0, none⟩)), (11, .int .i64 ((k2 : Nat) : Int))], [], H33⟩ ∧ St H0 (none0) (Rd H0) H33 [(bn, .cells true (fl needc (needsN nn k2)) 4), (bd, .cells true (fl defc (defsN nd k)) 2), (b5, .cells true [.slice (some ⟨bd, 0, none⟩) k k, .slice (some ⟨bn, 0, none⟩) k2 k2, .slice none 0 0] 3), (b1, .cells true [vD, vN] 2)] ∧ (k2 ≤ nn.length ∧ k2 ≤ 20)) (fun (k2 : Nat) => 20 - k2) (x0 := (0)) ?h0 ?round
        case h0 =>
          exact ⟨_, _, rfl, s31, ⟨Nat.zero_le _, Nat.zero_le _⟩⟩
        case round =>
          rintro k2 _ ⟨H33, bn, rfl, s34, hk2⟩
          refine awp_seq ?_
          refine awp_seq ?_
          refine awp_regs hF ?_
          refine dv (gN rfl) (q_mv (v := .int .i64 ((k2 : Nat) : Int)) rfl) rfl (by decide) (cok1 trivial) ?_
          refine dv (gN rfl) (q_mv (v := vN) rfl) rfl (by decide) (cok1 trivial) ?_
          refine dv (gN rfl) (q_len_sl (l := nn) Try.underlying40 (s34.sl hN) rfl) rfl (by decide) (cok1 trivial) ?_
          refine dvb (gN rfl) (q_int rfl rfl rfl) rfl (by decide) (cok2 trivial trivial) (fun c3 => ?_) (fun c3 => ?_)
          ·
            replace c3 := of_decide_eq_true c3
            refine dv (gN rfl) (q_mv (v := .bool true) rfl) rfl (by decide) (cok1 trivial) ?_
            refine dv (gS rfl rfl) (q_mv (v := .int .i64 ((k2 : Nat) : Int)) rfl) rfl (by decide) (cok1 trivial) ?_
            refine dvb (gS rfl rfl) (q_int rfl rfl rfl) rfl (by decide) (cok2 trivial (cconst rfl)) (fun c4 => ?_) (fun c4 => ?_)
            ·
              replace c4 := of_decide_eq_true c4
              refine dv (gN rfl) (q_pt (v := .bool true) rfl rfl) rfl (by decide) (call_ok rfl) ?_
              refine ⟨_, Wk.refl _ _, ?_⟩
              show awp _ _ _ _ _ _ _
              refine awp_cond_t rfl ?_
              refine awp_skip_wk ?_
              refine ⟨_, Wk.refl _ _, ?_⟩
              show awp _ _ _ _ _ _ _
              refine awp_seq ?_
              refine awp_block ?_
              refine awp_regt hF hM (by kernel_rfl) (by kernel_rfl) ?_
              refine dv (gN rfl) (q_field Try.underlying47 rfl Try.sizeOf45 rfl (s34.rd (j := 2) rfl)) rfl (by decide) (cok1 trivial) ?_
              refine dv (gN rfl) (q_load (v := .slice (some ⟨bn, 0, none⟩) k2 k2) Try.isAgg45 rfl (s34.rd (j := 2) rfl) rfl) rfl (by decide) (cok1 trivial) ?_
              refine dv (gN rfl) (q_mv (v := vN) rfl) rfl (by decide) (cok1 trivial) ?_
              refine dv (gN rfl) (q_mv (v := .int .i64 ((k2 : Nat) : Int)) rfl) rfl (by decide) (cok1 trivial) ?_
              refine dv (gN rfl) (q_index_sl (l := nn) (i := k2) Try.underlying40 Try.sizeOf3 (s34.sl hN) rfl rfl (by omega)) rfl (by decide) (cok2 trivial trivial) ?_
              refine dv (gN rfl) (q_load_sl (l := nn) (i := k2) Try.isAgg3 (s34.sl hN) rfl (by omega)) rfl (by decide) (cok1 trivial) ?_
              refine dv (gN rfl) (q_mv (v := .int .i64 ((k2 : Nat) : Int)) rfl) rfl (by decide) (cok1 trivial) ?_
              refine dv (gN rfl) (OpQ.cast (v' := .int .i64 ((97 + k2 : Nat) : Int)) (q_int rfl rfl rfl) (congrArg _ ((i64_in (by omega)).trans (by first | rfl | omega | (push_cast; rfl))))) rfl (by decide) (cok2 (cconst rfl) trivial) ?_
              refine dv (gN rfl) (OpQ.cast (v' := .int .u8 (((97 + k2) % 256 : Nat) : Int)) (q_conv Try.underlying3 Try.underlying5 rfl) (congrArg _ (wrapU8 (97 + k2)))) rfl (by decide) (cok1 trivial) ?_
              refine x_new (fun b => .slice (some ⟨b, 0, none⟩) 1 1) s34 (gN rfl) (q_buildSliceL (ds := [.int .u8 (((97 + k2) % 256 : Nat) : Int)]) [.int .u8 (((97 + k2) % 256 : Nat) : Int)] rfl Try.underlying48 Try.sizeOf5 Try.zeroValue5 rfl (by decide) (by decide) ⟨rfl, trivial⟩ (lvsC (by exact trivial) lvs0) rfl rfl) rfl (by decide) (cok1 trivial) (fun b35 H36 hb38 s37 => ?_)
              refine dv (gN rfl) (q_bytesl (l := [UInt8.ofNat (97 + k2)]) Try.underlying48 Try.underlying9 Try.underlying5 rfl (s37.rd (j := 0) rfl) rfl) rfl (by decide) (cok1 trivial) ?_
              refine dv (gN rfl) (q_cat rfl rfl (Nat.le_of_ble_eq_true rfl)) rfl (by decide) (cok2 (cconst rfl) trivial) ?_
              refine dv (gN rfl) (q_buildL (ds := [.int .i64 (nth nn k2), .string (⟨#[102]⟩ : ByteArray), .string ((⟨#[110]⟩ : ByteArray) ++ (bytesOf [UInt8.ofNat (97 + k2)])), .bool false]) [(0, 1), (1, 1), (2, 1), (3, 1)] [.int .i64 (nth nn k2), .string (⟨#[102]⟩ : ByteArray), .string ((⟨#[110]⟩ : ByteArray) ++ (bytesOf [UInt8.ofNat (97 + k2)]))] Try.underlying50 Try.zeroValue50 (by first | exact flat_agg rfl | exact flat_scalar rfl) (by kernel_rfl) ⟨rfl, rfl, rfl, trivial⟩ (lvsC (by exact trivial) (lvsC (by exact trivial) (lvsC (by exact trivial) lvs0))) rfl) rfl (by decide) (call_ok rfl) ?_
              refine x_new (fun b => .slice (some ⟨b, 0, none⟩) 1 1) s37 (gN rfl) (q_buildSliceL (ds := [.int .i64 (nth nn k2), .string (⟨#[102]⟩ : ByteArray), .string ((⟨#[110]⟩ : ByteArray) ++ (bytesOf [UInt8.ofNat (97 + k2)])), .bool false]) [.agg #[.int .i64 (nth nn k2), .string (⟨#[102]⟩ : ByteArray), .string ((⟨#[110]⟩ : ByteArray) ++ (bytesOf [UInt8.ofNat (97 + k2)])), .bool false]] rfl Try.underlying45 Try.sizeOf50 Try.zeroValue50 rfl (by decide) (by decide) ⟨rfl, trivial⟩ (lvsC (by exact trivial) lvs0) rfl rfl) rfl (by decide) (cok1 trivial) (fun b39 H40 hb42 s41 => ?_)
              refine x_appendS (m := 4) (l := [(nth nn k2, (⟨#[102]⟩ : ByteArray), (⟨#[110]⟩ : ByteArray) ++ (bytesOf [UInt8.ofNat (97 + k2)]), false)]) (l0 := needsN nn k2) (l' := needsN nn (k2 + 1)) (f := needc) [] hF s41 (by kernel_rfl) (j := 2) (k2 + 1) rfl (gN rfl) Try.underlying45 Try.underlying45 Try.type50 rfl rfl (by decide) rfl needc_w rfl rfl rfl (s41.slsj (l := [(nth nn k2, (⟨#[102]⟩ : ByteArray), (⟨#[110]⟩ : ByteArray) ++ (bytesOf [UInt8.ofNat (97 + k2)]), false)]) needc_w (j := 0) rfl rfl (Nat.le_refl _)) (fun x _ u hu => lc_scalar (needc_sc x u hu)) (needsN_len nn k2).symm (by show (2 * _ + 1000) * 48 ≤ _; first | omega | (simp only [List.length_append, List.length_cons, List.length_nil, List.length_take, List.length_drop]; omega)) trivial trivial (by decide) rfl rfl (needsN_succ nn k2) (fun b43 H44 hb46 s45 => ⟨?_, ?_⟩)
              · exact trivial
              refine dv (gN rfl) (q_field Try.underlying47 rfl Try.sizeOf45 rfl (s45.rd (j := 4) rfl)) rfl (by decide) (cok1 trivial) ?_
              refine x_store1 [] hF s45 (by kernel_rfl) (gN rfl) (j := 4) (v := .slice (some ⟨b43, 0, none⟩) (k2 + 1) (k2 + 1)) rfl Try.sizeOf45 rfl rfl rfl (lc_slice (s45.live (j := 2) rfl)) (Nat.le_of_ble_eq_true rfl) trivial trivial rfl rfl (F' := [(b39, .cells true [.int .i64 (nth nn k2), .string (⟨#[102]⟩ : ByteArray), .string ((⟨#[110]⟩ : ByteArray) ++ (bytesOf [UInt8.ofNat (97 + k2)])), .bool false] 4), (b35, .cells true (([UInt8.ofNat (97 + k2)]).map bytv) 1), (b43, .cells true (fl needc (needsN nn (k2 + 1))) 4), (bd, .cells true (fl defc (defsN nd k)) 2), (b5, .cells true [.slice (some ⟨bd, 0, none⟩) k k, .slice (some ⟨b43, 0, none⟩) (k2 + 1) (k2 + 1), .slice none 0 0] 3), (b1, .cells true [vD, vN] 2)]) rfl (fun H47 s48 => ⟨?_, ?_⟩)
              · exact trivial
              refine ⟨_, Wk.refl _ _, ?_⟩
              show awp _ _ _ _ _ _ _
              refine awp_regs hF ?_
              refine dv (gN rfl) (q_mv (v := .int .i64 ((k2 : Nat) : Int)) rfl) rfl (by decide) (cok1 trivial) ?_
              refine dv (gN rfl) (OpQ.cast (v' := .int .i64 ((k2 + 1 : Nat) : Int)) (q_int rfl rfl rfl) (congrArg _ ((i64_in (by omega)).trans (by first | rfl | omega | (push_cast; rfl))))) rfl (by decide) (cok2 trivial (cconst rfl)) ?_
              refine dv (gN rfl) (q_as (v := .int .i64 ((k2 + 1 : Nat) : Int)) rfl) rfl (by decide) (cok1 trivial) ?_
              refine ⟨_, Wk.U [(1, .string b), (2, .int .i64 i), (8, vN), (9, .pointer (some ⟨b5, 0, none⟩)), (11, .int .i64 (((k2 + 1) : Nat) : Int))] ⟨rfl, rfl, rfl, rfl, rfl, trivial⟩, (k2 + 1), ⟨_, _, rfl, (s48.sub (.cons _ (.cons _ (.cons_cons _ (.cons_cons _ (.cons_cons _ (.cons_cons _ (.refl _)))))))), ⟨by omega, by omega⟩⟩, (by omega)⟩
            ·
              replace c4 := of_decide_eq_false c4
              refine dv (gN rfl) (q_pt (v := .bool false) rfl rfl) rfl (by decide) (call_ok rfl) ?_
              refine ⟨_, Wk.refl _ _, ?_⟩
              show awp _ _ _ _ _ _ _
              refine awp_cond_f rfl ?_
              refine awp_exit_wk ?_
              refine ⟨_, Wk.refl _ _, ?_⟩
              show awp _ _ _ _ _ _ _
              refine awp_seq ?_
              refine awp_regs hF ?_
              refine dv (gN rfl) (q_mv (v := .string b) rfl) rfl (by decide) (cok1 trivial) ?_
              refine dv (gN rfl) (q_mv (v := .string b) rfl) rfl (by decide) (cok1 trivial) ?_
              refine dv (gN rfl) (q_len_str Try.underlying9 rfl) rfl (by decide) (cok1 trivial) ?_
              refine dv (gN rfl) (OpQ.cast (v' := .int .i64 ((min b.size 100 : Nat) : Int)) (q_min rfl rfl) (by congr 1; split <;> omega)) rfl (by decide) (cok2 trivial (cconst rfl)) ?_
              refine dv (gN rfl) (q_substr (i := 0) (j := (min b.size 100)) Try.underlying9 rfl rfl ⟨_, rfl⟩ (by omega) (by omega)) rfl (by decide) (cok2 trivial trivial) ?_
              refine dv (gN rfl) (q_as (v := .string (b.extract 0 (min b.size 100))) rfl) rfl (by decide) (cok1 trivial) ?_
              refine ⟨_, Wk.refl _ _, ?_⟩
              show awp _ _ _ _ _ _ _
              refine awp_seq ?_
              have hbs : (b.extract 0 (min b.size 100)).size ≤ 100 := by rw [ByteArray.size_extract]; omega
              generalize b.extract 0 (min b.size 100) = bb at hbs ⊢
              have hnl := numsL_len bb
              have hdl := defsN_len nd k
              have hel := needsN_len nn k2
              refine awp_regs hF ?_
              refine dv (gN rfl) (q_mv (v := .string bb) rfl) rfl (by decide) (cok1 trivial) ?_
              refine x_new (fun b => .slice (some ⟨b, 0, none⟩) (numsL bb).length (numsL bb).length) s34 (gN rfl) (q_call (Δ := [.cells true ((numsL bb).map i64v) 1]) Try.call15 rfl (by simp [AObj.wr]) (acalls_fresh i64v_sc (numbers_ok bb (by omega)))) rfl (by decide) (cok2 trivial trivial) (fun b49 H50 hb52 s51 => ?_)
              refine dv (gN rfl) (q_field Try.underlying47 rfl Try.sizeOf40 rfl (s51.rd (j := 3) rfl)) rfl (by decide) (cok1 trivial) ?_
              refine x_store1 [] hF s51 (by kernel_rfl) (gN rfl) (j := 3) (v := .slice (some ⟨b49, 0, none⟩) ((numsL bb).length) ((numsL bb).length)) rfl Try.sizeOf40 rfl rfl rfl (lc_slice (s51.live (j := 0) rfl)) (Nat.le_of_ble_eq_true rfl) trivial trivial rfl rfl (F' := [(b49, .cells true ((numsL bb).map i64v) 1), (bn, .cells true (fl needc (needsN nn k2)) 4), (bd, .cells true (fl defc (defsN nd k)) 2), (b5, .cells true [.slice (some ⟨bd, 0, none⟩) k k, .slice (some ⟨bn, 0, none⟩) k2 k2, .slice (some ⟨b49, 0, none⟩) ((numsL bb).length) ((numsL bb).length)] 3), (b1, .cells true [vD, vN] 2)]) rfl (fun H53 s54 => ⟨?_, ?_⟩)
              · exact trivial
              refine ⟨_, Wk.refl _ _, ?_⟩
              show awp _ _ _ _ _ _ _
              refine awp_seq ?_
              refine awp_regs hF ?_
              refine dv (gN rfl) (q_as (v := .int .u64 1) rfl) rfl (by decide) (cok1 (cconst rfl)) ?_
              refine ⟨_, Wk.refl _ _, ?_⟩
              show awp _ _ _ _ _ _ _
              refine awp_join (fun st => ∃ (H55 : AHeap) (n0 : Nat), st = ⟨185, U [(1, .string bb), (2, .int .i64 i), (9, .pointer (some ⟨b5, 0, none⟩)), (12, .int .u64 ((n0 : Nat) : Int))], [], H55⟩ ∧ St H0 (none0) (Rd H0) H55 [(b49, .cells true ((numsL bb).map i64v) 1), (bn, .cells true (fl needc (needsN nn k2)) 4), (bd, .cells true (fl defc (defsN nd k)) 2), (b5, .cells true [.slice (some ⟨bd, 0, none⟩) k k, .slice (some ⟨bn, 0, none⟩) k2 k2, .slice (some ⟨b49, 0, none⟩) ((numsL bb).length) ((numsL bb).length)] 3), (b1, .cells true [vD, vN] 2)] ∧ (ofN (numsL bb) i = n0) ∧ (n0 < 65536)) ?j1 ?j2
              case j1 =>
                refine awp_seq ?_
                refine awp_regs hF ?_
                refine dv (gN rfl) (q_mv (v := .int .i64 i) rfl) rfl (by decide) (cok1 trivial) ?_
                refine dvb (gN rfl) (q_int rfl rfl rfl) rfl (by decide) (cok2 trivial (cconst rfl)) (fun c5 => ?_) (fun c5 => ?_)
                ·
                  replace c5 := of_decide_eq_true c5
                  obtain ⟨i0, rfl⟩ := Int.eq_ofNat_of_zero_le c5
                  refine dv (gN rfl) (q_mv (v := .bool true) rfl) rfl (by decide) (cok1 trivial) ?_
                  refine dv (gS rfl rfl) (q_mv (v := .int .i64 ((i0 : Nat) : Int)) rfl) rfl (by decide) (cok1 trivial) ?_
                  refine dv (gS rfl rfl) (q_mv (v := .string bb) rfl) rfl (by decide) (cok1 trivial) ?_
                  refine dv (gS rfl rfl) (q_len_str Try.underlying9 rfl) rfl (by decide) (cok1 trivial) ?_
                  refine dv (gS rfl rfl) (q_quoM (a := bb.size) (b := 2) rfl rfl (by first | decide | omega) (i64_in (by have := div_le_of (a := bb.size) (b := 2) (M := 9223372036854775807) (by omega); omega))) rfl (by decide) (cok2 trivial (cconst rfl)) ?_
                  refine dvb (gS rfl rfl) (q_int rfl rfl rfl) rfl (by decide) (cok2 trivial trivial) (fun c6 => ?_) (fun c6 => ?_)
                  ·
                    replace c6 := of_decide_eq_true c6
                    refine dv (gN rfl) (q_pt (v := .bool true) rfl rfl) rfl (by decide) (call_ok rfl) ?_
                    refine ⟨_, Wk.refl _ _, ?_⟩
                    show awp _ _ _ _ _ _ _
                    refine awp_cond_t rfl ?_
                    refine awp_regs hF ?_
                    refine dv (gN rfl) (q_mv (v := .string bb) rfl) rfl (by decide) (cok1 trivial) ?_
                    refine dv (gN rfl) (q_mv (v := .int .i64 ((i0 : Nat) : Int)) rfl) rfl (by decide) (cok1 trivial) ?_
                    refine dv (gN rfl) (OpQ.cast (v' := .int .i64 ((2 * i0 : Nat) : Int)) (q_int rfl rfl rfl) (congrArg _ ((i64_in (by omega)).trans (by first | rfl | omega | (push_cast; rfl))))) rfl (by decide) (cok2 (cconst rfl) trivial) ?_
                    refine dv (gN rfl) (q_mv (v := .int .i64 ((i0 : Nat) : Int)) rfl) rfl (by decide) (cok1 trivial) ?_
                    refine dv (gN rfl) (OpQ.cast (v' := .int .i64 ((2 * i0 : Nat) : Int)) (q_int rfl rfl rfl) (congrArg _ ((i64_in (by omega)).trans (by first | rfl | omega | (push_cast; rfl))))) rfl (by decide) (cok2 (cconst rfl) trivial) ?_
                    refine dv (gN rfl) (OpQ.cast (v' := .int .i64 ((2 * i0 + 2 : Nat) : Int)) (q_int rfl rfl rfl) (congrArg _ ((i64_in (by omega)).trans (by first | rfl | omega | (push_cast; rfl))))) rfl (by decide) (cok2 trivial (cconst rfl)) ?_
                    refine dv (gN rfl) (q_substr (i := (2 * i0)) (j := (2 * i0 + 2)) Try.underlying9 rfl ⟨_, rfl⟩ ⟨_, rfl⟩ (by omega) (by omega)) rfl (by decide) (call_ok rfl) ?_
                    refine dv (gN rfl) (q_call0 Try.call16 rfl (rget_ok (bb.extract (2 * i0) (2 * i0 + 2)) (by rw [ByteArray.size_extract]; omega))) rfl (by decide) (cok2 trivial trivial) ?_
                    refine dv (gN rfl) (q_as (v := .int .u64 ((getB (bb.extract (2 * i0) (2 * i0 + 2)) : Nat) : Int)) rfl) rfl (by decide) (cok1 trivial) ?_
                    exact ⟨_, Wk.U [(1, .string bb), (2, .int .i64 ((i0 : Nat) : Int)), (9, .pointer (some ⟨b5, 0, none⟩)), (12, .int .u64 (((getB (bb.extract (2 * i0) (2 * i0 + 2))) : Nat) : Int))] ⟨rfl, rfl, rfl, rfl, trivial⟩, ⟨_, (getB (bb.extract (2 * i0) (2 * i0 + 2))), rfl, s54, get2_eq bb (by omega), get2_lt bb (by omega)⟩⟩
                  ·
                    replace c6 := of_decide_eq_false c6
                    refine dv (gN rfl) (q_pt (v := .bool false) rfl rfl) rfl (by decide) (call_ok rfl) ?_
                    refine ⟨_, Wk.refl _ _, ?_⟩
                    show awp _ _ _ _ _ _ _
                    refine awp_cond_f rfl ?_
                    refine awp_skip_wk ?_
                    exact ⟨_, Wk.U [(1, .string bb), (2, .int .i64 ((i0 : Nat) : Int)), (9, .pointer (some ⟨b5, 0, none⟩)), (12, .int .u64 1)] ⟨rfl, rfl, rfl, rfl, trivial⟩, ⟨_, 1, rfl, s54, ofN_out (by omega), by decide⟩⟩
                ·
                  replace c5 := of_decide_eq_false c5
                  refine dv (gN rfl) (q_mv (v := .bool false) rfl) rfl (by decide) (cok1 trivial) ?_
                  refine dno rfl (.inl rfl) rfl (by decide) ?_
                  refine dno rfl (.inl rfl) rfl (by decide) ?_
                  refine dno rfl (.inl rfl) rfl (by decide) ?_
                  refine dno rfl (.inl rfl) rfl (by decide) ?_
                  refine dno rfl (.inl rfl) rfl (by decide) ?_
                  refine dv (gN rfl) (q_pf (v := .bool false) rfl rfl) rfl (by decide) (call_ok rfl) ?_
                  refine ⟨_, Wk.refl _ _, ?_⟩
                  show awp _ _ _ _ _ _ _
                  refine awp_cond_f rfl ?_
                  refine awp_skip_wk ?_
                  exact ⟨_, Wk.U [(1, .string bb), (2, .int .i64 i), (9, .pointer (some ⟨b5, 0, none⟩)), (12, .int .u64 1)] ⟨rfl, rfl, rfl, rfl, trivial⟩, ⟨_, 1, rfl, s54, ofN_out (by omega), by decide⟩⟩
              case j2 =>
                rintro _ ⟨H55, n0, rfl, s56, hnn, hn6⟩
                refine awp_seq ?_
                refine awp_regs hF ?_
                refine dv (gN rfl) (q_loadAgg Try.isAgg47 Try.sizeOf47 rfl (s56.rd (j := 3) rfl) (Nat.le_of_ble_eq_true rfl) rfl) rfl (by decide) (cok1 trivial) ?_
                refine dv (gN rfl) (q_mv (v := .int .i64 i) rfl) rfl (by decide) (cok1 trivial) ?_
                refine dv (gN rfl) (q_call0 Try.call17 rfl (of_ok (defsN nd k) (needsN nn k2) (numsL bb) _ _ _ (s56.slsj defc_w (j := 2) rfl (by first | rfl | (simp; done) | omega) (by first | exact Nat.le_refl _ | omega)) (s56.slsj needc_w (j := 1) rfl (by first | rfl | (simp; done) | omega) (by first | exact Nat.le_refl _ | omega)) (s56.slj (j := 0) rfl (by first | rfl | (simp; done) | omega) (by first | exact Nat.le_refl _ | omega)) (by omega) (by omega) (by omega) (nums_lt bb) i)) rfl (by decide) (call_ok rfl) ?_
                refine dv (gN rfl) (q_mv (v := .tuple #[.string (ofName (defsN nd k) (needsN nn k2) (ofN (numsL bb) i)), .string (ofFile (defsN nd k) (needsN nn k2) (ofN (numsL bb) i)), .bool (decide (32768 ≤ ofN (numsL bb) i))]) rfl) rfl (by decide) (cok1 trivial) ?_
                refine dv (gN rfl) (q_extract (v := .string (ofName (defsN nd k) (needsN nn k2) (ofN (numsL bb) i))) rfl rfl) rfl (by decide) (cok1 trivial) ?_
                refine dv (gN rfl) (q_extract (v := .string (ofFile (defsN nd k) (needsN nn k2) (ofN (numsL bb) i))) rfl rfl) rfl (by decide) (cok1 trivial) ?_
                refine dv (gN rfl) (q_extract (v := .bool (decide (32768 ≤ ofN (numsL bb) i))) rfl rfl) rfl (by decide) (cok1 trivial) ?_
                refine dv (gN rfl) (q_as (v := .string (ofName (defsN nd k) (needsN nn k2) (ofN (numsL bb) i))) rfl) rfl (by decide) (cok1 trivial) ?_
                refine dv (gN rfl) (q_as (v := .string (ofFile (defsN nd k) (needsN nn k2) (ofN (numsL bb) i))) rfl) rfl (by decide) (cok1 trivial) ?_
                refine dv (gN rfl) (q_as (v := .bool (decide (32768 ≤ ofN (numsL bb) i))) rfl) rfl (by decide) (cok1 trivial) ?_
                refine ⟨_, Wk.refl _ _, ?_⟩
                show awp _ _ _ _ _ _ _
                refine awp_seq ?_
                refine awp_seq ?_
                refine awp_regs hF ?_
                refine dv (gN rfl) (q_field Try.underlying47 rfl Try.sizeOf40 rfl (s56.rd (j := 3) rfl)) rfl (by decide) (cok1 trivial) ?_
                refine dv (gN rfl) (q_load (v := .slice (some ⟨b49, 0, none⟩) ((numsL bb).length) ((numsL bb).length)) Try.isAgg40 rfl (s56.rd (j := 3) rfl) rfl) rfl (by decide) (cok1 trivial) ?_
                refine dv (gN rfl) (q_len_slice Try.underlying40 rfl (s56.rd (j := 0) rfl)) rfl (by decide) (cok1 trivial) ?_
                refine dv (gN rfl) (q_mv (v := .string bb) rfl) rfl (by decide) (cok1 trivial) ?_
                refine dv (gN rfl) (q_len_str Try.underlying9 rfl) rfl (by decide) (cok1 trivial) ?_
                refine dv (gN rfl) (q_quoM (a := bb.size) (b := 2) rfl rfl (by first | decide | omega) (i64_in (by have := div_le_of (a := bb.size) (b := 2) (M := 9223372036854775807) (by omega); omega))) rfl (by decide) (cok2 trivial (cconst rfl)) ?_
                refine dv (gN rfl) (OpQ.cast (v' := .bool false) (q_int rfl rfl rfl) (congrArg Value.bool (by rw [hnl]; exact bne_self_eq_false _))) rfl (by decide) (cok2 trivial trivial) ?_
                refine dv (gN rfl) (q_mv (v := .bool false) rfl) rfl (by decide) (cok1 trivial) ?_
                refine dv (gS rfl rfl) (q_mv (v := .bool (decide (32768 ≤ ofN (numsL bb) i))) rfl) rfl (by decide) (cok1 trivial) ?_
                refine dv (gS rfl rfl) (q_mv (v := .int .u64 ((n0 : Nat) : Int)) rfl) rfl (by decide) (cok1 trivial) ?_
                refine dv (gS rfl rfl) (q_int rfl rfl rfl) rfl (by decide) (cok2 trivial (cconst rfl)) ?_
                refine dv (gS rfl rfl) (OpQ.cast (v' := .bool false) (q_boolne Try.underlying4 rfl rfl) (congrArg Value.bool (by rw [hnn]; first | rfl | exact (bne_eq_false_iff_eq.2 (decide_eq_decide.2 (by omega)))))) rfl (by decide) (cok2 trivial trivial) ?_
                refine dv (gN rfl) (q_pf (v := .bool false) rfl rfl) rfl (by decide) (call_ok rfl) ?_
                refine ⟨_, Wk.refl _ _, ?_⟩
                show awp _ _ _ _ _ _ _
                refine awp_cond_f rfl ?_
                refine awp_skip_wk ?_
                refine ⟨_, Wk.refl _ _, ?_⟩
                show awp _ _ _ _ _ _ _
                refine awp_seq ?_
                refine awp_regs hF ?_
                refine dv (gN rfl) (q_mv (v := .int .u64 ((n0 : Nat) : Int)) rfl) rfl (by decide) (cok1 trivial) ?_
                refine dv (gN rfl) (q_remM (a := n0) (b := 32768) rfl rfl (by first | decide | omega)) rfl (by decide) (cok2 trivial (cconst rfl)) ?_
                refine dv (gN rfl) (q_convin (a := ((n0 % 32768 : Nat) : Int)) Try.underlying28 Try.underlying3 rfl (i64_in (by omega))) rfl (by decide) (cok1 trivial) ?_
                refine dv (gN rfl) (q_as (v := .int .i64 ((n0 % 32768 : Nat) : Int)) rfl) rfl (by decide) (cok1 trivial) ?_
                refine ⟨_, Wk.refl _ _, ?_⟩
                show awp _ _ _ _ _ _ _
                refine awp_seq ?_
                refine awp_seq ?_
                refine awp_regs hF ?_
                refine dv (gN rfl) (q_as (v := .int .i64 0) rfl) rfl (by decide) (cok1 (cconst rfl)) ?_
                refine ⟨_, Wk.refl _ _, ?_⟩
                show awp _ _ _ _ _ _ _
                refine awp_block ?_
                refine awp_wk (Wk.U [(9, .pointer (some ⟨b5, 0, none⟩)), (13, .string (ofName (defsN nd k) (needsN nn k2) (ofN (numsL bb) i))), (14, .string (ofFile (defsN nd k) (needsN nn k2) (ofN (numsL bb) i))), (16, .int .i64 ((n0 % 32768 : Nat) : Int)), (17, .int .i64 0)] ⟨rfl, rfl, rfl, rfl, rfl, trivial⟩) ?_
                refine awp_loop (fun (j : Nat) st => ∃ (H57 : AHeap), st = ⟨185, U [(9, .pointer (some ⟨b5, 0, none⟩)), (13, .string (ofName (defsN nd k) (needsN nn k2) (ofN (numsL bb) i))), (14, .string (ofFile (defsN nd k) (needsN nn k2) (ofN (numsL bb) i))), (16, .int .i64 ((n0 % 32768 : Nat) : Int)), (17, .int .i64 ((j : Nat) : Int))], [], H57⟩ ∧ St H0 (none0) (Rd H0) H57 [(b49, .cells true ((numsL bb).map i64v) 1), (bn, .cells true (fl needc (needsN nn k2)) 4), (bd, .cells true (fl defc (defsN nd k)) 2), (b5, .cells true [.slice (some ⟨bd, 0, none⟩) k k, .slice (some ⟨bn, 0, none⟩) k2 k2, .slice (some ⟨b49, 0, none⟩) ((numsL bb).length) ((numsL bb).length)] 3), (b1, .cells true [vD, vN] 2)] ∧ (∀ q, q < j → isD ((n0) % 32768) (nth (defsN nd k) q) = false)) (fun (j : Nat) => (defsN nd k).length - j) (x0 := (0)) ?h0 ?round
                case h0 =>
                  exact ⟨_, rfl, s56, fun q h => absurd h (Nat.not_lt_zero _)⟩
                case round =>
                  rintro j _ ⟨H57, rfl, s58, hj⟩
                  refine awp_seq ?_
                  refine awp_seq ?_
                  refine awp_regs hF ?_
                  refine dv (gN rfl) (q_mv (v := .int .i64 ((j : Nat) : Int)) rfl) rfl (by decide) (cok1 trivial) ?_
                  refine dv (gN rfl) (q_field Try.underlying47 rfl Try.sizeOf26 rfl (s58.rd (j := 3) rfl)) rfl (by decide) (cok1 trivial) ?_
                  refine dv (gN rfl) (q_load (v := .slice (some ⟨bd, 0, none⟩) k k) Try.isAgg26 rfl (s58.rd (j := 3) rfl) rfl) rfl (by decide) (cok1 trivial) ?_
                  refine dv (gN rfl) (q_len_slice Try.underlying26 rfl (s58.rd (j := 2) rfl)) rfl (by decide) (cok1 trivial) ?_
                  refine dvb (gN rfl) (q_int rfl rfl rfl) rfl (by decide) (cok2 trivial trivial) (fun c7 => ?_) (fun c7 => ?_)
                  ·
                    replace c7 := of_decide_eq_true c7
                    refine ⟨_, Wk.refl _ _, ?_⟩
                    show awp _ _ _ _ _ _ _
                    refine awp_cond_t rfl ?_
                    refine awp_skip_wk ?_
                    refine ⟨_, Wk.refl _ _, ?_⟩
                    show awp _ _ _ _ _ _ _
                    refine awp_seq ?_
                    refine awp_block ?_
                    refine awp_seq ?_
                    refine awp_regs hF ?_
                    refine dv (gN rfl) (q_field Try.underlying47 rfl Try.sizeOf26 rfl (s58.rd (j := 3) rfl)) rfl (by decide) (cok1 trivial) ?_
                    refine dv (gN rfl) (q_load (v := .slice (some ⟨bd, 0, none⟩) k k) Try.isAgg26 rfl (s58.rd (j := 3) rfl) rfl) rfl (by decide) (cok1 trivial) ?_
                    refine dv (gN rfl) (q_mv (v := .int .i64 ((j : Nat) : Int)) rfl) rfl (by decide) (cok1 trivial) ?_
                    refine dv (gN rfl) (OpQ.cast (v' := .pointer (some ⟨bd, j * 2, none⟩)) (q_index (u := 0) (i := j) Try.underlying26 Try.sizeOf38 rfl rfl (by omega) (s58.rd (j := 2) rfl)) (by rw [Nat.zero_add])) rfl (by decide) (cok2 trivial trivial) ?_
                    refine dv (gN rfl) (q_field Try.underlying38 rfl Try.sizeOf3 rfl (s58.rd (j := 2) rfl)) rfl (by decide) (cok1 trivial) ?_
                    refine dv (gN rfl) (q_load (v := .int .i64 ((nth (defsN nd k) j).1)) Try.isAgg3 rfl (s58.rd (j := 2) rfl) ((fl_get0 defc_w (by omega) (by decide)).trans rfl)) rfl (by decide) (cok1 trivial) ?_
                    refine dv (gN rfl) (q_mv (v := .int .i64 ((n0 % 32768 : Nat) : Int)) rfl) rfl (by decide) (cok1 trivial) ?_
                    refine dvb (gN rfl) (q_int rfl rfl rfl) rfl (by decide) (cok2 trivial trivial) (fun c8 => ?_) (fun c8 => ?_)
                    ·
                      replace c8 := eq_of_beq c8
                      have hix := ixG_yes (p := isD ((n0) % 32768)) (l := (defsN nd k)) (i := j) (by omega) (beq_iff_eq.2 c8) hj
                      have hnf := name_def (ne := (needsN nn k2)) hix
                      rw [← hnn] at hnf
                      refine ⟨_, Wk.refl _ _, ?_⟩
                      show awp _ _ _ _ _ _ _
                      refine awp_cond_t rfl ?_
                      refine awp_seq ?_
                      refine awp_regs hF ?_
                      refine dv (gN rfl) (q_mv (v := .string (ofName (defsN nd k) (needsN nn k2) (ofN (numsL bb) i))) rfl) rfl (by decide) (cok1 trivial) ?_
                      refine dv (gN rfl) (q_field Try.underlying47 rfl Try.sizeOf26 rfl (s58.rd (j := 3) rfl)) rfl (by decide) (cok1 trivial) ?_
                      refine dv (gN rfl) (q_load (v := .slice (some ⟨bd, 0, none⟩) k k) Try.isAgg26 rfl (s58.rd (j := 3) rfl) rfl) rfl (by decide) (cok1 trivial) ?_
                      refine dv (gN rfl) (q_mv (v := .int .i64 ((j : Nat) : Int)) rfl) rfl (by decide) (cok1 trivial) ?_
                      refine dv (gN rfl) (OpQ.cast (v' := .pointer (some ⟨bd, j * 2, none⟩)) (q_index (u := 0) (i := j) Try.underlying26 Try.sizeOf38 rfl rfl (by omega) (s58.rd (j := 2) rfl)) (by rw [Nat.zero_add])) rfl (by decide) (cok2 trivial trivial) ?_
                      refine dv (gN rfl) (q_field Try.underlying38 rfl Try.sizeOf9 rfl (s58.rd (j := 2) rfl)) rfl (by decide) (cok1 trivial) ?_
                      refine dv (gN rfl) (q_load (v := .string ((nth (defsN nd k) j).2)) Try.isAgg9 rfl (s58.rd (j := 2) rfl) ((fl_get defc_w (by omega) (by decide)).trans rfl)) rfl (by decide) (cok1 trivial) ?_
                      refine dv (gN rfl) (OpQ.cast (v' := .bool true) (q_streq rfl rfl) (congrArg Value.bool (decide_eq_true hnf.1))) rfl (by decide) (cok2 trivial trivial) ?_
                      refine dv (gN rfl) (q_mv (v := .bool true) rfl) rfl (by decide) (cok1 trivial) ?_
                      refine dv (gS rfl rfl) (q_mv (v := .string (ofFile (defsN nd k) (needsN nn k2) (ofN (numsL bb) i))) rfl) rfl (by decide) (cok1 trivial) ?_
                      refine dv (gS rfl rfl) (OpQ.cast (v' := .bool true) (q_streq rfl rfl) (congrArg Value.bool (decide_eq_true hnf.2))) rfl (by decide) (cok2 trivial (cconst rfl)) ?_
                      refine dv (gN rfl) (q_pt (v := .bool true) rfl rfl) rfl (by decide) (call_ok rfl) ?_
                      refine dv (gN rfl) (q_as (v := .bool true) rfl) rfl (by decide) (cok1 trivial) ?_
                      refine ⟨_, Wk.refl _ _, ?_⟩
                      show awp _ _ _ _ _ _ _
                      refine awp_ret_wk ?_
                      refine ⟨_, Wk.refl _ _, ?_⟩
                      repeat (with_reducible first | refine then_ret ?_ | refine blk_ret ?_ | refine then_exit ?_ | refine blk_exit ?_ | refine blk_exit' (by decide) ?_ | refine blk_normal ?_ | refine then_normal ?_ | refine retq_ret ?_ | refine retq_normal ?_ | refine ng_normal ?_ | refine ng_ret ?_ | refine ng_exit ?_)
                      exact ret_none (v := .bool true) rfl s58.kp (.tmp rfl .nil) rfl rfl ⟨rfl, rfl⟩
                    ·
                      replace c8 := ne_of_beq_false c8
                      refine ⟨_, Wk.refl _ _, ?_⟩
                      show awp _ _ _ _ _ _ _
                      refine awp_cond_f rfl ?_
                      refine awp_skip_wk ?_
                      refine ⟨_, Wk.refl _ _, ?_⟩
                      show awp _ _ _ _ _ _ _
                      refine awp_regs hF ?_
                      refine dv (gN rfl) (q_mv (v := .int .i64 ((j : Nat) : Int)) rfl) rfl (by decide) (cok1 trivial) ?_
                      refine dv (gN rfl) (OpQ.cast (v' := .int .i64 ((j + 1 : Nat) : Int)) (q_int rfl rfl rfl) (congrArg _ ((i64_in (by omega)).trans (by first | rfl | omega | (push_cast; rfl))))) rfl (by decide) (cok2 trivial (cconst rfl)) ?_
                      refine dv (gN rfl) (q_as (v := .int .i64 ((j + 1 : Nat) : Int)) rfl) rfl (by decide) (cok1 trivial) ?_
                      refine ⟨_, Wk.U [(9, .pointer (some ⟨b5, 0, none⟩)), (13, .string (ofName (defsN nd k) (needsN nn k2) (ofN (numsL bb) i))), (14, .string (ofFile (defsN nd k) (needsN nn k2) (ofN (numsL bb) i))), (16, .int .i64 ((n0 % 32768 : Nat) : Int)), (17, .int .i64 (((j + 1) : Nat) : Int))] ⟨rfl, rfl, rfl, rfl, rfl, trivial⟩, (j + 1), ⟨_, rfl, s58, lt_succ_cases hj (beq_eq_false_iff_ne.2 (by assumption))⟩, (by omega)⟩
                  ·
                    replace c7 := of_decide_eq_false c7
                    have hixd := ixG_no (p := isD ((n0) % 32768)) (l := (defsN nd k)) (i := j) (by omega) hj
                    refine ⟨_, Wk.refl _ _, ?_⟩
                    show awp _ _ _ _ _ _ _
                    refine awp_cond_f rfl ?_
                    refine awp_exit_wk ?_
                    refine ⟨_, Wk.refl _ _, ?_⟩
                    show awp _ _ _ _ _ _ _
                    refine awp_seq ?_
                    refine awp_seq ?_
                    refine awp_regs hF ?_
                    refine dv (gN rfl) (q_as (v := .int .i64 0) rfl) rfl (by decide) (cok1 (cconst rfl)) ?_
                    refine ⟨_, Wk.refl _ _, ?_⟩
                    show awp _ _ _ _ _ _ _
                    refine awp_block ?_
                    refine awp_wk (Wk.U [(9, .pointer (some ⟨b5, 0, none⟩)), (13, .string (ofName (defsN nd k) (needsN nn k2) (ofN (numsL bb) i))), (14, .string (ofFile (defsN nd k) (needsN nn k2) (ofN (numsL bb) i))), (16, .int .i64 ((n0 % 32768 : Nat) : Int)), (18, .int .i64 0)] ⟨rfl, rfl, rfl, rfl, rfl, trivial⟩) ?_
                    refine awp_loop (fun (j : Nat) st => ∃ (H59 : AHeap), st = ⟨185, U [(9, .pointer (some ⟨b5, 0, none⟩)), (13, .string (ofName (defsN nd k) (needsN nn k2) (ofN (numsL bb) i))), (14, .string (ofFile (defsN nd k) (needsN nn k2) (ofN (numsL bb) i))), (16, .int .i64 ((n0 % 32768 : Nat) : Int)), (18, .int .i64 ((j : Nat) : Int))], [], H59⟩ ∧ St H0 (none0) (Rd H0) H59 [(b49, .cells true ((numsL bb).map i64v) 1), (bn, .cells true (fl needc (needsN nn k2)) 4), (bd, .cells true (fl defc (defsN nd k)) 2), (b5, .cells true [.slice (some ⟨bd, 0, none⟩) k k, .slice (some ⟨bn, 0, none⟩) k2 k2, .slice (some ⟨b49, 0, none⟩) ((numsL bb).length) ((numsL bb).length)] 3), (b1, .cells true [vD, vN] 2)] ∧ (∀ q, q < j → isN ((n0) % 32768) (nth (needsN nn k2) q) = false)) (fun (j : Nat) => (needsN nn k2).length - j) (x0 := (0)) ?h0 ?round
                    case h0 =>
                      exact ⟨_, rfl, s58, fun q h => absurd h (Nat.not_lt_zero _)⟩
                    case round =>
                      rintro j _ ⟨H59, rfl, s60, hj⟩
                      refine awp_seq ?_
                      refine awp_seq ?_
                      refine awp_regs hF ?_
                      refine dv (gN rfl) (q_mv (v := .int .i64 ((j : Nat) : Int)) rfl) rfl (by decide) (cok1 trivial) ?_
                      refine dv (gN rfl) (q_field Try.underlying47 rfl Try.sizeOf45 rfl (s60.rd (j := 3) rfl)) rfl (by decide) (cok1 trivial) ?_
                      refine dv (gN rfl) (q_load (v := .slice (some ⟨bn, 0, none⟩) k2 k2) Try.isAgg45 rfl (s60.rd (j := 3) rfl) rfl) rfl (by decide) (cok1 trivial) ?_
                      refine dv (gN rfl) (q_len_slice Try.underlying45 rfl (s60.rd (j := 1) rfl)) rfl (by decide) (cok1 trivial) ?_
                      refine dvb (gN rfl) (q_int rfl rfl rfl) rfl (by decide) (cok2 trivial trivial) (fun c9 => ?_) (fun c9 => ?_)
                      ·
                        replace c9 := of_decide_eq_true c9
                        refine ⟨_, Wk.refl _ _, ?_⟩
                        show awp _ _ _ _ _ _ _
                        refine awp_cond_t rfl ?_
                        refine awp_skip_wk ?_
                        refine ⟨_, Wk.refl _ _, ?_⟩
                        show awp _ _ _ _ _ _ _
                        refine awp_seq ?_
                        refine awp_block ?_
                        refine awp_seq ?_
                        refine awp_regs hF ?_
                        refine dv (gN rfl) (q_field Try.underlying47 rfl Try.sizeOf45 rfl (s60.rd (j := 3) rfl)) rfl (by decide) (cok1 trivial) ?_
                        refine dv (gN rfl) (q_load (v := .slice (some ⟨bn, 0, none⟩) k2 k2) Try.isAgg45 rfl (s60.rd (j := 3) rfl) rfl) rfl (by decide) (cok1 trivial) ?_
                        refine dv (gN rfl) (q_mv (v := .int .i64 ((j : Nat) : Int)) rfl) rfl (by decide) (cok1 trivial) ?_
                        refine dv (gN rfl) (OpQ.cast (v' := .pointer (some ⟨bn, j * 4, none⟩)) (q_index (u := 0) (i := j) Try.underlying45 Try.sizeOf50 rfl rfl (by omega) (s60.rd (j := 1) rfl)) (by rw [Nat.zero_add])) rfl (by decide) (cok2 trivial trivial) ?_
                        refine dv (gN rfl) (q_field Try.underlying50 rfl Try.sizeOf3 rfl (s60.rd (j := 1) rfl)) rfl (by decide) (cok1 trivial) ?_
                        refine dv (gN rfl) (q_load (v := .int .i64 ((nth (needsN nn k2) j).1)) Try.isAgg3 rfl (s60.rd (j := 1) rfl) ((fl_get0 needc_w (by omega) (by decide)).trans rfl)) rfl (by decide) (cok1 trivial) ?_
                        refine dv (gN rfl) (q_mv (v := .int .i64 ((n0 % 32768 : Nat) : Int)) rfl) rfl (by decide) (cok1 trivial) ?_
                        refine dvb (gN rfl) (q_int rfl rfl rfl) rfl (by decide) (cok2 trivial trivial) (fun c10 => ?_) (fun c10 => ?_)
                        ·
                          replace c10 := eq_of_beq c10
                          have hix := ixG_yes (p := isN ((n0) % 32768)) (l := (needsN nn k2)) (i := j) (by omega) (beq_iff_eq.2 c10) hj
                          have hnf := name_need hixd hix
                          rw [← hnn] at hnf
                          refine ⟨_, Wk.refl _ _, ?_⟩
                          show awp _ _ _ _ _ _ _
                          refine awp_cond_t rfl ?_
                          refine awp_seq ?_
                          refine awp_regs hF ?_
                          refine dv (gN rfl) (q_mv (v := .string (ofName (defsN nd k) (needsN nn k2) (ofN (numsL bb) i))) rfl) rfl (by decide) (cok1 trivial) ?_
                          refine dv (gN rfl) (q_field Try.underlying47 rfl Try.sizeOf45 rfl (s60.rd (j := 3) rfl)) rfl (by decide) (cok1 trivial) ?_
                          refine dv (gN rfl) (q_load (v := .slice (some ⟨bn, 0, none⟩) k2 k2) Try.isAgg45 rfl (s60.rd (j := 3) rfl) rfl) rfl (by decide) (cok1 trivial) ?_
                          refine dv (gN rfl) (q_mv (v := .int .i64 ((j : Nat) : Int)) rfl) rfl (by decide) (cok1 trivial) ?_
                          refine dv (gN rfl) (OpQ.cast (v' := .pointer (some ⟨bn, j * 4, none⟩)) (q_index (u := 0) (i := j) Try.underlying45 Try.sizeOf50 rfl rfl (by omega) (s60.rd (j := 1) rfl)) (by rw [Nat.zero_add])) rfl (by decide) (cok2 trivial trivial) ?_
                          refine dv (gN rfl) (q_field Try.underlying50 rfl Try.sizeOf9 rfl (s60.rd (j := 1) rfl)) rfl (by decide) (cok1 trivial) ?_
                          refine dv (gN rfl) (q_load (v := .string ((nth (needsN nn k2) j).2.2.1)) Try.isAgg9 rfl (s60.rd (j := 1) rfl) ((fl_get needc_w (by omega) (by decide)).trans rfl)) rfl (by decide) (cok1 trivial) ?_
                          refine dv (gN rfl) (OpQ.cast (v' := .bool true) (q_streq rfl rfl) (congrArg Value.bool (decide_eq_true hnf.1))) rfl (by decide) (cok2 trivial trivial) ?_
                          refine dv (gN rfl) (q_mv (v := .bool true) rfl) rfl (by decide) (cok1 trivial) ?_
                          refine dv (gS rfl rfl) (q_mv (v := .string (ofFile (defsN nd k) (needsN nn k2) (ofN (numsL bb) i))) rfl) rfl (by decide) (cok1 trivial) ?_
                          refine dv (gS rfl rfl) (OpQ.cast (v' := .bool true) (q_streq rfl rfl) (congrArg Value.bool (decide_eq_true (hnf.2.trans (needsN_file (by omega)))))) rfl (by decide) (cok2 trivial (cconst rfl)) ?_
                          refine dv (gN rfl) (q_pt (v := .bool true) rfl rfl) rfl (by decide) (call_ok rfl) ?_
                          refine dv (gN rfl) (q_as (v := .bool true) rfl) rfl (by decide) (cok1 trivial) ?_
                          refine ⟨_, Wk.refl _ _, ?_⟩
                          show awp _ _ _ _ _ _ _
                          refine awp_ret_wk ?_
                          refine ⟨_, Wk.refl _ _, ?_⟩
                          repeat (with_reducible first | refine then_ret ?_ | refine blk_ret ?_ | refine then_exit ?_ | refine blk_exit ?_ | refine blk_exit' (by decide) ?_ | refine blk_normal ?_ | refine then_normal ?_ | refine retq_ret ?_ | refine retq_normal ?_ | refine ng_normal ?_ | refine ng_ret ?_ | refine ng_exit ?_)
                          exact ret_none (v := .bool true) rfl s60.kp (.tmp rfl .nil) rfl rfl ⟨rfl, rfl⟩
                        ·
                          replace c10 := ne_of_beq_false c10
                          refine ⟨_, Wk.refl _ _, ?_⟩
                          show awp _ _ _ _ _ _ _
                          refine awp_cond_f rfl ?_
                          refine awp_skip_wk ?_
                          refine ⟨_, Wk.refl _ _, ?_⟩
                          show awp _ _ _ _ _ _ _
                          refine awp_regs hF ?_
                          refine dv (gN rfl) (q_mv (v := .int .i64 ((j : Nat) : Int)) rfl) rfl (by decide) (cok1 trivial) ?_
                          refine dv (gN rfl) (OpQ.cast (v' := .int .i64 ((j + 1 : Nat) : Int)) (q_int rfl rfl rfl) (congrArg _ ((i64_in (by omega)).trans (by first | rfl | omega | (push_cast; rfl))))) rfl (by decide) (cok2 trivial (cconst rfl)) ?_
                          refine dv (gN rfl) (q_as (v := .int .i64 ((j + 1 : Nat) : Int)) rfl) rfl (by decide) (cok1 trivial) ?_
                          refine ⟨_, Wk.U [(9, .pointer (some ⟨b5, 0, none⟩)), (13, .string (ofName (defsN nd k) (needsN nn k2) (ofN (numsL bb) i))), (14, .string (ofFile (defsN nd k) (needsN nn k2) (ofN (numsL bb) i))), (16, .int .i64 ((n0 % 32768 : Nat) : Int)), (18, .int .i64 (((j + 1) : Nat) : Int))] ⟨rfl, rfl, rfl, rfl, rfl, trivial⟩, (j + 1), ⟨_, rfl, s60, lt_succ_cases hj (beq_eq_false_iff_ne.2 (by assumption))⟩, (by omega)⟩
                      ·
                        replace c9 := of_decide_eq_false c9
                        have hix := ixG_no (p := isN ((n0) % 32768)) (l := (needsN nn k2)) (i := j) (by omega) hj
                        have hnf := name_none hixd hix
                        rw [← hnn] at hnf
                        refine ⟨_, Wk.refl _ _, ?_⟩
                        show awp _ _ _ _ _ _ _
                        refine awp_cond_f rfl ?_
                        refine awp_exit_wk ?_
                        refine ⟨_, Wk.refl _ _, ?_⟩
                        show awp _ _ _ _ _ _ _
                        refine awp_seq ?_
                        refine awp_regs hF ?_
                        refine dv (gN rfl) (q_mv (v := .string (ofName (defsN nd k) (needsN nn k2) (ofN (numsL bb) i))) rfl) rfl (by decide) (cok1 trivial) ?_
                        refine dv (gN rfl) (OpQ.cast (v' := .bool true) (q_streq rfl rfl) (congrArg Value.bool (decide_eq_true hnf.1))) rfl (by decide) (cok2 trivial (cconst rfl)) ?_
                        refine dv (gN rfl) (q_mv (v := .bool true) rfl) rfl (by decide) (cok1 trivial) ?_
                        refine dv (gS rfl rfl) (q_mv (v := .string (ofFile (defsN nd k) (needsN nn k2) (ofN (numsL bb) i))) rfl) rfl (by decide) (cok1 trivial) ?_
                        refine dv (gS rfl rfl) (OpQ.cast (v' := .bool true) (q_streq rfl rfl) (congrArg Value.bool (decide_eq_true hnf.2))) rfl (by decide) (cok2 trivial (cconst rfl)) ?_
                        refine dv (gN rfl) (q_pt (v := .bool true) rfl rfl) rfl (by decide) (call_ok rfl) ?_
                        refine dv (gN rfl) (q_as (v := .bool true) rfl) rfl (by decide) (cok1 trivial) ?_
                        refine ⟨_, Wk.refl _ _, ?_⟩
                        show awp _ _ _ _ _ _ _
                        refine awp_ret_wk ?_
                        refine ⟨_, Wk.refl _ _, ?_⟩
                        repeat (with_reducible first | refine then_ret ?_ | refine blk_ret ?_ | refine then_exit ?_ | refine blk_exit ?_ | refine blk_exit' (by decide) ?_ | refine blk_normal ?_ | refine then_normal ?_ | refine retq_ret ?_ | refine retq_normal ?_ | refine ng_normal ?_ | refine ng_ret ?_ | refine ng_exit ?_)
                        exact ret_none (v := .bool true) rfl s60.kp (.tmp rfl .nil) rfl rfl ⟨rfl, rfl⟩
          ·
            replace c3 := of_decide_eq_false c3
            refine dv (gN rfl) (q_mv (v := .bool false) rfl) rfl (by decide) (cok1 trivial) ?_
            refine dno rfl (.inl rfl) rfl (by decide) ?_
            refine dno rfl (.inl rfl) rfl (by decide) ?_
            refine dv (gN rfl) (q_pf (v := .bool false) rfl rfl) rfl (by decide) (call_ok rfl) ?_
            refine ⟨_, Wk.refl _ _, ?_⟩
            show awp _ _ _ _ _ _ _
            refine awp_cond_f rfl ?_
            refine awp_exit_wk ?_
            refine ⟨_, Wk.refl _ _, ?_⟩
            show awp _ _ _ _ _ _ _
            refine awp_seq ?_
            refine awp_regs hF ?_
            refine dv (gN rfl) (q_mv (v := .string b) rfl) rfl (by decide) (cok1 trivial) ?_
            refine dv (gN rfl) (q_mv (v := .string b) rfl) rfl (by decide) (cok1 trivial) ?_
            refine dv (gN rfl) (q_len_str Try.underlying9 rfl) rfl (by decide) (cok1 trivial) ?_
            refine dv (gN rfl) (OpQ.cast (v' := .int .i64 ((min b.size 100 : Nat) : Int)) (q_min rfl rfl) (by congr 1; split <;> omega)) rfl (by decide) (cok2 trivial (cconst rfl)) ?_
            refine dv (gN rfl) (q_substr (i := 0) (j := (min b.size 100)) Try.underlying9 rfl rfl ⟨_, rfl⟩ (by omega) (by omega)) rfl (by decide) (cok2 trivial trivial) ?_
            refine dv (gN rfl) (q_as (v := .string (b.extract 0 (min b.size 100))) rfl) rfl (by decide) (cok1 trivial) ?_
            refine ⟨_, Wk.refl _ _, ?_⟩
            show awp _ _ _ _ _ _ _
            refine awp_seq ?_
            have hbs : (b.extract 0 (min b.size 100)).size ≤ 100 := by rw [ByteArray.size_extract]; omega
            generalize b.extract 0 (min b.size 100) = bb at hbs ⊢
            have hnl := numsL_len bb
            have hdl := defsN_len nd k
            have hel := needsN_len nn k2
            refine awp_regs hF ?_
            refine dv (gN rfl) (q_mv (v := .string bb) rfl) rfl (by decide) (cok1 trivial) ?_
            refine x_new (fun b => .slice (some ⟨b, 0, none⟩) (numsL bb).length (numsL bb).length) s34 (gN rfl) (q_call (Δ := [.cells true ((numsL bb).map i64v) 1]) Try.call15 rfl (by simp [AObj.wr]) (acalls_fresh i64v_sc (numbers_ok bb (by omega)))) rfl (by decide) (cok2 trivial trivial) (fun b61 H62 hb64 s63 => ?_)
            refine dv (gN rfl) (q_field Try.underlying47 rfl Try.sizeOf40 rfl (s63.rd (j := 3) rfl)) rfl (by decide) (cok1 trivial) ?_
            refine x_store1 [] hF s63 (by kernel_rfl) (gN rfl) (j := 3) (v := .slice (some ⟨b61, 0, none⟩) ((numsL bb).length) ((numsL bb).length)) rfl Try.sizeOf40 rfl rfl rfl (lc_slice (s63.live (j := 0) rfl)) (Nat.le_of_ble_eq_true rfl) trivial trivial rfl rfl (F' := [(b61, .cells true ((numsL bb).map i64v) 1), (bn, .cells true (fl needc (needsN nn k2)) 4), (bd, .cells true (fl defc (defsN nd k)) 2), (b5, .cells true [.slice (some ⟨bd, 0, none⟩) k k, .slice (some ⟨bn, 0, none⟩) k2 k2, .slice (some ⟨b61, 0, none⟩) ((numsL bb).length) ((numsL bb).length)] 3), (b1, .cells true [vD, vN] 2)]) rfl (fun H65 s66 => ⟨?_, ?_⟩)
            · exact trivial
            refine ⟨_, Wk.refl _ _, ?_⟩
            show awp _ _ _ _ _ _ _
            refine awp_seq ?_
            refine awp_regs hF ?_
            refine dv (gN rfl) (q_as (v := .int .u64 1) rfl) rfl (by decide) (cok1 (cconst rfl)) ?_
            refine ⟨_, Wk.refl _ _, ?_⟩
            show awp _ _ _ _ _ _ _
            refine awp_join (fun st => ∃ (H67 : AHeap) (n0 : Nat), st = ⟨185, U [(1, .string bb), (2, .int .i64 i), (9, .pointer (some ⟨b5, 0, none⟩)), (12, .int .u64 ((n0 : Nat) : Int))], [], H67⟩ ∧ St H0 (none0) (Rd H0) H67 [(b61, .cells true ((numsL bb).map i64v) 1), (bn, .cells true (fl needc (needsN nn k2)) 4), (bd, .cells true (fl defc (defsN nd k)) 2), (b5, .cells true [.slice (some ⟨bd, 0, none⟩) k k, .slice (some ⟨bn, 0, none⟩) k2 k2, .slice (some ⟨b61, 0, none⟩) ((numsL bb).length) ((numsL bb).length)] 3), (b1, .cells true [vD, vN] 2)] ∧ (ofN (numsL bb) i = n0) ∧ (n0 < 65536)) ?j1 ?j2
            case j1 =>
              refine awp_seq ?_
              refine awp_regs hF ?_
              refine dv (gN rfl) (q_mv (v := .int .i64 i) rfl) rfl (by decide) (cok1 trivial) ?_
              refine dvb (gN rfl) (q_int rfl rfl rfl) rfl (by decide) (cok2 trivial (cconst rfl)) (fun c11 => ?_) (fun c11 => ?_)
              ·
                replace c11 := of_decide_eq_true c11
                obtain ⟨i0, rfl⟩ := Int.eq_ofNat_of_zero_le c11
                refine dv (gN rfl) (q_mv (v := .bool true) rfl) rfl (by decide) (cok1 trivial) ?_
                refine dv (gS rfl rfl) (q_mv (v := .int .i64 ((i0 : Nat) : Int)) rfl) rfl (by decide) (cok1 trivial) ?_
                refine dv (gS rfl rfl) (q_mv (v := .string bb) rfl) rfl (by decide) (cok1 trivial) ?_
                refine dv (gS rfl rfl) (q_len_str Try.underlying9 rfl) rfl (by decide) (cok1 trivial) ?_
                refine dv (gS rfl rfl) (q_quoM (a := bb.size) (b := 2) rfl rfl (by first | decide | omega) (i64_in (by have := div_le_of (a := bb.size) (b := 2) (M := 9223372036854775807) (by omega); omega))) rfl (by decide) (cok2 trivial (cconst rfl)) ?_
                refine dvb (gS rfl rfl) (q_int rfl rfl rfl) rfl (by decide) (cok2 trivial trivial) (fun c12 => ?_) (fun c12 => ?_)
                ·
                  replace c12 := of_decide_eq_true c12
                  refine dv (gN rfl) (q_pt (v := .bool true) rfl rfl) rfl (by decide) (call_ok rfl) ?_
                  refine ⟨_, Wk.refl _ _, ?_⟩
                  show awp _ _ _ _ _ _ _
                  refine awp_cond_t rfl ?_
                  refine awp_regs hF ?_
                  refine dv (gN rfl) (q_mv (v := .string bb) rfl) rfl (by decide) (cok1 trivial) ?_
                  refine dv (gN rfl) (q_mv (v := .int .i64 ((i0 : Nat) : Int)) rfl) rfl (by decide) (cok1 trivial) ?_
                  refine dv (gN rfl) (OpQ.cast (v' := .int .i64 ((2 * i0 : Nat) : Int)) (q_int rfl rfl rfl) (congrArg _ ((i64_in (by omega)).trans (by first | rfl | omega | (push_cast; rfl))))) rfl (by decide) (cok2 (cconst rfl) trivial) ?_
                  refine dv (gN rfl) (q_mv (v := .int .i64 ((i0 : Nat) : Int)) rfl) rfl (by decide) (cok1 trivial) ?_
                  refine dv (gN rfl) (OpQ.cast (v' := .int .i64 ((2 * i0 : Nat) : Int)) (q_int rfl rfl rfl) (congrArg _ ((i64_in (by omega)).trans (by first | rfl | omega | (push_cast; rfl))))) rfl (by decide) (cok2 (cconst rfl) trivial) ?_
                  refine dv (gN rfl) (OpQ.cast (v' := .int .i64 ((2 * i0 + 2 : Nat) : Int)) (q_int rfl rfl rfl) (congrArg _ ((i64_in (by omega)).trans (by first | rfl | omega | (push_cast; rfl))))) rfl (by decide) (cok2 trivial (cconst rfl)) ?_
                  refine dv (gN rfl) (q_substr (i := (2 * i0)) (j := (2 * i0 + 2)) Try.underlying9 rfl ⟨_, rfl⟩ ⟨_, rfl⟩ (by omega) (by omega)) rfl (by decide) (call_ok rfl) ?_
                  refine dv (gN rfl) (q_call0 Try.call16 rfl (rget_ok (bb.extract (2 * i0) (2 * i0 + 2)) (by rw [ByteArray.size_extract]; omega))) rfl (by decide) (cok2 trivial trivial) ?_
                  refine dv (gN rfl) (q_as (v := .int .u64 ((getB (bb.extract (2 * i0) (2 * i0 + 2)) : Nat) : Int)) rfl) rfl (by decide) (cok1 trivial) ?_
                  exact ⟨_, Wk.U [(1, .string bb), (2, .int .i64 ((i0 : Nat) : Int)), (9, .pointer (some ⟨b5, 0, none⟩)), (12, .int .u64 (((getB (bb.extract (2 * i0) (2 * i0 + 2))) : Nat) : Int))] ⟨rfl, rfl, rfl, rfl, trivial⟩, ⟨_, (getB (bb.extract (2 * i0) (2 * i0 + 2))), rfl, s66, get2_eq bb (by omega), get2_lt bb (by omega)⟩⟩
                ·
                  replace c12 := of_decide_eq_false c12
                  refine dv (gN rfl) (q_pt (v := .bool false) rfl rfl) rfl (by decide) (call_ok rfl) ?_
                  refine ⟨_, Wk.refl _ _, ?_⟩
                  show awp _ _ _ _ _ _ _
                  refine awp_cond_f rfl ?_
                  refine awp_skip_wk ?_
                  exact ⟨_, Wk.U [(1, .string bb), (2, .int .i64 ((i0 : Nat) : Int)), (9, .pointer (some ⟨b5, 0, none⟩)), (12, .int .u64 1)] ⟨rfl, rfl, rfl, rfl, trivial⟩, ⟨_, 1, rfl, s66, ofN_out (by omega), by decide⟩⟩
              ·
                replace c11 := of_decide_eq_false c11
                refine dv (gN rfl) (q_mv (v := .bool false) rfl) rfl (by decide) (cok1 trivial) ?_
                refine dno rfl (.inl rfl) rfl (by decide) ?_
                refine dno rfl (.inl rfl) rfl (by decide) ?_
                refine dno rfl (.inl rfl) rfl (by decide) ?_
                refine dno rfl (.inl rfl) rfl (by decide) ?_
                refine dno rfl (.inl rfl) rfl (by decide) ?_
                refine dv (gN rfl) (q_pf (v := .bool false) rfl rfl) rfl (by decide) (call_ok rfl) ?_
                refine ⟨_, Wk.refl _ _, ?_⟩
                show awp _ _ _ _ _ _ _
                refine awp_cond_f rfl ?_
                refine awp_skip_wk ?_
                exact ⟨_, Wk.U [(1, .string bb), (2, .int .i64 i), (9, .pointer (some ⟨b5, 0, none⟩)), (12, .int .u64 1)] ⟨rfl, rfl, rfl, rfl, trivial⟩, ⟨_, 1, rfl, s66, ofN_out (by omega), by decide⟩⟩
            case j2 =>
              rintro _ ⟨H67, n0, rfl, s68, hnn, hn6⟩
              refine awp_seq ?_
              refine awp_regs hF ?_
              refine dv (gN rfl) (q_loadAgg Try.isAgg47 Try.sizeOf47 rfl (s68.rd (j := 3) rfl) (Nat.le_of_ble_eq_true rfl) rfl) rfl (by decide) (cok1 trivial) ?_
              refine dv (gN rfl) (q_mv (v := .int .i64 i) rfl) rfl (by decide) (cok1 trivial) ?_
              refine dv (gN rfl) (q_call0 Try.call17 rfl (of_ok (defsN nd k) (needsN nn k2) (numsL bb) _ _ _ (s68.slsj defc_w (j := 2) rfl (by first | rfl | (simp; done) | omega) (by first | exact Nat.le_refl _ | omega)) (s68.slsj needc_w (j := 1) rfl (by first | rfl | (simp; done) | omega) (by first | exact Nat.le_refl _ | omega)) (s68.slj (j := 0) rfl (by first | rfl | (simp; done) | omega) (by first | exact Nat.le_refl _ | omega)) (by omega) (by omega) (by omega) (nums_lt bb) i)) rfl (by decide) (call_ok rfl) ?_
              refine dv (gN rfl) (q_mv (v := .tuple #[.string (ofName (defsN nd k) (needsN nn k2) (ofN (numsL bb) i)), .string (ofFile (defsN nd k) (needsN nn k2) (ofN (numsL bb) i)), .bool (decide (32768 ≤ ofN (numsL bb) i))]) rfl) rfl (by decide) (cok1 trivial) ?_
              refine dv (gN rfl) (q_extract (v := .string (ofName (defsN nd k) (needsN nn k2) (ofN (numsL bb) i))) rfl rfl) rfl (by decide) (cok1 trivial) ?_
              refine dv (gN rfl) (q_extract (v := .string (ofFile (defsN nd k) (needsN nn k2) (ofN (numsL bb) i))) rfl rfl) rfl (by decide) (cok1 trivial) ?_
              refine dv (gN rfl) (q_extract (v := .bool (decide (32768 ≤ ofN (numsL bb) i))) rfl rfl) rfl (by decide) (cok1 trivial) ?_
              refine dv (gN rfl) (q_as (v := .string (ofName (defsN nd k) (needsN nn k2) (ofN (numsL bb) i))) rfl) rfl (by decide) (cok1 trivial) ?_
              refine dv (gN rfl) (q_as (v := .string (ofFile (defsN nd k) (needsN nn k2) (ofN (numsL bb) i))) rfl) rfl (by decide) (cok1 trivial) ?_
              refine dv (gN rfl) (q_as (v := .bool (decide (32768 ≤ ofN (numsL bb) i))) rfl) rfl (by decide) (cok1 trivial) ?_
              refine ⟨_, Wk.refl _ _, ?_⟩
              show awp _ _ _ _ _ _ _
              refine awp_seq ?_
              refine awp_seq ?_
              refine awp_regs hF ?_
              refine dv (gN rfl) (q_field Try.underlying47 rfl Try.sizeOf40 rfl (s68.rd (j := 3) rfl)) rfl (by decide) (cok1 trivial) ?_
              refine dv (gN rfl) (q_load (v := .slice (some ⟨b61, 0, none⟩) ((numsL bb).length) ((numsL bb).length)) Try.isAgg40 rfl (s68.rd (j := 3) rfl) rfl) rfl (by decide) (cok1 trivial) ?_
              refine dv (gN rfl) (q_len_slice Try.underlying40 rfl (s68.rd (j := 0) rfl)) rfl (by decide) (cok1 trivial) ?_
              refine dv (gN rfl) (q_mv (v := .string bb) rfl) rfl (by decide) (cok1 trivial) ?_
              refine dv (gN rfl) (q_len_str Try.underlying9 rfl) rfl (by decide) (cok1 trivial) ?_
              refine dv (gN rfl) (q_quoM (a := bb.size) (b := 2) rfl rfl (by first | decide | omega) (i64_in (by have := div_le_of (a := bb.size) (b := 2) (M := 9223372036854775807) (by omega); omega))) rfl (by decide) (cok2 trivial (cconst rfl)) ?_
              refine dv (gN rfl) (OpQ.cast (v' := .bool false) (q_int rfl rfl rfl) (congrArg Value.bool (by rw [hnl]; exact bne_self_eq_false _))) rfl (by decide) (cok2 trivial trivial) ?_
              refine dv (gN rfl) (q_mv (v := .bool false) rfl) rfl (by decide) (cok1 trivial) ?_
              refine dv (gS rfl rfl) (q_mv (v := .bool (decide (32768 ≤ ofN (numsL bb) i))) rfl) rfl (by decide) (cok1 trivial) ?_
              refine dv (gS rfl rfl) (q_mv (v := .int .u64 ((n0 : Nat) : Int)) rfl) rfl (by decide) (cok1 trivial) ?_
              refine dv (gS rfl rfl) (q_int rfl rfl rfl) rfl (by decide) (cok2 trivial (cconst rfl)) ?_
              refine dv (gS rfl rfl) (OpQ.cast (v' := .bool false) (q_boolne Try.underlying4 rfl rfl) (congrArg Value.bool (by rw [hnn]; first | rfl | exact (bne_eq_false_iff_eq.2 (decide_eq_decide.2 (by omega)))))) rfl (by decide) (cok2 trivial trivial) ?_
              refine dv (gN rfl) (q_pf (v := .bool false) rfl rfl) rfl (by decide) (call_ok rfl) ?_
              refine ⟨_, Wk.refl _ _, ?_⟩
              show awp _ _ _ _ _ _ _
              refine awp_cond_f rfl ?_
              refine awp_skip_wk ?_
              refine ⟨_, Wk.refl _ _, ?_⟩
              show awp _ _ _ _ _ _ _
              refine awp_seq ?_
              refine awp_regs hF ?_
              refine dv (gN rfl) (q_mv (v := .int .u64 ((n0 : Nat) : Int)) rfl) rfl (by decide) (cok1 trivial) ?_
              refine dv (gN rfl) (q_remM (a := n0) (b := 32768) rfl rfl (by first | decide | omega)) rfl (by decide) (cok2 trivial (cconst rfl)) ?_
              refine dv (gN rfl) (q_convin (a := ((n0 % 32768 : Nat) : Int)) Try.underlying28 Try.underlying3 rfl (i64_in (by omega))) rfl (by decide) (cok1 trivial) ?_
              refine dv (gN rfl) (q_as (v := .int .i64 ((n0 % 32768 : Nat) : Int)) rfl) rfl (by decide) (cok1 trivial) ?_
              refine ⟨_, Wk.refl _ _, ?_⟩
              show awp _ _ _ _ _ _ _
              refine awp_seq ?_
              refine awp_seq ?_
              refine awp_regs hF ?_
              refine dv (gN rfl) (q_as (v := .int .i64 0) rfl) rfl (by decide) (cok1 (cconst rfl)) ?_
              refine ⟨_, Wk.refl _ _, ?_⟩
              show awp _ _ _ _ _ _ _
              refine awp_block ?_
              refine awp_wk (Wk.U [(9, .pointer (some ⟨b5, 0, none⟩)), (13, .string (ofName (defsN nd k) (needsN nn k2) (ofN (numsL bb) i))), (14, .string (ofFile (defsN nd k) (needsN nn k2) (ofN (numsL bb) i))), (16, .int .i64 ((n0 % 32768 : Nat) : Int)), (17, .int .i64 0)] ⟨rfl, rfl, rfl, rfl, rfl, trivial⟩) ?_
              refine awp_loop (fun (j : Nat) st => ∃ (H69 : AHeap), st = ⟨185, U [(9, .pointer (some ⟨b5, 0, none⟩)), (13, .string (ofName (defsN nd k) (needsN nn k2) (ofN (numsL bb) i))), (14, .string (ofFile (defsN nd k) (needsN nn k2) (ofN (numsL bb) i))), (16, .int .i64 ((n0 % 32768 : Nat) : Int)), (17, .int .i64 ((j : Nat) : Int))], [], H69⟩ ∧ St H0 (none0) (Rd H0) H69 [(b61, .cells true ((numsL bb).map i64v) 1), (bn, .cells true (fl needc (needsN nn k2)) 4), (bd, .cells true (fl defc (defsN nd k)) 2), (b5, .cells true [.slice (some ⟨bd, 0, none⟩) k k, .slice (some ⟨bn, 0, none⟩) k2 k2, .slice (some ⟨b61, 0, none⟩) ((numsL bb).length) ((numsL bb).length)] 3), (b1, .cells true [vD, vN] 2)] ∧ (∀ q, q < j → isD ((n0) % 32768) (nth (defsN nd k) q) = false)) (fun (j : Nat) => (defsN nd k).length - j) (x0 := (0)) ?h0 ?round
              case h0 =>
                exact ⟨_, rfl, s68, fun q h => absurd h (Nat.not_lt_zero _)⟩
              case round =>
                rintro j _ ⟨H69, rfl, s70, hj⟩
                refine awp_seq ?_
                refine awp_seq ?_
                refine awp_regs hF ?_
                refine dv (gN rfl) (q_mv (v := .int .i64 ((j : Nat) : Int)) rfl) rfl (by decide) (cok1 trivial) ?_
                refine dv (gN rfl) (q_field Try.underlying47 rfl Try.sizeOf26 rfl (s70.rd (j := 3) rfl)) rfl (by decide) (cok1 trivial) ?_
                refine dv (gN rfl) (q_load (v := .slice (some ⟨bd, 0, none⟩) k k) Try.isAgg26 rfl (s70.rd (j := 3) rfl) rfl) rfl (by decide) (cok1 trivial) ?_
                refine dv (gN rfl) (q_len_slice Try.underlying26 rfl (s70.rd (j := 2) rfl)) rfl (by decide) (cok1 trivial) ?_
                refine dvb (gN rfl) (q_int rfl rfl rfl) rfl (by decide) (cok2 trivial trivial) (fun c13 => ?_) (fun c13 => ?_)
                ·
                  replace c13 := of_decide_eq_true c13
                  refine ⟨_, Wk.refl _ _, ?_⟩
                  show awp _ _ _ _ _ _ _
                  refine awp_cond_t rfl ?_
                  refine awp_skip_wk ?_
                  refine ⟨_, Wk.refl _ _, ?_⟩
                  show awp _ _ _ _ _ _ _
                  refine awp_seq ?_
                  refine awp_block ?_
                  refine awp_seq ?_
                  refine awp_regs hF ?_
                  refine dv (gN rfl) (q_field Try.underlying47 rfl Try.sizeOf26 rfl (s70.rd (j := 3) rfl)) rfl (by decide) (cok1 trivial) ?_
                  refine dv (gN rfl) (q_load (v := .slice (some ⟨bd, 0, none⟩) k k) Try.isAgg26 rfl (s70.rd (j := 3) rfl) rfl) rfl (by decide) (cok1 trivial) ?_
                  refine dv (gN rfl) (q_mv (v := .int .i64 ((j : Nat) : Int)) rfl) rfl (by decide) (cok1 trivial) ?_
                  refine dv (gN rfl) (OpQ.cast (v' := .pointer (some ⟨bd, j * 2, none⟩)) (q_index (u := 0) (i := j) Try.underlying26 Try.sizeOf38 rfl rfl (by omega) (s70.rd (j := 2) rfl)) (by rw [Nat.zero_add])) rfl (by decide) (cok2 trivial trivial) ?_
                  refine dv (gN rfl) (q_field Try.underlying38 rfl Try.sizeOf3 rfl (s70.rd (j := 2) rfl)) rfl (by decide) (cok1 trivial) ?_
                  refine dv (gN rfl) (q_load (v := .int .i64 ((nth (defsN nd k) j).1)) Try.isAgg3 rfl (s70.rd (j := 2) rfl) ((fl_get0 defc_w (by omega) (by decide)).trans rfl)) rfl (by decide) (cok1 trivial) ?_
                  refine dv (gN rfl) (q_mv (v := .int .i64 ((n0 % 32768 : Nat) : Int)) rfl) rfl (by decide) (cok1 trivial) ?_
                  refine dvb (gN rfl) (q_int rfl rfl rfl) rfl (by decide) (cok2 trivial trivial) (fun c14 => ?_) (fun c14 => ?_)
                  ·
                    replace c14 := eq_of_beq c14
                    have hix := ixG_yes (p := isD ((n0) % 32768)) (l := (defsN nd k)) (i := j) (by omega) (beq_iff_eq.2 c14) hj
                    have hnf := name_def (ne := (needsN nn k2)) hix
                    rw [← hnn] at hnf
                    refine ⟨_, Wk.refl _ _, ?_⟩
                    show awp _ _ _ _ _ _ _
                    refine awp_cond_t rfl ?_
                    refine awp_seq ?_
                    refine awp_regs hF ?_
                    refine dv (gN rfl) (q_mv (v := .string (ofName (defsN nd k) (needsN nn k2) (ofN (numsL bb) i))) rfl) rfl (by decide) (cok1 trivial) ?_
                    refine dv (gN rfl) (q_field Try.underlying47 rfl Try.sizeOf26 rfl (s70.rd (j := 3) rfl)) rfl (by decide) (cok1 trivial) ?_
                    refine dv (gN rfl) (q_load (v := .slice (some ⟨bd, 0, none⟩) k k) Try.isAgg26 rfl (s70.rd (j := 3) rfl) rfl) rfl (by decide) (cok1 trivial) ?_
                    refine dv (gN rfl) (q_mv (v := .int .i64 ((j : Nat) : Int)) rfl) rfl (by decide) (cok1 trivial) ?_
                    refine dv (gN rfl) (OpQ.cast (v' := .pointer (some ⟨bd, j * 2, none⟩)) (q_index (u := 0) (i := j) Try.underlying26 Try.sizeOf38 rfl rfl (by omega) (s70.rd (j := 2) rfl)) (by rw [Nat.zero_add])) rfl (by decide) (cok2 trivial trivial) ?_
                    refine dv (gN rfl) (q_field Try.underlying38 rfl Try.sizeOf9 rfl (s70.rd (j := 2) rfl)) rfl (by decide) (cok1 trivial) ?_
                    refine dv (gN rfl) (q_load (v := .string ((nth (defsN nd k) j).2)) Try.isAgg9 rfl (s70.rd (j := 2) rfl) ((fl_get defc_w (by omega) (by decide)).trans rfl)) rfl (by decide) (cok1 trivial) ?_
                    refine dv (gN rfl) (OpQ.cast (v' := .bool true) (q_streq rfl rfl) (congrArg Value.bool (decide_eq_true hnf.1))) rfl (by decide) (cok2 trivial trivial) ?_
                    refine dv (gN rfl) (q_mv (v := .bool true) rfl) rfl (by decide) (cok1 trivial) ?_
                    refine dv (gS rfl rfl) (q_mv (v := .string (ofFile (defsN nd k) (needsN nn k2) (ofN (numsL bb) i))) rfl) rfl (by decide) (cok1 trivial) ?_
                    refine dv (gS rfl rfl) (OpQ.cast (v' := .bool true) (q_streq rfl rfl) (congrArg Value.bool (decide_eq_true hnf.2))) rfl (by decide) (cok2 trivial (cconst rfl)) ?_
                    refine dv (gN rfl) (q_pt (v := .bool true) rfl rfl) rfl (by decide) (call_ok rfl) ?_
                    refine dv (gN rfl) (q_as (v := .bool true) rfl) rfl (by decide) (cok1 trivial) ?_
                    refine ⟨_, Wk.refl _ _, ?_⟩
                    show awp _ _ _ _ _ _ _
                    refine awp_ret_wk ?_
                    refine ⟨_, Wk.refl _ _, ?_⟩
                    repeat (with_reducible first | refine then_ret ?_ | refine blk_ret ?_ | refine then_exit ?_ | refine blk_exit ?_ | refine blk_exit' (by decide) ?_ | refine blk_normal ?_ | refine then_normal ?_ | refine retq_ret ?_ | refine retq_normal ?_ | refine ng_normal ?_ | refine ng_ret ?_ | refine ng_exit ?_)
                    exact ret_none (v := .bool true) rfl s70.kp (.tmp rfl .nil) rfl rfl ⟨rfl, rfl⟩
                  ·
                    replace c14 := ne_of_beq_false c14
                    refine ⟨_, Wk.refl _ _, ?_⟩
                    show awp _ _ _ _ _ _ _
                    refine awp_cond_f rfl ?_
                    refine awp_skip_wk ?_
                    refine ⟨_, Wk.refl _ _, ?_⟩
                    show awp _ _ _ _ _ _ _
                    refine awp_regs hF ?_
                    refine dv (gN rfl) (q_mv (v := .int .i64 ((j : Nat) : Int)) rfl) rfl (by decide) (cok1 trivial) ?_
                    refine dv (gN rfl) (OpQ.cast (v' := .int .i64 ((j + 1 : Nat) : Int)) (q_int rfl rfl rfl) (congrArg _ ((i64_in (by omega)).trans (by first | rfl | omega | (push_cast; rfl))))) rfl (by decide) (cok2 trivial (cconst rfl)) ?_
                    refine dv (gN rfl) (q_as (v := .int .i64 ((j + 1 : Nat) : Int)) rfl) rfl (by decide) (cok1 trivial) ?_
                    refine ⟨_, Wk.U [(9, .pointer (some ⟨b5, 0, none⟩)), (13, .string (ofName (defsN nd k) (needsN nn k2) (ofN (numsL bb) i))), (14, .string (ofFile (defsN nd k) (needsN nn k2) (ofN (numsL bb) i))), (16, .int .i64 ((n0 % 32768 : Nat) : Int)), (17, .int .i64 (((j + 1) : Nat) : Int))] ⟨rfl, rfl, rfl, rfl, rfl, trivial⟩, (j + 1), ⟨_, rfl, s70, lt_succ_cases hj (beq_eq_false_iff_ne.2 (by assumption))⟩, (by omega)⟩
                ·
                  replace c13 := of_decide_eq_false c13
                  have hixd := ixG_no (p := isD ((n0) % 32768)) (l := (defsN nd k)) (i := j) (by omega) hj
                  refine ⟨_, Wk.refl _ _, ?_⟩
                  show awp _ _ _ _ _ _ _
                  refine awp_cond_f rfl ?_
                  refine awp_exit_wk ?_
                  refine ⟨_, Wk.refl _ _, ?_⟩
                  show awp _ _ _ _ _ _ _
                  refine awp_seq ?_
                  refine awp_seq ?_
                  refine awp_regs hF ?_
                  refine dv (gN rfl) (q_as (v := .int .i64 0) rfl) rfl (by decide) (cok1 (cconst rfl)) ?_
                  refine ⟨_, Wk.refl _ _, ?_⟩
                  show awp _ _ _ _ _ _ _
                  refine awp_block ?_
                  refine awp_wk (Wk.U [(9, .pointer (some ⟨b5, 0, none⟩)), (13, .string (ofName (defsN nd k) (needsN nn k2) (ofN (numsL bb) i))), (14, .string (ofFile (defsN nd k) (needsN nn k2) (ofN (numsL bb) i))), (16, .int .i64 ((n0 % 32768 : Nat) : Int)), (18, .int .i64 0)] ⟨rfl, rfl, rfl, rfl, rfl, trivial⟩) ?_
                  refine awp_loop (fun (j : Nat) st => ∃ (H71 : AHeap), st = ⟨185, U [(9, .pointer (some ⟨b5, 0, none⟩)), (13, .string (ofName (defsN nd k) (needsN nn k2) (ofN (numsL bb) i))), (14, .string (ofFile (defsN nd k) (needsN nn k2) (ofN (numsL bb) i))), (16, .int .i64 ((n0 % 32768 : Nat) : Int)), (18, .int .i64 ((j : Nat) : Int))], [], H71⟩ ∧ St H0 (none0) (Rd H0) H71 [(b61, .cells true ((numsL bb).map i64v) 1), (bn, .cells true (fl needc (needsN nn k2)) 4), (bd, .cells true (fl defc (defsN nd k)) 2), (b5, .cells true [.slice (some ⟨bd, 0, none⟩) k k, .slice (some ⟨bn, 0, none⟩) k2 k2, .slice (some ⟨b61, 0, none⟩) ((numsL bb).length) ((numsL bb).length)] 3), (b1, .cells true [vD, vN] 2)] ∧ (∀ q, q < j → isN ((n0) % 32768) (nth (needsN nn k2) q) = false)) (fun (j : Nat) => (needsN nn k2).length - j) (x0 := (0)) ?h0 ?round
                  case h0 =>
                    exact ⟨_, rfl, s70, fun q h => absurd h (Nat.not_lt_zero _)⟩
                  case round =>
                    rintro j _ ⟨H71, rfl, s72, hj⟩
                    refine awp_seq ?_
                    refine awp_seq ?_
                    refine awp_regs hF ?_
                    refine dv (gN rfl) (q_mv (v := .int .i64 ((j : Nat) : Int)) rfl) rfl (by decide) (cok1 trivial) ?_
                    refine dv (gN rfl) (q_field Try.underlying47 rfl Try.sizeOf45 rfl (s72.rd (j := 3) rfl)) rfl (by decide) (cok1 trivial) ?_
                    refine dv (gN rfl) (q_load (v := .slice (some ⟨bn, 0, none⟩) k2 k2) Try.isAgg45 rfl (s72.rd (j := 3) rfl) rfl) rfl (by decide) (cok1 trivial) ?_
                    refine dv (gN rfl) (q_len_slice Try.underlying45 rfl (s72.rd (j := 1) rfl)) rfl (by decide) (cok1 trivial) ?_
                    refine dvb (gN rfl) (q_int rfl rfl rfl) rfl (by decide) (cok2 trivial trivial) (fun c15 => ?_) (fun c15 => ?_)
                    ·
                      replace c15 := of_decide_eq_true c15
                      refine ⟨_, Wk.refl _ _, ?_⟩
                      show awp _ _ _ _ _ _ _
                      refine awp_cond_t rfl ?_
                      refine awp_skip_wk ?_
                      refine ⟨_, Wk.refl _ _, ?_⟩
                      show awp _ _ _ _ _ _ _
                      refine awp_seq ?_
                      refine awp_block ?_
                      refine awp_seq ?_
                      refine awp_regs hF ?_
                      refine dv (gN rfl) (q_field Try.underlying47 rfl Try.sizeOf45 rfl (s72.rd (j := 3) rfl)) rfl (by decide) (cok1 trivial) ?_
                      refine dv (gN rfl) (q_load (v := .slice (some ⟨bn, 0, none⟩) k2 k2) Try.isAgg45 rfl (s72.rd (j := 3) rfl) rfl) rfl (by decide) (cok1 trivial) ?_
                      refine dv (gN rfl) (q_mv (v := .int .i64 ((j : Nat) : Int)) rfl) rfl (by decide) (cok1 trivial) ?_
                      refine dv (gN rfl) (OpQ.cast (v' := .pointer (some ⟨bn, j * 4, none⟩)) (q_index (u := 0) (i := j) Try.underlying45 Try.sizeOf50 rfl rfl (by omega) (s72.rd (j := 1) rfl)) (by rw [Nat.zero_add])) rfl (by decide) (cok2 trivial trivial) ?_
                      refine dv (gN rfl) (q_field Try.underlying50 rfl Try.sizeOf3 rfl (s72.rd (j := 1) rfl)) rfl (by decide) (cok1 trivial) ?_
                      refine dv (gN rfl) (q_load (v := .int .i64 ((nth (needsN nn k2) j).1)) Try.isAgg3 rfl (s72.rd (j := 1) rfl) ((fl_get0 needc_w (by omega) (by decide)).trans rfl)) rfl (by decide) (cok1 trivial) ?_
                      refine dv (gN rfl) (q_mv (v := .int .i64 ((n0 % 32768 : Nat) : Int)) rfl) rfl (by decide) (cok1 trivial) ?_
                      refine dvb (gN rfl) (q_int rfl rfl rfl) rfl (by decide) (cok2 trivial trivial) (fun c16 => ?_) (fun c16 => ?_)
                      ·
                        replace c16 := eq_of_beq c16
                        have hix := ixG_yes (p := isN ((n0) % 32768)) (l := (needsN nn k2)) (i := j) (by omega) (beq_iff_eq.2 c16) hj
                        have hnf := name_need hixd hix
                        rw [← hnn] at hnf
                        refine ⟨_, Wk.refl _ _, ?_⟩
                        show awp _ _ _ _ _ _ _
                        refine awp_cond_t rfl ?_
                        refine awp_seq ?_
                        refine awp_regs hF ?_
                        refine dv (gN rfl) (q_mv (v := .string (ofName (defsN nd k) (needsN nn k2) (ofN (numsL bb) i))) rfl) rfl (by decide) (cok1 trivial) ?_
                        refine dv (gN rfl) (q_field Try.underlying47 rfl Try.sizeOf45 rfl (s72.rd (j := 3) rfl)) rfl (by decide) (cok1 trivial) ?_
                        refine dv (gN rfl) (q_load (v := .slice (some ⟨bn, 0, none⟩) k2 k2) Try.isAgg45 rfl (s72.rd (j := 3) rfl) rfl) rfl (by decide) (cok1 trivial) ?_
                        refine dv (gN rfl) (q_mv (v := .int .i64 ((j : Nat) : Int)) rfl) rfl (by decide) (cok1 trivial) ?_
                        refine dv (gN rfl) (OpQ.cast (v' := .pointer (some ⟨bn, j * 4, none⟩)) (q_index (u := 0) (i := j) Try.underlying45 Try.sizeOf50 rfl rfl (by omega) (s72.rd (j := 1) rfl)) (by rw [Nat.zero_add])) rfl (by decide) (cok2 trivial trivial) ?_
                        refine dv (gN rfl) (q_field Try.underlying50 rfl Try.sizeOf9 rfl (s72.rd (j := 1) rfl)) rfl (by decide) (cok1 trivial) ?_
                        refine dv (gN rfl) (q_load (v := .string ((nth (needsN nn k2) j).2.2.1)) Try.isAgg9 rfl (s72.rd (j := 1) rfl) ((fl_get needc_w (by omega) (by decide)).trans rfl)) rfl (by decide) (cok1 trivial) ?_
                        refine dv (gN rfl) (OpQ.cast (v' := .bool true) (q_streq rfl rfl) (congrArg Value.bool (decide_eq_true hnf.1))) rfl (by decide) (cok2 trivial trivial) ?_
                        refine dv (gN rfl) (q_mv (v := .bool true) rfl) rfl (by decide) (cok1 trivial) ?_
                        refine dv (gS rfl rfl) (q_mv (v := .string (ofFile (defsN nd k) (needsN nn k2) (ofN (numsL bb) i))) rfl) rfl (by decide) (cok1 trivial) ?_
                        refine dv (gS rfl rfl) (OpQ.cast (v' := .bool true) (q_streq rfl rfl) (congrArg Value.bool (decide_eq_true (hnf.2.trans (needsN_file (by omega)))))) rfl (by decide) (cok2 trivial (cconst rfl)) ?_
                        refine dv (gN rfl) (q_pt (v := .bool true) rfl rfl) rfl (by decide) (call_ok rfl) ?_
                        refine dv (gN rfl) (q_as (v := .bool true) rfl) rfl (by decide) (cok1 trivial) ?_
                        refine ⟨_, Wk.refl _ _, ?_⟩
                        show awp _ _ _ _ _ _ _
                        refine awp_ret_wk ?_
                        refine ⟨_, Wk.refl _ _, ?_⟩
                        repeat (with_reducible first | refine then_ret ?_ | refine blk_ret ?_ | refine then_exit ?_ | refine blk_exit ?_ | refine blk_exit' (by decide) ?_ | refine blk_normal ?_ | refine then_normal ?_ | refine retq_ret ?_ | refine retq_normal ?_ | refine ng_normal ?_ | refine ng_ret ?_ | refine ng_exit ?_)
                        exact ret_none (v := .bool true) rfl s72.kp (.tmp rfl .nil) rfl rfl ⟨rfl, rfl⟩
                      ·
                        replace c16 := ne_of_beq_false c16
                        refine ⟨_, Wk.refl _ _, ?_⟩
                        show awp _ _ _ _ _ _ _
                        refine awp_cond_f rfl ?_
                        refine awp_skip_wk ?_
                        refine ⟨_, Wk.refl _ _, ?_⟩
                        show awp _ _ _ _ _ _ _
                        refine awp_regs hF ?_
                        refine dv (gN rfl) (q_mv (v := .int .i64 ((j : Nat) : Int)) rfl) rfl (by decide) (cok1 trivial) ?_
                        refine dv (gN rfl) (OpQ.cast (v' := .int .i64 ((j + 1 : Nat) : Int)) (q_int rfl rfl rfl) (congrArg _ ((i64_in (by omega)).trans (by first | rfl | omega | (push_cast; rfl))))) rfl (by decide) (cok2 trivial (cconst rfl)) ?_
                        refine dv (gN rfl) (q_as (v := .int .i64 ((j + 1 : Nat) : Int)) rfl) rfl (by decide) (cok1 trivial) ?_
                        refine ⟨_, Wk.U [(9, .pointer (some ⟨b5, 0, none⟩)), (13, .string (ofName (defsN nd k) (needsN nn k2) (ofN (numsL bb) i))), (14, .string (ofFile (defsN nd k) (needsN nn k2) (ofN (numsL bb) i))), (16, .int .i64 ((n0 % 32768 : Nat) : Int)), (18, .int .i64 (((j + 1) : Nat) : Int))] ⟨rfl, rfl, rfl, rfl, rfl, trivial⟩, (j + 1), ⟨_, rfl, s72, lt_succ_cases hj (beq_eq_false_iff_ne.2 (by assumption))⟩, (by omega)⟩
                    ·
                      replace c15 := of_decide_eq_false c15
                      have hix := ixG_no (p := isN ((n0) % 32768)) (l := (needsN nn k2)) (i := j) (by omega) hj
                      have hnf := name_none hixd hix
                      rw [← hnn] at hnf
                      refine ⟨_, Wk.refl _ _, ?_⟩
                      show awp _ _ _ _ _ _ _
                      refine awp_cond_f rfl ?_
                      refine awp_exit_wk ?_
                      refine ⟨_, Wk.refl _ _, ?_⟩
                      show awp _ _ _ _ _ _ _
                      refine awp_seq ?_
                      refine awp_regs hF ?_
                      refine dv (gN rfl) (q_mv (v := .string (ofName (defsN nd k) (needsN nn k2) (ofN (numsL bb) i))) rfl) rfl (by decide) (cok1 trivial) ?_
                      refine dv (gN rfl) (OpQ.cast (v' := .bool true) (q_streq rfl rfl) (congrArg Value.bool (decide_eq_true hnf.1))) rfl (by decide) (cok2 trivial (cconst rfl)) ?_
                      refine dv (gN rfl) (q_mv (v := .bool true) rfl) rfl (by decide) (cok1 trivial) ?_
                      refine dv (gS rfl rfl) (q_mv (v := .string (ofFile (defsN nd k) (needsN nn k2) (ofN (numsL bb) i))) rfl) rfl (by decide) (cok1 trivial) ?_
                      refine dv (gS rfl rfl) (OpQ.cast (v' := .bool true) (q_streq rfl rfl) (congrArg Value.bool (decide_eq_true hnf.2))) rfl (by decide) (cok2 trivial (cconst rfl)) ?_
                      refine dv (gN rfl) (q_pt (v := .bool true) rfl rfl) rfl (by decide) (call_ok rfl) ?_
                      refine dv (gN rfl) (q_as (v := .bool true) rfl) rfl (by decide) (cok1 trivial) ?_
                      refine ⟨_, Wk.refl _ _, ?_⟩
                      show awp _ _ _ _ _ _ _
                      refine awp_ret_wk ?_
                      refine ⟨_, Wk.refl _ _, ?_⟩
                      repeat (with_reducible first | refine then_ret ?_ | refine blk_ret ?_ | refine then_exit ?_ | refine blk_exit ?_ | refine blk_exit' (by decide) ?_ | refine blk_normal ?_ | refine then_normal ?_ | refine retq_ret ?_ | refine retq_normal ?_ | refine ng_normal ?_ | refine ng_ret ?_ | refine ng_exit ?_)
                      exact ret_none (v := .bool true) rfl s72.kp (.tmp rfl .nil) rfl rfl ⟨rfl, rfl⟩
    ·
      replace c1 := of_decide_eq_false c1
      refine dv (gN rfl) (q_mv (v := .bool false) rfl) rfl (by decide) (cok1 trivial) ?_
      refine dno rfl (.inl rfl) rfl (by decide) ?_
      refine dno rfl (.inl rfl) rfl (by decide) ?_
      refine dv (gN rfl) (q_pf (v := .bool false) rfl rfl) rfl (by decide) (call_ok rfl) ?_
      refine ⟨_, Wk.refl _ _, ?_⟩
      show awp _ _ _ _ _ _ _
      refine awp_cond_f rfl ?_
      refine awp_exit_wk ?_
      refine ⟨_, Wk.refl _ _, ?_⟩
      show awp _ _ _ _ _ _ _
      refine awp_seq ?_
      refine awp_seq ?_
      refine awp_regs hF ?_
      refine dv (gN rfl) (q_as (v := .int .i64 0) rfl) rfl (by decide) (cok1 (cconst rfl)) ?_
      refine ⟨_, Wk.refl _ _, ?_⟩
      show awp _ _ _ _ _ _ _
      refine awp_block ?_
      refine awp_nilc s14 (j := 1) (o := 1) (sz' := 4) rfl rfl (fun b73 H74 hb76 s75 => ?_)
      refine awp_wk (Wk.U [(1, .string b), (2, .int .i64 i), (8, vN), (9, .pointer (some ⟨b5, 0, none⟩)), (11, .int .i64 0)] ⟨rfl, rfl, rfl, rfl, rfl, trivial⟩) ?_
      refine awp_loop (fun (k2 : Nat) st => ∃ (H77 : AHeap) (bn : Nat), st = ⟨185, U [(1, .string b), (2, .int .i64 i), (8, vN), (9, .pointer (some ⟨b5, 0, none⟩)), (11, .int .i64 ((k2 : Nat) : Int))], [], H77⟩ ∧ St H0 (none0) (Rd H0) H77 [(bn, .cells true (fl needc (needsN nn k2)) 4), (bd, .cells true (fl defc (defsN nd k)) 2), (b5, .cells true [.slice (some ⟨bd, 0, none⟩) k k, .slice (some ⟨bn, 0, none⟩) k2 k2, .slice none 0 0] 3), (b1, .cells true [vD, vN] 2)] ∧ (k2 ≤ nn.length ∧ k2 ≤ 20)) (fun (k2 : Nat) => 20 - k2) (x0 := (0)) ?h0 ?round
      case h0 =>
        exact ⟨_, _, rfl, s75, ⟨Nat.zero_le _, Nat.zero_le _⟩⟩
      case round =>
        rintro k2 _ ⟨H77, bn, rfl, s78, hk2⟩
        refine awp_seq ?_
        refine awp_seq ?_
        refine awp_regs hF ?_
        refine dv (gN rfl) (q_mv (v := .int .i64 ((k2 : Nat) : Int)) rfl) rfl (by decide) (cok1 trivial) ?_
        refine dv (gN rfl) (q_mv (v := vN) rfl) rfl (by decide) (cok1 trivial) ?_
        refine dv (gN rfl) (q_len_sl (l := nn) Try.underlying40 (s78.sl hN) rfl) rfl (by decide) (cok1 trivial) ?_
        refine dvb (gN rfl) (q_int rfl rfl rfl) rfl (by decide) (cok2 trivial trivial) (fun c17 => ?_) (fun c17 => ?_)
        ·
          replace c17 := of_decide_eq_true c17
          refine dv (gN rfl) (q_mv (v := .bool true) rfl) rfl (by decide) (cok1 trivial) ?_
          refine dv (gS rfl rfl) (q_mv (v := .int .i64 ((k2 : Nat) : Int)) rfl) rfl (by decide) (cok1 trivial) ?_
          refine dvb (gS rfl rfl) (q_int rfl rfl rfl) rfl (by decide) (cok2 trivial (cconst rfl)) (fun c18 => ?_) (fun c18 => ?_)
          ·
            replace c18 := of_decide_eq_true c18
            refine dv (gN rfl) (q_pt (v := .bool true) rfl rfl) rfl (by decide) (call_ok rfl) ?_
            refine ⟨_, Wk.refl _ _, ?_⟩
            show awp _ _ _ _ _ _ _
            refine awp_cond_t rfl ?_
            refine awp_skip_wk ?_
            refine ⟨_, Wk.refl _ _, ?_⟩
            show awp _ _ _ _ _ _ _
            refine awp_seq ?_
            refine awp_block ?_
            refine awp_regt hF hM (by kernel_rfl) (by kernel_rfl) ?_
            refine dv (gN rfl) (q_field Try.underlying47 rfl Try.sizeOf45 rfl (s78.rd (j := 2) rfl)) rfl (by decide) (cok1 trivial) ?_
            refine dv (gN rfl) (q_load (v := .slice (some ⟨bn, 0, none⟩) k2 k2) Try.isAgg45 rfl (s78.rd (j := 2) rfl) rfl) rfl (by decide) (cok1 trivial) ?_
            refine dv (gN rfl) (q_mv (v := vN) rfl) rfl (by decide) (cok1 trivial) ?_
            refine dv (gN rfl) (q_mv (v := .int .i64 ((k2 : Nat) : Int)) rfl) rfl (by decide) (cok1 trivial) ?_
            refine dv (gN rfl) (q_index_sl (l := nn) (i := k2) Try.underlying40 Try.sizeOf3 (s78.sl hN) rfl rfl (by omega)) rfl (by decide) (cok2 trivial trivial) ?_
            refine dv (gN rfl) (q_load_sl (l := nn) (i := k2) Try.isAgg3 (s78.sl hN) rfl (by omega)) rfl (by decide) (cok1 trivial) ?_
            refine dv (gN rfl) (q_mv (v := .int .i64 ((k2 : Nat) : Int)) rfl) rfl (by decide) (cok1 trivial) ?_
            refine dv (gN rfl) (OpQ.cast (v' := .int .i64 ((97 + k2 : Nat) : Int)) (q_int rfl rfl rfl) (congrArg _ ((i64_in (by omega)).trans (by first | rfl | omega | (push_cast; rfl))))) rfl (by decide) (cok2 (cconst rfl) trivial) ?_
            refine dv (gN rfl) (OpQ.cast (v' := .int .u8 (((97 + k2) % 256 : Nat) : Int)) (q_conv Try.underlying3 Try.underlying5 rfl) (congrArg _ (wrapU8 (97 + k2)))) rfl (by decide) (cok1 trivial) ?_
            refine x_new (fun b => .slice (some ⟨b, 0, none⟩) 1 1) s78 (gN rfl) (q_buildSliceL (ds := [.int .u8 (((97 + k2) % 256 : Nat) : Int)]) [.int .u8 (((97 + k2) % 256 : Nat) : Int)] rfl Try.underlying48 Try.sizeOf5 Try.zeroValue5 rfl (by decide) (by decide) ⟨rfl, trivial⟩ (lvsC (by exact trivial) lvs0) rfl rfl) rfl (by decide) (cok1 trivial) (fun b79 H80 hb82 s81 => ?_)
            refine dv (gN rfl) (q_bytesl (l := [UInt8.ofNat (97 + k2)]) Try.underlying48 Try.underlying9 Try.underlying5 rfl (s81.rd (j := 0) rfl) rfl) rfl (by decide) (cok1 trivial) ?_
            refine dv (gN rfl) (q_cat rfl rfl (Nat.le_of_ble_eq_true rfl)) rfl (by decide) (cok2 (cconst rfl) trivial) ?_
            refine dv (gN rfl) (q_buildL (ds := [.int .i64 (nth nn k2), .string (⟨#[102]⟩ : ByteArray), .string ((⟨#[110]⟩ : ByteArray) ++ (bytesOf [UInt8.ofNat (97 + k2)])), .bool false]) [(0, 1), (1, 1), (2, 1), (3, 1)] [.int .i64 (nth nn k2), .string (⟨#[102]⟩ : ByteArray), .string ((⟨#[110]⟩ : ByteArray) ++ (bytesOf [UInt8.ofNat (97 + k2)]))] Try.underlying50 Try.zeroValue50 (by first | exact flat_agg rfl | exact flat_scalar rfl) (by kernel_rfl) ⟨rfl, rfl, rfl, trivial⟩ (lvsC (by exact trivial) (lvsC (by exact trivial) (lvsC (by exact trivial) lvs0))) rfl) rfl (by decide) (call_ok rfl) ?_
            refine x_new (fun b => .slice (some ⟨b, 0, none⟩) 1 1) s81 (gN rfl) (q_buildSliceL (ds := [.int .i64 (nth nn k2), .string (⟨#[102]⟩ : ByteArray), .string ((⟨#[110]⟩ : ByteArray) ++ (bytesOf [UInt8.ofNat (97 + k2)])), .bool false]) [.agg #[.int .i64 (nth nn k2), .string (⟨#[102]⟩ : ByteArray), .string ((⟨#[110]⟩ : ByteArray) ++ (bytesOf [UInt8.ofNat (97 + k2)])), .bool false]] rfl Try.underlying45 Try.sizeOf50 Try.zeroValue50 rfl (by decide) (by decide) ⟨rfl, trivial⟩ (lvsC (by exact trivial) lvs0) rfl rfl) rfl (by decide) (cok1 trivial) (fun b83 H84 hb86 s85 => ?_)
            refine x_appendS (m := 4) (l := [(nth nn k2, (⟨#[102]⟩ : ByteArray), (⟨#[110]⟩ : ByteArray) ++ (bytesOf [UInt8.ofNat (97 + k2)]), false)]) (l0 := needsN nn k2) (l' := needsN nn (k2 + 1)) (f := needc) [] hF s85 (by kernel_rfl) (j := 2) (k2 + 1) rfl (gN rfl) Try.underlying45 Try.underlying45 Try.type50 rfl rfl (by decide) rfl needc_w rfl rfl rfl (s85.slsj (l := [(nth nn k2, (⟨#[102]⟩ : ByteArray), (⟨#[110]⟩ : ByteArray) ++ (bytesOf [UInt8.ofNat (97 + k2)]), false)]) needc_w (j := 0) rfl rfl (Nat.le_refl _)) (fun x _ u hu => lc_scalar (needc_sc x u hu)) (needsN_len nn k2).symm (by show (2 * _ + 1000) * 48 ≤ _; first | omega | (simp only [List.length_append, List.length_cons, List.length_nil, List.length_take, List.length_drop]; omega)) trivial trivial (by decide) rfl rfl (needsN_succ nn k2) (fun b87 H88 hb90 s89 => ⟨?_, ?_⟩)
            · exact trivial
            refine dv (gN rfl) (q_field Try.underlying47 rfl Try.sizeOf45 rfl (s89.rd (j := 4) rfl)) rfl (by decide) (cok1 trivial) ?_
            refine x_store1 [] hF s89 (by kernel_rfl) (gN rfl) (j := 4) (v := .slice (some ⟨b87, 0, none⟩) (k2 + 1) (k2 + 1)) rfl Try.sizeOf45 rfl rfl rfl (lc_slice (s89.live (j := 2) rfl)) (Nat.le_of_ble_eq_true rfl) trivial trivial rfl rfl (F' := [(b83, .cells true [.int .i64 (nth nn k2), .string (⟨#[102]⟩ : ByteArray), .string ((⟨#[110]⟩ : ByteArray) ++ (bytesOf [UInt8.ofNat (97 + k2)])), .bool false] 4), (b79, .cells true (([UInt8.ofNat (97 + k2)]).map bytv) 1), (b87, .cells true (fl needc (needsN nn (k2 + 1))) 4), (bd, .cells true (fl defc (defsN nd k)) 2), (b5, .cells true [.slice (some ⟨bd, 0, none⟩) k k, .slice (some ⟨b87, 0, none⟩) (k2 + 1) (k2 + 1), .slice none 0 0] 3), (b1, .cells true [vD, vN] 2)]) rfl (fun H91 s92 => ⟨?_, ?_⟩)
            · exact trivial
            refine ⟨_, Wk.refl _ _, ?_⟩
            show awp _ _ _ _ _ _ _
            refine awp_regs hF ?_
            refine dv (gN rfl) (q_mv (v := .int .i64 ((k2 : Nat) : Int)) rfl) rfl (by decide) (cok1 trivial) ?_
            refine dv (gN rfl) (OpQ.cast (v' := .int .i64 ((k2 + 1 : Nat) : Int)) (q_int rfl rfl rfl) (congrArg _ ((i64_in (by omega)).trans (by first | rfl | omega | (push_cast; rfl))))) rfl (by decide) (cok2 trivial (cconst rfl)) ?_
            refine dv (gN rfl) (q_as (v := .int .i64 ((k2 + 1 : Nat) : Int)) rfl) rfl (by decide) (cok1 trivial) ?_
            refine ⟨_, Wk.U [(1, .string b), (2, .int .i64 i), (8, vN), (9, .pointer (some ⟨b5, 0, none⟩)), (11, .int .i64 (((k2 + 1) : Nat) : Int))] ⟨rfl, rfl, rfl, rfl, rfl, trivial⟩, (k2 + 1), ⟨_, _, rfl, (s92.sub (.cons _ (.cons _ (.cons_cons _ (.cons_cons _ (.cons_cons _ (.cons_cons _ (.refl _)))))))), ⟨by omega, by omega⟩⟩, (by omega)⟩
          ·
            replace c18 := of_decide_eq_false c18
            refine dv (gN rfl) (q_pt (v := .bool false) rfl rfl) rfl (by decide) (call_ok rfl) ?_
            refine ⟨_, Wk.refl _ _, ?_⟩
            show awp _ _ _ _ _ _ _
            refine awp_cond_f rfl ?_
            refine awp_exit_wk ?_
            refine ⟨_, Wk.refl _ _, ?_⟩
            show awp _ _ _ _ _ _ _
            refine awp_seq ?_
            refine awp_regs hF ?_
            refine dv (gN rfl) (q_mv (v := .string b) rfl) rfl (by decide) (cok1 trivial) ?_
            refine dv (gN rfl) (q_mv (v := .string b) rfl) rfl (by decide) (cok1 trivial) ?_
            refine dv (gN rfl) (q_len_str Try.underlying9 rfl) rfl (by decide) (cok1 trivial) ?_
            refine dv (gN rfl) (OpQ.cast (v' := .int .i64 ((min b.size 100 : Nat) : Int)) (q_min rfl rfl) (by congr 1; split <;> omega)) rfl (by decide) (cok2 trivial (cconst rfl)) ?_
            refine dv (gN rfl) (q_substr (i := 0) (j := (min b.size 100)) Try.underlying9 rfl rfl ⟨_, rfl⟩ (by omega) (by omega)) rfl (by decide) (cok2 trivial trivial) ?_
            refine dv (gN rfl) (q_as (v := .string (b.extract 0 (min b.size 100))) rfl) rfl (by decide) (cok1 trivial) ?_
            refine ⟨_, Wk.refl _ _, ?_⟩
            show awp _ _ _ _ _ _ _
            refine awp_seq ?_
            have hbs : (b.extract 0 (min b.size 100)).size ≤ 100 := by rw [ByteArray.size_extract]; omega
            generalize b.extract 0 (min b.size 100) = bb at hbs ⊢
            have hnl := numsL_len bb
            have hdl := defsN_len nd k
            have hel := needsN_len nn k2
            refine awp_regs hF ?_
            refine dv (gN rfl) (q_mv (v := .string bb) rfl) rfl (by decide) (cok1 trivial) ?_
            refine x_new (fun b => .slice (some ⟨b, 0, none⟩) (numsL bb).length (numsL bb).length) s78 (gN rfl) (q_call (Δ := [.cells true ((numsL bb).map i64v) 1]) Try.call15 rfl (by simp [AObj.wr]) (acalls_fresh i64v_sc (numbers_ok bb (by omega)))) rfl (by decide) (cok2 trivial trivial) (fun b93 H94 hb96 s95 => ?_)
            refine dv (gN rfl) (q_field Try.underlying47 rfl Try.sizeOf40 rfl (s95.rd (j := 3) rfl)) rfl (by decide) (cok1 trivial) ?_
            refine x_store1 [] hF s95 (by kernel_rfl) (gN rfl) (j := 3) (v := .slice (some ⟨b93, 0, none⟩) ((numsL bb).length) ((numsL bb).length)) rfl Try.sizeOf40 rfl rfl rfl (lc_slice (s95.live (j := 0) rfl)) (Nat.le_of_ble_eq_true rfl) trivial trivial rfl rfl (F' := [(b93, .cells true ((numsL bb).map i64v) 1), (bn, .cells true (fl needc (needsN nn k2)) 4), (bd, .cells true (fl defc (defsN nd k)) 2), (b5, .cells true [.slice (some ⟨bd, 0, none⟩) k k, .slice (some ⟨bn, 0, none⟩) k2 k2, .slice (some ⟨b93, 0, none⟩) ((numsL bb).length) ((numsL bb).length)] 3), (b1, .cells true [vD, vN] 2)]) rfl (fun H97 s98 => ⟨?_, ?_⟩)
            · exact trivial
            refine ⟨_, Wk.refl _ _, ?_⟩
            show awp _ _ _ _ _ _ _
            refine awp_seq ?_
            refine awp_regs hF ?_
            refine dv (gN rfl) (q_as (v := .int .u64 1) rfl) rfl (by decide) (cok1 (cconst rfl)) ?_
            refine ⟨_, Wk.refl _ _, ?_⟩
            show awp _ _ _ _ _ _ _
            refine awp_join (fun st => ∃ (H99 : AHeap) (n0 : Nat), st = ⟨185, U [(1, .string bb), (2, .int .i64 i), (9, .pointer (some ⟨b5, 0, none⟩)), (12, .int .u64 ((n0 : Nat) : Int))], [], H99⟩ ∧ St H0 (none0) (Rd H0) H99 [(b93, .cells true ((numsL bb).map i64v) 1), (bn, .cells true (fl needc (needsN nn k2)) 4), (bd, .cells true (fl defc (defsN nd k)) 2), (b5, .cells true [.slice (some ⟨bd, 0, none⟩) k k, .slice (some ⟨bn, 0, none⟩) k2 k2, .slice (some ⟨b93, 0, none⟩) ((numsL bb).length) ((numsL bb).length)] 3), (b1, .cells true [vD, vN] 2)] ∧ (ofN (numsL bb) i = n0) ∧ (n0 < 65536)) ?j1 ?j2
            case j1 =>
              refine awp_seq ?_
              refine awp_regs hF ?_
              refine dv (gN rfl) (q_mv (v := .int .i64 i) rfl) rfl (by decide) (cok1 trivial) ?_
              refine dvb (gN rfl) (q_int rfl rfl rfl) rfl (by decide) (cok2 trivial (cconst rfl)) (fun c19 => ?_) (fun c19 => ?_)
              ·
                replace c19 := of_decide_eq_true c19
                obtain ⟨i0, rfl⟩ := Int.eq_ofNat_of_zero_le c19
                refine dv (gN rfl) (q_mv (v := .bool true) rfl) rfl (by decide) (cok1 trivial) ?_
                refine dv (gS rfl rfl) (q_mv (v := .int .i64 ((i0 : Nat) : Int)) rfl) rfl (by decide) (cok1 trivial) ?_
                refine dv (gS rfl rfl) (q_mv (v := .string bb) rfl) rfl (by decide) (cok1 trivial) ?_
                refine dv (gS rfl rfl) (q_len_str Try.underlying9 rfl) rfl (by decide) (cok1 trivial) ?_
                refine dv (gS rfl rfl) (q_quoM (a := bb.size) (b := 2) rfl rfl (by first | decide | omega) (i64_in (by have := div_le_of (a := bb.size) (b := 2) (M := 9223372036854775807) (by omega); omega))) rfl (by decide) (cok2 trivial (cconst rfl)) ?_
                refine dvb (gS rfl rfl) (q_int rfl rfl rfl) rfl (by decide) (cok2 trivial trivial) (fun c20 => ?_) (fun c20 => ?_)
                ·
                  replace c20 := of_decide_eq_true c20
                  refine dv (gN rfl) (q_pt (v := .bool true) rfl rfl) rfl (by decide) (call_ok rfl) ?_
                  refine ⟨_, Wk.refl _ _, ?_⟩
                  show awp _ _ _ _ _ _ _
                  refine awp_cond_t rfl ?_
                  refine awp_regs hF ?_
                  refine dv (gN rfl) (q_mv (v := .string bb) rfl) rfl (by decide) (cok1 trivial) ?_
                  refine dv (gN rfl) (q_mv (v := .int .i64 ((i0 : Nat) : Int)) rfl) rfl (by decide) (cok1 trivial) ?_
                  refine dv (gN rfl) (OpQ.cast (v' := .int .i64 ((2 * i0 : Nat) : Int)) (q_int rfl rfl rfl) (congrArg _ ((i64_in (by omega)).trans (by first | rfl | omega | (push_cast; rfl))))) rfl (by decide) (cok2 (cconst rfl) trivial) ?_
                  refine dv (gN rfl) (q_mv (v := .int .i64 ((i0 : Nat) : Int)) rfl) rfl (by decide) (cok1 trivial) ?_
                  refine dv (gN rfl) (OpQ.cast (v' := .int .i64 ((2 * i0 : Nat) : Int)) (q_int rfl rfl rfl) (congrArg _ ((i64_in (by omega)).trans (by first | rfl | omega | (push_cast; rfl))))) rfl (by decide) (cok2 (cconst rfl) trivial) ?_
                  refine dv (gN rfl) (OpQ.cast (v' := .int .i64 ((2 * i0 + 2 : Nat) : Int)) (q_int rfl rfl rfl) (congrArg _ ((i64_in (by omega)).trans (by first | rfl | omega | (push_cast; rfl))))) rfl (by decide) (cok2 trivial (cconst rfl)) ?_
                  refine dv (gN rfl) (q_substr (i := (2 * i0)) (j := (2 * i0 + 2)) Try.underlying9 rfl ⟨_, rfl⟩ ⟨_, rfl⟩ (by omega) (by omega)) rfl (by decide) (call_ok rfl) ?_
                  refine dv (gN rfl) (q_call0 Try.call16 rfl (rget_ok (bb.extract (2 * i0) (2 * i0 + 2)) (by rw [ByteArray.size_extract]; omega))) rfl (by decide) (cok2 trivial trivial) ?_
                  refine dv (gN rfl) (q_as (v := .int .u64 ((getB (bb.extract (2 * i0) (2 * i0 + 2)) : Nat) : Int)) rfl) rfl (by decide) (cok1 trivial) ?_
                  exact ⟨_, Wk.U [(1, .string bb), (2, .int .i64 ((i0 : Nat) : Int)), (9, .pointer (some ⟨b5, 0, none⟩)), (12, .int .u64 (((getB (bb.extract (2 * i0) (2 * i0 + 2))) : Nat) : Int))] ⟨rfl, rfl, rfl, rfl, trivial⟩, ⟨_, (getB (bb.extract (2 * i0) (2 * i0 + 2))), rfl, s98, get2_eq bb (by omega), get2_lt bb (by omega)⟩⟩
                ·
                  replace c20 := of_decide_eq_false c20
                  refine dv (gN rfl) (q_pt (v := .bool false) rfl rfl) rfl (by decide) (call_ok rfl) ?_
                  refine ⟨_, Wk.refl _ _, ?_⟩
                  show awp _ _ _ _ _ _ _
                  refine awp_cond_f rfl ?_
                  refine awp_skip_wk ?_
                  exact ⟨_, Wk.U [(1, .string bb), (2, .int .i64 ((i0 : Nat) : Int)), (9, .pointer (some ⟨b5, 0, none⟩)), (12, .int .u64 1)] ⟨rfl, rfl, rfl, rfl, trivial⟩, ⟨_, 1, rfl, s98, ofN_out (by omega), by decide⟩⟩
              ·
                replace c19 := of_decide_eq_false c19
                refine dv (gN rfl) (q_mv (v := .bool false) rfl) rfl (by decide) (cok1 trivial) ?_
                refine dno rfl (.inl rfl) rfl (by decide) ?_
                refine dno rfl (.inl rfl) rfl (by decide) ?_
                refine dno rfl (.inl rfl) rfl (by decide) ?_
                refine dno rfl (.inl rfl) rfl (by decide) ?_
                refine dno rfl (.inl rfl) rfl (by decide) ?_
                refine dv (gN rfl) (q_pf (v := .bool false) rfl rfl) rfl (by decide) (call_ok rfl) ?_
                refine ⟨_, Wk.refl _ _, ?_⟩
                show awp _ _ _ _ _ _ _
                refine awp_cond_f rfl ?_
                refine awp_skip_wk ?_
                exact ⟨_, Wk.U [(1, .string bb), (2, .int .i64 i), (9, .pointer (some ⟨b5, 0, none⟩)), (12, .int .u64 1)] ⟨rfl, rfl, rfl, rfl, trivial⟩, ⟨_, 1, rfl, s98, ofN_out (by omega), by decide⟩⟩
            case j2 =>
              rintro _ ⟨H99, n0, rfl, s100, hnn, hn6⟩
              refine awp_seq ?_
              refine awp_regs hF ?_
              refine dv (gN rfl) (q_loadAgg Try.isAgg47 Try.sizeOf47 rfl (s100.rd (j := 3) rfl) (Nat.le_of_ble_eq_true rfl) rfl) rfl (by decide) (cok1 trivial) ?_
              refine dv (gN rfl) (q_mv (v := .int .i64 i) rfl) rfl (by decide) (cok1 trivial) ?_
              refine dv (gN rfl) (q_call0 Try.call17 rfl (of_ok (defsN nd k) (needsN nn k2) (numsL bb) _ _ _ (s100.slsj defc_w (j := 2) rfl (by first | rfl | (simp; done) | omega) (by first | exact Nat.le_refl _ | omega)) (s100.slsj needc_w (j := 1) rfl (by first | rfl | (simp; done) | omega) (by first | exact Nat.le_refl _ | omega)) (s100.slj (j := 0) rfl (by first | rfl | (simp; done) | omega) (by first | exact Nat.le_refl _ | omega)) (by omega) (by omega) (by omega) (nums_lt bb) i)) rfl (by decide) (call_ok rfl) ?_
              refine dv (gN rfl) (q_mv (v := .tuple #[.string (ofName (defsN nd k) (needsN nn k2) (ofN (numsL bb) i)), .string (ofFile (defsN nd k) (needsN nn k2) (ofN (numsL bb) i)), .bool (decide (32768 ≤ ofN (numsL bb) i))]) rfl) rfl (by decide) (cok1 trivial) ?_
              refine dv (gN rfl) (q_extract (v := .string (ofName (defsN nd k) (needsN nn k2) (ofN (numsL bb) i))) rfl rfl) rfl (by decide) (cok1 trivial) ?_
              refine dv (gN rfl) (q_extract (v := .string (ofFile (defsN nd k) (needsN nn k2) (ofN (numsL bb) i))) rfl rfl) rfl (by decide) (cok1 trivial) ?_
              refine dv (gN rfl) (q_extract (v := .bool (decide (32768 ≤ ofN (numsL bb) i))) rfl rfl) rfl (by decide) (cok1 trivial) ?_
              refine dv (gN rfl) (q_as (v := .string (ofName (defsN nd k) (needsN nn k2) (ofN (numsL bb) i))) rfl) rfl (by decide) (cok1 trivial) ?_
              refine dv (gN rfl) (q_as (v := .string (ofFile (defsN nd k) (needsN nn k2) (ofN (numsL bb) i))) rfl) rfl (by decide) (cok1 trivial) ?_
              refine dv (gN rfl) (q_as (v := .bool (decide (32768 ≤ ofN (numsL bb) i))) rfl) rfl (by decide) (cok1 trivial) ?_
              refine ⟨_, Wk.refl _ _, ?_⟩
              show awp _ _ _ _ _ _ _
              refine awp_seq ?_
              refine awp_seq ?_
              refine awp_regs hF ?_
              refine dv (gN rfl) (q_field Try.underlying47 rfl Try.sizeOf40 rfl (s100.rd (j := 3) rfl)) rfl (by decide) (cok1 trivial) ?_
              refine dv (gN rfl) (q_load (v := .slice (some ⟨b93, 0, none⟩) ((numsL bb).length) ((numsL bb).length)) Try.isAgg40 rfl (s100.rd (j := 3) rfl) rfl) rfl (by decide) (cok1 trivial) ?_
              refine dv (gN rfl) (q_len_slice Try.underlying40 rfl (s100.rd (j := 0) rfl)) rfl (by decide) (cok1 trivial) ?_
              refine dv (gN rfl) (q_mv (v := .string bb) rfl) rfl (by decide) (cok1 trivial) ?_
              refine dv (gN rfl) (q_len_str Try.underlying9 rfl) rfl (by decide) (cok1 trivial) ?_
              refine dv (gN rfl) (q_quoM (a := bb.size) (b := 2) rfl rfl (by first | decide | omega) (i64_in (by have := div_le_of (a := bb.size) (b := 2) (M := 9223372036854775807) (by omega); omega))) rfl (by decide) (cok2 trivial (cconst rfl)) ?_
              refine dv (gN rfl) (OpQ.cast (v' := .bool false) (q_int rfl rfl rfl) (congrArg Value.bool (by rw [hnl]; exact bne_self_eq_false _))) rfl (by decide) (cok2 trivial trivial) ?_
              refine dv (gN rfl) (q_mv (v := .bool false) rfl) rfl (by decide) (cok1 trivial) ?_
              refine dv (gS rfl rfl) (q_mv (v := .bool (decide (32768 ≤ ofN (numsL bb) i))) rfl) rfl (by decide) (cok1 trivial) ?_
              refine dv (gS rfl rfl) (q_mv (v := .int .u64 ((n0 : Nat) : Int)) rfl) rfl (by decide) (cok1 trivial) ?_
              refine dv (gS rfl rfl) (q_int rfl rfl rfl) rfl (by decide) (cok2 trivial (cconst rfl)) ?_
              refine dv (gS rfl rfl) (OpQ.cast (v' := .bool false) (q_boolne Try.underlying4 rfl rfl) (congrArg Value.bool (by rw [hnn]; first | rfl | exact (bne_eq_false_iff_eq.2 (decide_eq_decide.2 (by omega)))))) rfl (by decide) (cok2 trivial trivial) ?_
              refine dv (gN rfl) (q_pf (v := .bool false) rfl rfl) rfl (by decide) (call_ok rfl) ?_
              refine ⟨_, Wk.refl _ _, ?_⟩
              show awp _ _ _ _ _ _ _
              refine awp_cond_f rfl ?_
              refine awp_skip_wk ?_
              refine ⟨_, Wk.refl _ _, ?_⟩
              show awp _ _ _ _ _ _ _
              refine awp_seq ?_
              refine awp_regs hF ?_
              refine dv (gN rfl) (q_mv (v := .int .u64 ((n0 : Nat) : Int)) rfl) rfl (by decide) (cok1 trivial) ?_
              refine dv (gN rfl) (q_remM (a := n0) (b := 32768) rfl rfl (by first | decide | omega)) rfl (by decide) (cok2 trivial (cconst rfl)) ?_
              refine dv (gN rfl) (q_convin (a := ((n0 % 32768 : Nat) : Int)) Try.underlying28 Try.underlying3 rfl (i64_in (by omega))) rfl (by decide) (cok1 trivial) ?_
              refine dv (gN rfl) (q_as (v := .int .i64 ((n0 % 32768 : Nat) : Int)) rfl) rfl (by decide) (cok1 trivial) ?_
              refine ⟨_, Wk.refl _ _, ?_⟩
              show awp _ _ _ _ _ _ _
              refine awp_seq ?_
              refine awp_seq ?_
              refine awp_regs hF ?_
              refine dv (gN rfl) (q_as (v := .int .i64 0) rfl) rfl (by decide) (cok1 (cconst rfl)) ?_
              refine ⟨_, Wk.refl _ _, ?_⟩
              show awp _ _ _ _ _ _ _
              refine awp_block ?_
              refine awp_wk (Wk.U [(9, .pointer (some ⟨b5, 0, none⟩)), (13, .string (ofName (defsN nd k) (needsN nn k2) (ofN (numsL bb) i))), (14, .string (ofFile (defsN nd k) (needsN nn k2) (ofN (numsL bb) i))), (16, .int .i64 ((n0 % 32768 : Nat) : Int)), (17, .int .i64 0)] ⟨rfl, rfl, rfl, rfl, rfl, trivial⟩) ?_
              refine awp_loop (fun (j : Nat) st => ∃ (H101 : AHeap), st = ⟨185, U [(9, .pointer (some ⟨b5, 0, none⟩)), (13, .string (ofName (defsN nd k) (needsN nn k2) (ofN (numsL bb) i))), (14, .string (ofFile (defsN nd k) (needsN nn k2) (ofN (numsL bb) i))), (16, .int .i64 ((n0 % 32768 : Nat) : Int)), (17, .int .i64 ((j : Nat) : Int))], [], H101⟩ ∧ St H0 (none0) (Rd H0) H101 [(b93, .cells true ((numsL bb).map i64v) 1), (bn, .cells true (fl needc (needsN nn k2)) 4), (bd, .cells true (fl defc (defsN nd k)) 2), (b5, .cells true [.slice (some ⟨bd, 0, none⟩) k k, .slice (some ⟨bn, 0, none⟩) k2 k2, .slice (some ⟨b93, 0, none⟩) ((numsL bb).length) ((numsL bb).length)] 3), (b1, .cells true [vD, vN] 2)] ∧ (∀ q, q < j → isD ((n0) % 32768) (nth (defsN nd k) q) = false)) (fun (j : Nat) => (defsN nd k).length - j) (x0 := (0)) ?h0 ?round
              case h0 =>
                exact ⟨_, rfl, s100, fun q h => absurd h (Nat.not_lt_zero _)⟩
              case round =>
                rintro j _ ⟨H101, rfl, s102, hj⟩
                refine awp_seq ?_
                refine awp_seq ?_
                refine awp_regs hF ?_
                refine dv (gN rfl) (q_mv (v := .int .i64 ((j : Nat) : Int)) rfl) rfl (by decide) (cok1 trivial) ?_
                refine dv (gN rfl) (q_field Try.underlying47 rfl Try.sizeOf26 rfl (s102.rd (j := 3) rfl)) rfl (by decide) (cok1 trivial) ?_
                refine dv (gN rfl) (q_load (v := .slice (some ⟨bd, 0, none⟩) k k) Try.isAgg26 rfl (s102.rd (j := 3) rfl) rfl) rfl (by decide) (cok1 trivial) ?_
                refine dv (gN rfl) (q_len_slice Try.underlying26 rfl (s102.rd (j := 2) rfl)) rfl (by decide) (cok1 trivial) ?_
                refine dvb (gN rfl) (q_int rfl rfl rfl) rfl (by decide) (cok2 trivial trivial) (fun c21 => ?_) (fun c21 => ?_)
                ·
                  replace c21 := of_decide_eq_true c21
                  refine ⟨_, Wk.refl _ _, ?_⟩
                  show awp _ _ _ _ _ _ _
                  refine awp_cond_t rfl ?_
                  refine awp_skip_wk ?_
                  refine ⟨_, Wk.refl _ _, ?_⟩
                  show awp _ _ _ _ _ _ _
                  refine awp_seq ?_
                  refine awp_block ?_
                  refine awp_seq ?_
                  refine awp_regs hF ?_
                  refine dv (gN rfl) (q_field Try.underlying47 rfl Try.sizeOf26 rfl (s102.rd (j := 3) rfl)) rfl (by decide) (cok1 trivial) ?_
                  refine dv (gN rfl) (q_load (v := .slice (some ⟨bd, 0, none⟩) k k) Try.isAgg26 rfl (s102.rd (j := 3) rfl) rfl) rfl (by decide) (cok1 trivial) ?_
                  refine dv (gN rfl) (q_mv (v := .int .i64 ((j : Nat) : Int)) rfl) rfl (by decide) (cok1 trivial) ?_
                  refine dv (gN rfl) (OpQ.cast (v' := .pointer (some ⟨bd, j * 2, none⟩)) (q_index (u := 0) (i := j) Try.underlying26 Try.sizeOf38 rfl rfl (by omega) (s102.rd (j := 2) rfl)) (by rw [Nat.zero_add])) rfl (by decide) (cok2 trivial trivial) ?_
                  refine dv (gN rfl) (q_field Try.underlying38 rfl Try.sizeOf3 rfl (s102.rd (j := 2) rfl)) rfl (by decide) (cok1 trivial) ?_
                  refine dv (gN rfl) (q_load (v := .int .i64 ((nth (defsN nd k) j).1)) Try.isAgg3 rfl (s102.rd (j := 2) rfl) ((fl_get0 defc_w (by omega) (by decide)).trans rfl)) rfl (by decide) (cok1 trivial) ?_
                  refine dv (gN rfl) (q_mv (v := .int .i64 ((n0 % 32768 : Nat) : Int)) rfl) rfl (by decide) (cok1 trivial) ?_
                  refine dvb (gN rfl) (q_int rfl rfl rfl) rfl (by decide) (cok2 trivial trivial) (fun c22 => ?_) (fun c22 => ?_)
                  ·
                    replace c22 := eq_of_beq c22
                    have hix := ixG_yes (p := isD ((n0) % 32768)) (l := (defsN nd k)) (i := j) (by omega) (beq_iff_eq.2 c22) hj
                    have hnf := name_def (ne := (needsN nn k2)) hix
                    rw [← hnn] at hnf
                    refine ⟨_, Wk.refl _ _, ?_⟩
                    show awp _ _ _ _ _ _ _
                    refine awp_cond_t rfl ?_
                    refine awp_seq ?_
                    refine awp_regs hF ?_
                    refine dv (gN rfl) (q_mv (v := .string (ofName (defsN nd k) (needsN nn k2) (ofN (numsL bb) i))) rfl) rfl (by decide) (cok1 trivial) ?_
                    refine dv (gN rfl) (q_field Try.underlying47 rfl Try.sizeOf26 rfl (s102.rd (j := 3) rfl)) rfl (by decide) (cok1 trivial) ?_
                    refine dv (gN rfl) (q_load (v := .slice (some ⟨bd, 0, none⟩) k k) Try.isAgg26 rfl (s102.rd (j := 3) rfl) rfl) rfl (by decide) (cok1 trivial) ?_
                    refine dv (gN rfl) (q_mv (v := .int .i64 ((j : Nat) : Int)) rfl) rfl (by decide) (cok1 trivial) ?_
                    refine dv (gN rfl) (OpQ.cast (v' := .pointer (some ⟨bd, j * 2, none⟩)) (q_index (u := 0) (i := j) Try.underlying26 Try.sizeOf38 rfl rfl (by omega) (s102.rd (j := 2) rfl)) (by rw [Nat.zero_add])) rfl (by decide) (cok2 trivial trivial) ?_
                    refine dv (gN rfl) (q_field Try.underlying38 rfl Try.sizeOf9 rfl (s102.rd (j := 2) rfl)) rfl (by decide) (cok1 trivial) ?_
                    refine dv (gN rfl) (q_load (v := .string ((nth (defsN nd k) j).2)) Try.isAgg9 rfl (s102.rd (j := 2) rfl) ((fl_get defc_w (by omega) (by decide)).trans rfl)) rfl (by decide) (cok1 trivial) ?_
                    refine dv (gN rfl) (OpQ.cast (v' := .bool true) (q_streq rfl rfl) (congrArg Value.bool (decide_eq_true hnf.1))) rfl (by decide) (cok2 trivial trivial) ?_
                    refine dv (gN rfl) (q_mv (v := .bool true) rfl) rfl (by decide) (cok1 trivial) ?_
                    refine dv (gS rfl rfl) (q_mv (v := .string (ofFile (defsN nd k) (needsN nn k2) (ofN (numsL bb) i))) rfl) rfl (by decide) (cok1 trivial) ?_
                    refine dv (gS rfl rfl) (OpQ.cast (v' := .bool true) (q_streq rfl rfl) (congrArg Value.bool (decide_eq_true hnf.2))) rfl (by decide) (cok2 trivial (cconst rfl)) ?_
                    refine dv (gN rfl) (q_pt (v := .bool true) rfl rfl) rfl (by decide) (call_ok rfl) ?_
                    refine dv (gN rfl) (q_as (v := .bool true) rfl) rfl (by decide) (cok1 trivial) ?_
                    refine ⟨_, Wk.refl _ _, ?_⟩
                    show awp _ _ _ _ _ _ _
                    refine awp_ret_wk ?_
                    refine ⟨_, Wk.refl _ _, ?_⟩
                    repeat (with_reducible first | refine then_ret ?_ | refine blk_ret ?_ | refine then_exit ?_ | refine blk_exit ?_ | refine blk_exit' (by decide) ?_ | refine blk_normal ?_ | refine then_normal ?_ | refine retq_ret ?_ | refine retq_normal ?_ | refine ng_normal ?_ | refine ng_ret ?_ | refine ng_exit ?_)
                    exact ret_none (v := .bool true) rfl s102.kp (.tmp rfl .nil) rfl rfl ⟨rfl, rfl⟩
                  ·
                    replace c22 := ne_of_beq_false c22
                    refine ⟨_, Wk.refl _ _, ?_⟩
                    show awp _ _ _ _ _ _ _
                    refine awp_cond_f rfl ?_
                    refine awp_skip_wk ?_
                    refine ⟨_, Wk.refl _ _, ?_⟩
                    show awp _ _ _ _ _ _ _
                    refine awp_regs hF ?_
                    refine dv (gN rfl) (q_mv (v := .int .i64 ((j : Nat) : Int)) rfl) rfl (by decide) (cok1 trivial) ?_
                    refine dv (gN rfl) (OpQ.cast (v' := .int .i64 ((j + 1 : Nat) : Int)) (q_int rfl rfl rfl) (congrArg _ ((i64_in (by omega)).trans (by first | rfl | omega | (push_cast; rfl))))) rfl (by decide) (cok2 trivial (cconst rfl)) ?_
                    refine dv (gN rfl) (q_as (v := .int .i64 ((j + 1 : Nat) : Int)) rfl) rfl (by decide) (cok1 trivial) ?_
                    refine ⟨_, Wk.U [(9, .pointer (some ⟨b5, 0, none⟩)), (13, .string (ofName (defsN nd k) (needsN nn k2) (ofN (numsL bb) i))), (14, .string (ofFile (defsN nd k) (needsN nn k2) (ofN (numsL bb) i))), (16, .int .i64 ((n0 % 32768 : Nat) : Int)), (17, .int .i64 (((j + 1) : Nat) : Int))] ⟨rfl, rfl, rfl, rfl, rfl, trivial⟩, (j + 1), ⟨_, rfl, s102, lt_succ_cases hj (beq_eq_false_iff_ne.2 (by assumption))⟩, (by omega)⟩
                ·
                  replace c21 := of_decide_eq_false c21
                  have hixd := ixG_no (p := isD ((n0) % 32768)) (l := (defsN nd k)) (i := j) (by omega) hj
                  refine ⟨_, Wk.refl _ _, ?_⟩
                  show awp _ _ _ _ _ _ _
                  refine awp_cond_f rfl ?_
                  refine awp_exit_wk ?_
                  refine ⟨_, Wk.refl _ _, ?_⟩
                  show awp _ _ _ _ _ _ _
                  refine awp_seq ?_
                  refine awp_seq ?_
                  refine awp_regs hF ?_
                  refine dv (gN rfl) (q_as (v := .int .i64 0) rfl) rfl (by decide) (cok1 (cconst rfl)) ?_
                  refine ⟨_, Wk.refl _ _, ?_⟩
                  show awp _ _ _ _ _ _ _
                  refine awp_block ?_
                  refine awp_wk (Wk.U [(9, .pointer (some ⟨b5, 0, none⟩)), (13, .string (ofName (defsN nd k) (needsN nn k2) (ofN (numsL bb) i))), (14, .string (ofFile (defsN nd k) (needsN nn k2) (ofN (numsL bb) i))), (16, .int .i64 ((n0 % 32768 : Nat) : Int)), (18, .int .i64 0)] ⟨rfl, rfl, rfl, rfl, rfl, trivial⟩) ?_
                  refine awp_loop (fun (j : Nat) st => ∃ (H103 : AHeap), st = ⟨185, U [(9, .pointer (some ⟨b5, 0, none⟩)), (13, .string (ofName (defsN nd k) (needsN nn k2) (ofN (numsL bb) i))), (14, .string (ofFile (defsN nd k) (needsN nn k2) (ofN (numsL bb) i))), (16, .int .i64 ((n0 % 32768 : Nat) : Int)), (18, .int .i64 ((j : Nat) : Int))], [], H103⟩ ∧ St H0 (none0) (Rd H0) H103 [(b93, .cells true ((numsL bb).map i64v) 1), (bn, .cells true (fl needc (needsN nn k2)) 4), (bd, .cells true (fl defc (defsN nd k)) 2), (b5, .cells true [.slice (some ⟨bd, 0, none⟩) k k, .slice (some ⟨bn, 0, none⟩) k2 k2, .slice (some ⟨b93, 0, none⟩) ((numsL bb).length) ((numsL bb).length)] 3), (b1, .cells true [vD, vN] 2)] ∧ (∀ q, q < j → isN ((n0) % 32768) (nth (needsN nn k2) q) = false)) (fun (j : Nat) => (needsN nn k2).length - j) (x0 := (0)) ?h0 ?round
                  case h0 =>
                    exact ⟨_, rfl, s102, fun q h => absurd h (Nat.not_lt_zero _)⟩
                  case round =>
                    rintro j _ ⟨H103, rfl, s104, hj⟩
                    refine awp_seq ?_
                    refine awp_seq ?_
                    refine awp_regs hF ?_
                    refine dv (gN rfl) (q_mv (v := .int .i64 ((j : Nat) : Int)) rfl) rfl (by decide) (cok1 trivial) ?_
                    refine dv (gN rfl) (q_field Try.underlying47 rfl Try.sizeOf45 rfl (s104.rd (j := 3) rfl)) rfl (by decide) (cok1 trivial) ?_
                    refine dv (gN rfl) (q_load (v := .slice (some ⟨bn, 0, none⟩) k2 k2) Try.isAgg45 rfl (s104.rd (j := 3) rfl) rfl) rfl (by decide) (cok1 trivial) ?_
                    refine dv (gN rfl) (q_len_slice Try.underlying45 rfl (s104.rd (j := 1) rfl)) rfl (by decide) (cok1 trivial) ?_
                    refine dvb (gN rfl) (q_int rfl rfl rfl) rfl (by decide) (cok2 trivial trivial) (fun c23 => ?_) (fun c23 => ?_)
                    ·
                      replace c23 := of_decide_eq_true c23
                      refine ⟨_, Wk.refl _ _, ?_⟩
                      show awp _ _ _ _ _ _ _
                      refine awp_cond_t rfl ?_
                      refine awp_skip_wk ?_
                      refine ⟨_, Wk.refl _ _, ?_⟩
                      show awp _ _ _ _ _ _ _
                      refine awp_seq ?_
                      refine awp_block ?_
                      refine awp_seq ?_
                      refine awp_regs hF ?_
                      refine dv (gN rfl) (q_field Try.underlying47 rfl Try.sizeOf45 rfl (s104.rd (j := 3) rfl)) rfl (by decide) (cok1 trivial) ?_
                      refine dv (gN rfl) (q_load (v := .slice (some ⟨bn, 0, none⟩) k2 k2) Try.isAgg45 rfl (s104.rd (j := 3) rfl) rfl) rfl (by decide) (cok1 trivial) ?_
                      refine dv (gN rfl) (q_mv (v := .int .i64 ((j : Nat) : Int)) rfl) rfl (by decide) (cok1 trivial) ?_
                      refine dv (gN rfl) (OpQ.cast (v' := .pointer (some ⟨bn, j * 4, none⟩)) (q_index (u := 0) (i := j) Try.underlying45 Try.sizeOf50 rfl rfl (by omega) (s104.rd (j := 1) rfl)) (by rw [Nat.zero_add])) rfl (by decide) (cok2 trivial trivial) ?_
                      refine dv (gN rfl) (q_field Try.underlying50 rfl Try.sizeOf3 rfl (s104.rd (j := 1) rfl)) rfl (by decide) (cok1 trivial) ?_
                      refine dv (gN rfl) (q_load (v := .int .i64 ((nth (needsN nn k2) j).1)) Try.isAgg3 rfl (s104.rd (j := 1) rfl) ((fl_get0 needc_w (by omega) (by decide)).trans rfl)) rfl (by decide) (cok1 trivial) ?_
                      refine dv (gN rfl) (q_mv (v := .int .i64 ((n0 % 32768 : Nat) : Int)) rfl) rfl (by decide) (cok1 trivial) ?_
                      refine dvb (gN rfl) (q_int rfl rfl rfl) rfl (by decide) (cok2 trivial trivial) (fun c24 => ?_) (fun c24 => ?_)
                      ·
                        replace c24 := eq_of_beq c24
                        have hix := ixG_yes (p := isN ((n0) % 32768)) (l := (needsN nn k2)) (i := j) (by omega) (beq_iff_eq.2 c24) hj
                        have hnf := name_need hixd hix
                        rw [← hnn] at hnf
                        refine ⟨_, Wk.refl _ _, ?_⟩
                        show awp _ _ _ _ _ _ _
                        refine awp_cond_t rfl ?_
                        refine awp_seq ?_
                        refine awp_regs hF ?_
                        refine dv (gN rfl) (q_mv (v := .string (ofName (defsN nd k) (needsN nn k2) (ofN (numsL bb) i))) rfl) rfl (by decide) (cok1 trivial) ?_
                        refine dv (gN rfl) (q_field Try.underlying47 rfl Try.sizeOf45 rfl (s104.rd (j := 3) rfl)) rfl (by decide) (cok1 trivial) ?_
                        refine dv (gN rfl) (q_load (v := .slice (some ⟨bn, 0, none⟩) k2 k2) Try.isAgg45 rfl (s104.rd (j := 3) rfl) rfl) rfl (by decide) (cok1 trivial) ?_
                        refine dv (gN rfl) (q_mv (v := .int .i64 ((j : Nat) : Int)) rfl) rfl (by decide) (cok1 trivial) ?_
                        refine dv (gN rfl) (OpQ.cast (v' := .pointer (some ⟨bn, j * 4, none⟩)) (q_index (u := 0) (i := j) Try.underlying45 Try.sizeOf50 rfl rfl (by omega) (s104.rd (j := 1) rfl)) (by rw [Nat.zero_add])) rfl (by decide) (cok2 trivial trivial) ?_
                        refine dv (gN rfl) (q_field Try.underlying50 rfl Try.sizeOf9 rfl (s104.rd (j := 1) rfl)) rfl (by decide) (cok1 trivial) ?_
                        refine dv (gN rfl) (q_load (v := .string ((nth (needsN nn k2) j).2.2.1)) Try.isAgg9 rfl (s104.rd (j := 1) rfl) ((fl_get needc_w (by omega) (by decide)).trans rfl)) rfl (by decide) (cok1 trivial) ?_
                        refine dv (gN rfl) (OpQ.cast (v' := .bool true) (q_streq rfl rfl) (congrArg Value.bool (decide_eq_true hnf.1))) rfl (by decide) (cok2 trivial trivial) ?_
                        refine dv (gN rfl) (q_mv (v := .bool true) rfl) rfl (by decide) (cok1 trivial) ?_
                        refine dv (gS rfl rfl) (q_mv (v := .string (ofFile (defsN nd k) (needsN nn k2) (ofN (numsL bb) i))) rfl) rfl (by decide) (cok1 trivial) ?_
                        refine dv (gS rfl rfl) (OpQ.cast (v' := .bool true) (q_streq rfl rfl) (congrArg Value.bool (decide_eq_true (hnf.2.trans (needsN_file (by omega)))))) rfl (by decide) (cok2 trivial (cconst rfl)) ?_
                        refine dv (gN rfl) (q_pt (v := .bool true) rfl rfl) rfl (by decide) (call_ok rfl) ?_
                        refine dv (gN rfl) (q_as (v := .bool true) rfl) rfl (by decide) (cok1 trivial) ?_
                        refine ⟨_, Wk.refl _ _, ?_⟩
                        show awp _ _ _ _ _ _ _
                        refine awp_ret_wk ?_
                        refine ⟨_, Wk.refl _ _, ?_⟩
                        repeat (with_reducible first | refine then_ret ?_ | refine blk_ret ?_ | refine then_exit ?_ | refine blk_exit ?_ | refine blk_exit' (by decide) ?_ | refine blk_normal ?_ | refine then_normal ?_ | refine retq_ret ?_ | refine retq_normal ?_ | refine ng_normal ?_ | refine ng_ret ?_ | refine ng_exit ?_)
                        exact ret_none (v := .bool true) rfl s104.kp (.tmp rfl .nil) rfl rfl ⟨rfl, rfl⟩
                      ·
                        replace c24 := ne_of_beq_false c24
                        refine ⟨_, Wk.refl _ _, ?_⟩
                        show awp _ _ _ _ _ _ _
                        refine awp_cond_f rfl ?_
                        refine awp_skip_wk ?_
                        refine ⟨_, Wk.refl _ _, ?_⟩
                        show awp _ _ _ _ _ _ _
                        refine awp_regs hF ?_
                        refine dv (gN rfl) (q_mv (v := .int .i64 ((j : Nat) : Int)) rfl) rfl (by decide) (cok1 trivial) ?_
                        refine dv (gN rfl) (OpQ.cast (v' := .int .i64 ((j + 1 : Nat) : Int)) (q_int rfl rfl rfl) (congrArg _ ((i64_in (by omega)).trans (by first | rfl | omega | (push_cast; rfl))))) rfl (by decide) (cok2 trivial (cconst rfl)) ?_
                        refine dv (gN rfl) (q_as (v := .int .i64 ((j + 1 : Nat) : Int)) rfl) rfl (by decide) (cok1 trivial) ?_
                        refine ⟨_, Wk.U [(9, .pointer (some ⟨b5, 0, none⟩)), (13, .string (ofName (defsN nd k) (needsN nn k2) (ofN (numsL bb) i))), (14, .string (ofFile (defsN nd k) (needsN nn k2) (ofN (numsL bb) i))), (16, .int .i64 ((n0 % 32768 : Nat) : Int)), (18, .int .i64 (((j + 1) : Nat) : Int))] ⟨rfl, rfl, rfl, rfl, rfl, trivial⟩, (j + 1), ⟨_, rfl, s104, lt_succ_cases hj (beq_eq_false_iff_ne.2 (by assumption))⟩, (by omega)⟩
                    ·
                      replace c23 := of_decide_eq_false c23
                      have hix := ixG_no (p := isN ((n0) % 32768)) (l := (needsN nn k2)) (i := j) (by omega) hj
                      have hnf := name_none hixd hix
                      rw [← hnn] at hnf
                      refine ⟨_, Wk.refl _ _, ?_⟩
                      show awp _ _ _ _ _ _ _
                      refine awp_cond_f rfl ?_
                      refine awp_exit_wk ?_
                      refine ⟨_, Wk.refl _ _, ?_⟩
                      show awp _ _ _ _ _ _ _
                      refine awp_seq ?_
                      refine awp_regs hF ?_
                      refine dv (gN rfl) (q_mv (v := .string (ofName (defsN nd k) (needsN nn k2) (ofN (numsL bb) i))) rfl) rfl (by decide) (cok1 trivial) ?_
                      refine dv (gN rfl) (OpQ.cast (v' := .bool true) (q_streq rfl rfl) (congrArg Value.bool (decide_eq_true hnf.1))) rfl (by decide) (cok2 trivial (cconst rfl)) ?_
                      refine dv (gN rfl) (q_mv (v := .bool true) rfl) rfl (by decide) (cok1 trivial) ?_
                      refine dv (gS rfl rfl) (q_mv (v := .string (ofFile (defsN nd k) (needsN nn k2) (ofN (numsL bb) i))) rfl) rfl (by decide) (cok1 trivial) ?_
                      refine dv (gS rfl rfl) (OpQ.cast (v' := .bool true) (q_streq rfl rfl) (congrArg Value.bool (decide_eq_true hnf.2))) rfl (by decide) (cok2 trivial (cconst rfl)) ?_
                      refine dv (gN rfl) (q_pt (v := .bool true) rfl rfl) rfl (by decide) (call_ok rfl) ?_
                      refine dv (gN rfl) (q_as (v := .bool true) rfl) rfl (by decide) (cok1 trivial) ?_
                      refine ⟨_, Wk.refl _ _, ?_⟩
                      show awp _ _ _ _ _ _ _
                      refine awp_ret_wk ?_
                      refine ⟨_, Wk.refl _ _, ?_⟩
                      repeat (with_reducible first | refine then_ret ?_ | refine blk_ret ?_ | refine then_exit ?_ | refine blk_exit ?_ | refine blk_exit' (by decide) ?_ | refine blk_normal ?_ | refine then_normal ?_ | refine retq_ret ?_ | refine retq_normal ?_ | refine ng_normal ?_ | refine ng_ret ?_ | refine ng_exit ?_)
                      exact ret_none (v := .bool true) rfl s104.kp (.tmp rfl .nil) rfl rfl ⟨rfl, rfl⟩
        ·
          replace c17 := of_decide_eq_false c17
          refine dv (gN rfl) (q_mv (v := .bool false) rfl) rfl (by decide) (cok1 trivial) ?_
          refine dno rfl (.inl rfl) rfl (by decide) ?_
          refine dno rfl (.inl rfl) rfl (by decide) ?_
          refine dv (gN rfl) (q_pf (v := .bool false) rfl rfl) rfl (by decide) (call_ok rfl) ?_
          refine ⟨_, Wk.refl _ _, ?_⟩
          show awp _ _ _ _ _ _ _
          refine awp_cond_f rfl ?_
          refine awp_exit_wk ?_
          refine ⟨_, Wk.refl _ _, ?_⟩
          show awp _ _ _ _ _ _ _
          refine awp_seq ?_
          refine awp_regs hF ?_
          refine dv (gN rfl) (q_mv (v := .string b) rfl) rfl (by decide) (cok1 trivial) ?_
          refine dv (gN rfl) (q_mv (v := .string b) rfl) rfl (by decide) (cok1 trivial) ?_
          refine dv (gN rfl) (q_len_str Try.underlying9 rfl) rfl (by decide) (cok1 trivial) ?_
          refine dv (gN rfl) (OpQ.cast (v' := .int .i64 ((min b.size 100 : Nat) : Int)) (q_min rfl rfl) (by congr 1; split <;> omega)) rfl (by decide) (cok2 trivial (cconst rfl)) ?_
          refine dv (gN rfl) (q_substr (i := 0) (j := (min b.size 100)) Try.underlying9 rfl rfl ⟨_, rfl⟩ (by omega) (by omega)) rfl (by decide) (cok2 trivial trivial) ?_
          refine dv (gN rfl) (q_as (v := .string (b.extract 0 (min b.size 100))) rfl) rfl (by decide) (cok1 trivial) ?_
          refine ⟨_, Wk.refl _ _, ?_⟩
          show awp _ _ _ _ _ _ _
          refine awp_seq ?_
          have hbs : (b.extract 0 (min b.size 100)).size ≤ 100 := by rw [ByteArray.size_extract]; omega
          generalize b.extract 0 (min b.size 100) = bb at hbs ⊢
          have hnl := numsL_len bb
          have hdl := defsN_len nd k
          have hel := needsN_len nn k2
          refine awp_regs hF ?_
          refine dv (gN rfl) (q_mv (v := .string bb) rfl) rfl (by decide) (cok1 trivial) ?_
          refine x_new (fun b => .slice (some ⟨b, 0, none⟩) (numsL bb).length (numsL bb).length) s78 (gN rfl) (q_call (Δ := [.cells true ((numsL bb).map i64v) 1]) Try.call15 rfl (by simp [AObj.wr]) (acalls_fresh i64v_sc (numbers_ok bb (by omega)))) rfl (by decide) (cok2 trivial trivial) (fun b105 H106 hb108 s107 => ?_)
          refine dv (gN rfl) (q_field Try.underlying47 rfl Try.sizeOf40 rfl (s107.rd (j := 3) rfl)) rfl (by decide) (cok1 trivial) ?_
          refine x_store1 [] hF s107 (by kernel_rfl) (gN rfl) (j := 3) (v := .slice (some ⟨b105, 0, none⟩) ((numsL bb).length) ((numsL bb).length)) rfl Try.sizeOf40 rfl rfl rfl (lc_slice (s107.live (j := 0) rfl)) (Nat.le_of_ble_eq_true rfl) trivial trivial rfl rfl (F' := [(b105, .cells true ((numsL bb).map i64v) 1), (bn, .cells true (fl needc (needsN nn k2)) 4), (bd, .cells true (fl defc (defsN nd k)) 2), (b5, .cells true [.slice (some ⟨bd, 0, none⟩) k k, .slice (some ⟨bn, 0, none⟩) k2 k2, .slice (some ⟨b105, 0, none⟩) ((numsL bb).length) ((numsL bb).length)] 3), (b1, .cells true [vD, vN] 2)]) rfl (fun H109 s110 => ⟨?_, ?_⟩)
          · exact trivial
          refine ⟨_, Wk.refl _ _, ?_⟩
          show awp _ _ _ _ _ _ _
          refine awp_seq ?_
          refine awp_regs hF ?_
          refine dv (gN rfl) (q_as (v := .int .u64 1) rfl) rfl (by decide) (cok1 (cconst rfl)) ?_
          refine ⟨_, Wk.refl _ _, ?_⟩
          show awp _ _ _ _ _ _ _
          refine awp_join (fun st => ∃ (H111 : AHeap) (n0 : Nat), st = ⟨185, U [(1, .string bb), (2, .int .i64 i), (9, .pointer (some ⟨b5, 0, none⟩)), (12, .int .u64 ((n0 : Nat) : Int))], [], H111⟩ ∧ St H0 (none0) (Rd H0) H111 [(b105, .cells true ((numsL bb).map i64v) 1), (bn, .cells true (fl needc (needsN nn k2)) 4), (bd, .cells true (fl defc (defsN nd k)) 2), (b5, .cells true [.slice (some ⟨bd, 0, none⟩) k k, .slice (some ⟨bn, 0, none⟩) k2 k2, .slice (some ⟨b105, 0, none⟩) ((numsL bb).length) ((numsL bb).length)] 3), (b1, .cells true [vD, vN] 2)] ∧ (ofN (numsL bb) i = n0) ∧ (n0 < 65536)) ?j1 ?j2
          case j1 =>
            refine awp_seq ?_
            refine awp_regs hF ?_
            refine dv (gN rfl) (q_mv (v := .int .i64 i) rfl) rfl (by decide) (cok1 trivial) ?_
            refine dvb (gN rfl) (q_int rfl rfl rfl) rfl (by decide) (cok2 trivial (cconst rfl)) (fun c25 => ?_) (fun c25 => ?_)
            ·
              replace c25 := of_decide_eq_true c25
              obtain ⟨i0, rfl⟩ := Int.eq_ofNat_of_zero_le c25
              refine dv (gN rfl) (q_mv (v := .bool true) rfl) rfl (by decide) (cok1 trivial) ?_
              refine dv (gS rfl rfl) (q_mv (v := .int .i64 ((i0 : Nat) : Int)) rfl) rfl (by decide) (cok1 trivial) ?_
              refine dv (gS rfl rfl) (q_mv (v := .string bb) rfl) rfl (by decide) (cok1 trivial) ?_
              refine dv (gS rfl rfl) (q_len_str Try.underlying9 rfl) rfl (by decide) (cok1 trivial) ?_
              refine dv (gS rfl rfl) (q_quoM (a := bb.size) (b := 2) rfl rfl (by first | decide | omega) (i64_in (by have := div_le_of (a := bb.size) (b := 2) (M := 9223372036854775807) (by omega); omega))) rfl (by decide) (cok2 trivial (cconst rfl)) ?_
              refine dvb (gS rfl rfl) (q_int rfl rfl rfl) rfl (by decide) (cok2 trivial trivial) (fun c26 => ?_) (fun c26 => ?_)
              ·
                replace c26 := of_decide_eq_true c26
                refine dv (gN rfl) (q_pt (v := .bool true) rfl rfl) rfl (by decide) (call_ok rfl) ?_
                refine ⟨_, Wk.refl _ _, ?_⟩
                show awp _ _ _ _ _ _ _
                refine awp_cond_t rfl ?_
                refine awp_regs hF ?_
                refine dv (gN rfl) (q_mv (v := .string bb) rfl) rfl (by decide) (cok1 trivial) ?_
                refine dv (gN rfl) (q_mv (v := .int .i64 ((i0 : Nat) : Int)) rfl) rfl (by decide) (cok1 trivial) ?_
                refine dv (gN rfl) (OpQ.cast (v' := .int .i64 ((2 * i0 : Nat) : Int)) (q_int rfl rfl rfl) (congrArg _ ((i64_in (by omega)).trans (by first | rfl | omega | (push_cast; rfl))))) rfl (by decide) (cok2 (cconst rfl) trivial) ?_
                refine dv (gN rfl) (q_mv (v := .int .i64 ((i0 : Nat) : Int)) rfl) rfl (by decide) (cok1 trivial) ?_
                refine dv (gN rfl) (OpQ.cast (v' := .int .i64 ((2 * i0 : Nat) : Int)) (q_int rfl rfl rfl) (congrArg _ ((i64_in (by omega)).trans (by first | rfl | omega | (push_cast; rfl))))) rfl (by decide) (cok2 (cconst rfl) trivial) ?_
                refine dv (gN rfl) (OpQ.cast (v' := .int .i64 ((2 * i0 + 2 : Nat) : Int)) (q_int rfl rfl rfl) (congrArg _ ((i64_in (by omega)).trans (by first | rfl | omega | (push_cast; rfl))))) rfl (by decide) (cok2 trivial (cconst rfl)) ?_
                refine dv (gN rfl) (q_substr (i := (2 * i0)) (j := (2 * i0 + 2)) Try.underlying9 rfl ⟨_, rfl⟩ ⟨_, rfl⟩ (by omega) (by omega)) rfl (by decide) (call_ok rfl) ?_
                refine dv (gN rfl) (q_call0 Try.call16 rfl (rget_ok (bb.extract (2 * i0) (2 * i0 + 2)) (by rw [ByteArray.size_extract]; omega))) rfl (by decide) (cok2 trivial trivial) ?_
                refine dv (gN rfl) (q_as (v := .int .u64 ((getB (bb.extract (2 * i0) (2 * i0 + 2)) : Nat) : Int)) rfl) rfl (by decide) (cok1 trivial) ?_
                exact ⟨_, Wk.U [(1, .string bb), (2, .int .i64 ((i0 : Nat) : Int)), (9, .pointer (some ⟨b5, 0, none⟩)), (12, .int .u64 (((getB (bb.extract (2 * i0) (2 * i0 + 2))) : Nat) : Int))] ⟨rfl, rfl, rfl, rfl, trivial⟩, ⟨_, (getB (bb.extract (2 * i0) (2 * i0 + 2))), rfl, s110, get2_eq bb (by omega), get2_lt bb (by omega)⟩⟩
              ·
                replace c26 := of_decide_eq_false c26
                refine dv (gN rfl) (q_pt (v := .bool false) rfl rfl) rfl (by decide) (call_ok rfl) ?_
                refine ⟨_, Wk.refl _ _, ?_⟩
                show awp _ _ _ _ _ _ _
                refine awp_cond_f rfl ?_
                refine awp_skip_wk ?_
                exact ⟨_, Wk.U [(1, .string bb), (2, .int .i64 ((i0 : Nat) : Int)), (9, .pointer (some ⟨b5, 0, none⟩)), (12, .int .u64 1)] ⟨rfl, rfl, rfl, rfl, trivial⟩, ⟨_, 1, rfl, s110, ofN_out (by omega), by decide⟩⟩
            ·
              replace c25 := of_decide_eq_false c25
              refine dv (gN rfl) (q_mv (v := .bool false) rfl) rfl (by decide) (cok1 trivial) ?_
              refine dno rfl (.inl rfl) rfl (by decide) ?_
              refine dno rfl (.inl rfl) rfl (by decide) ?_
              refine dno rfl (.inl rfl) rfl (by decide) ?_
              refine dno rfl (.inl rfl) rfl (by decide) ?_
              refine dno rfl (.inl rfl) rfl (by decide) ?_
              refine dv (gN rfl) (q_pf (v := .bool false) rfl rfl) rfl (by decide) (call_ok rfl) ?_
              refine ⟨_, Wk.refl _ _, ?_⟩
              show awp _ _ _ _ _ _ _
              refine awp_cond_f rfl ?_
              refine awp_skip_wk ?_
              exact ⟨_, Wk.U [(1, .string bb), (2, .int .i64 i), (9, .pointer (some ⟨b5, 0, none⟩)), (12, .int .u64 1)] ⟨rfl, rfl, rfl, rfl, trivial⟩, ⟨_, 1, rfl, s110, ofN_out (by omega), by decide⟩⟩
          case j2 =>
            rintro _ ⟨H111, n0, rfl, s112, hnn, hn6⟩
            refine awp_seq ?_
            refine awp_regs hF ?_
            refine dv (gN rfl) (q_loadAgg Try.isAgg47 Try.sizeOf47 rfl (s112.rd (j := 3) rfl) (Nat.le_of_ble_eq_true rfl) rfl) rfl (by decide) (cok1 trivial) ?_
            refine dv (gN rfl) (q_mv (v := .int .i64 i) rfl) rfl (by decide) (cok1 trivial) ?_
            refine dv (gN rfl) (q_call0 Try.call17 rfl (of_ok (defsN nd k) (needsN nn k2) (numsL bb) _ _ _ (s112.slsj defc_w (j := 2) rfl (by first | rfl | (simp; done) | omega) (by first | exact Nat.le_refl _ | omega)) (s112.slsj needc_w (j := 1) rfl (by first | rfl | (simp; done) | omega) (by first | exact Nat.le_refl _ | omega)) (s112.slj (j := 0) rfl (by first | rfl | (simp; done) | omega) (by first | exact Nat.le_refl _ | omega)) (by omega) (by omega) (by omega) (nums_lt bb) i)) rfl (by decide) (call_ok rfl) ?_
            refine dv (gN rfl) (q_mv (v := .tuple #[.string (ofName (defsN nd k) (needsN nn k2) (ofN (numsL bb) i)), .string (ofFile (defsN nd k) (needsN nn k2) (ofN (numsL bb) i)), .bool (decide (32768 ≤ ofN (numsL bb) i))]) rfl) rfl (by decide) (cok1 trivial) ?_
            refine dv (gN rfl) (q_extract (v := .string (ofName (defsN nd k) (needsN nn k2) (ofN (numsL bb) i))) rfl rfl) rfl (by decide) (cok1 trivial) ?_
            refine dv (gN rfl) (q_extract (v := .string (ofFile (defsN nd k) (needsN nn k2) (ofN (numsL bb) i))) rfl rfl) rfl (by decide) (cok1 trivial) ?_
            refine dv (gN rfl) (q_extract (v := .bool (decide (32768 ≤ ofN (numsL bb) i))) rfl rfl) rfl (by decide) (cok1 trivial) ?_
            refine dv (gN rfl) (q_as (v := .string (ofName (defsN nd k) (needsN nn k2) (ofN (numsL bb) i))) rfl) rfl (by decide) (cok1 trivial) ?_
            refine dv (gN rfl) (q_as (v := .string (ofFile (defsN nd k) (needsN nn k2) (ofN (numsL bb) i))) rfl) rfl (by decide) (cok1 trivial) ?_
            refine dv (gN rfl) (q_as (v := .bool (decide (32768 ≤ ofN (numsL bb) i))) rfl) rfl (by decide) (cok1 trivial) ?_
            refine ⟨_, Wk.refl _ _, ?_⟩
            show awp _ _ _ _ _ _ _
            refine awp_seq ?_
            refine awp_seq ?_
            refine awp_regs hF ?_
            refine dv (gN rfl) (q_field Try.underlying47 rfl Try.sizeOf40 rfl (s112.rd (j := 3) rfl)) rfl (by decide) (cok1 trivial) ?_
            refine dv (gN rfl) (q_load (v := .slice (some ⟨b105, 0, none⟩) ((numsL bb).length) ((numsL bb).length)) Try.isAgg40 rfl (s112.rd (j := 3) rfl) rfl) rfl (by decide) (cok1 trivial) ?_
            refine dv (gN rfl) (q_len_slice Try.underlying40 rfl (s112.rd (j := 0) rfl)) rfl (by decide) (cok1 trivial) ?_
            refine dv (gN rfl) (q_mv (v := .string bb) rfl) rfl (by decide) (cok1 trivial) ?_
            refine dv (gN rfl) (q_len_str Try.underlying9 rfl) rfl (by decide) (cok1 trivial) ?_
            refine dv (gN rfl) (q_quoM (a := bb.size) (b := 2) rfl rfl (by first | decide | omega) (i64_in (by have := div_le_of (a := bb.size) (b := 2) (M := 9223372036854775807) (by omega); omega))) rfl (by decide) (cok2 trivial (cconst rfl)) ?_
            refine dv (gN rfl) (OpQ.cast (v' := .bool false) (q_int rfl rfl rfl) (congrArg Value.bool (by rw [hnl]; exact bne_self_eq_false _))) rfl (by decide) (cok2 trivial trivial) ?_
            refine dv (gN rfl) (q_mv (v := .bool false) rfl) rfl (by decide) (cok1 trivial) ?_
            refine dv (gS rfl rfl) (q_mv (v := .bool (decide (32768 ≤ ofN (numsL bb) i))) rfl) rfl (by decide) (cok1 trivial) ?_
            refine dv (gS rfl rfl) (q_mv (v := .int .u64 ((n0 : Nat) : Int)) rfl) rfl (by decide) (cok1 trivial) ?_
            refine dv (gS rfl rfl) (q_int rfl rfl rfl) rfl (by decide) (cok2 trivial (cconst rfl)) ?_
            refine dv (gS rfl rfl) (OpQ.cast (v' := .bool false) (q_boolne Try.underlying4 rfl rfl) (congrArg Value.bool (by rw [hnn]; first | rfl | exact (bne_eq_false_iff_eq.2 (decide_eq_decide.2 (by omega)))))) rfl (by decide) (cok2 trivial trivial) ?_
            refine dv (gN rfl) (q_pf (v := .bool false) rfl rfl) rfl (by decide) (call_ok rfl) ?_
            refine ⟨_, Wk.refl _ _, ?_⟩
            show awp _ _ _ _ _ _ _
            refine awp_cond_f rfl ?_
            refine awp_skip_wk ?_
            refine ⟨_, Wk.refl _ _, ?_⟩
            show awp _ _ _ _ _ _ _
            refine awp_seq ?_
            refine awp_regs hF ?_
            refine dv (gN rfl) (q_mv (v := .int .u64 ((n0 : Nat) : Int)) rfl) rfl (by decide) (cok1 trivial) ?_
            refine dv (gN rfl) (q_remM (a := n0) (b := 32768) rfl rfl (by first | decide | omega)) rfl (by decide) (cok2 trivial (cconst rfl)) ?_
            refine dv (gN rfl) (q_convin (a := ((n0 % 32768 : Nat) : Int)) Try.underlying28 Try.underlying3 rfl (i64_in (by omega))) rfl (by decide) (cok1 trivial) ?_
            refine dv (gN rfl) (q_as (v := .int .i64 ((n0 % 32768 : Nat) : Int)) rfl) rfl (by decide) (cok1 trivial) ?_
            refine ⟨_, Wk.refl _ _, ?_⟩
            show awp _ _ _ _ _ _ _
            refine awp_seq ?_
            refine awp_seq ?_
            refine awp_regs hF ?_
            refine dv (gN rfl) (q_as (v := .int .i64 0) rfl) rfl (by decide) (cok1 (cconst rfl)) ?_
            refine ⟨_, Wk.refl _ _, ?_⟩
            show awp _ _ _ _ _ _ _
            refine awp_block ?_
            refine awp_wk (Wk.U [(9, .pointer (some ⟨b5, 0, none⟩)), (13, .string (ofName (defsN nd k) (needsN nn k2) (ofN (numsL bb) i))), (14, .string (ofFile (defsN nd k) (needsN nn k2) (ofN (numsL bb) i))), (16, .int .i64 ((n0 % 32768 : Nat) : Int)), (17, .int .i64 0)] ⟨rfl, rfl, rfl, rfl, rfl, trivial⟩) ?_
            refine awp_loop (fun (j : Nat) st => ∃ (H113 : AHeap), st = ⟨185, U [(9, .pointer (some ⟨b5, 0, none⟩)), (13, .string (ofName (defsN nd k) (needsN nn k2) (ofN (numsL bb) i))), (14, .string (ofFile (defsN nd k) (needsN nn k2) (ofN (numsL bb) i))), (16, .int .i64 ((n0 % 32768 : Nat) : Int)), (17, .int .i64 ((j : Nat) : Int))], [], H113⟩ ∧ St H0 (none0) (Rd H0) H113 [(b105, .cells true ((numsL bb).map i64v) 1), (bn, .cells true (fl needc (needsN nn k2)) 4), (bd, .cells true (fl defc (defsN nd k)) 2), (b5, .cells true [.slice (some ⟨bd, 0, none⟩) k k, .slice (some ⟨bn, 0, none⟩) k2 k2, .slice (some ⟨b105, 0, none⟩) ((numsL bb).length) ((numsL bb).length)] 3), (b1, .cells true [vD, vN] 2)] ∧ (∀ q, q < j → isD ((n0) % 32768) (nth (defsN nd k) q) = false)) (fun (j : Nat) => (defsN nd k).length - j) (x0 := (0)) ?h0 ?round
            case h0 =>
              exact ⟨_, rfl, s112, fun q h => absurd h (Nat.not_lt_zero _)⟩
            case round =>
              rintro j _ ⟨H113, rfl, s114, hj⟩
              refine awp_seq ?_
              refine awp_seq ?_
              refine awp_regs hF ?_
              refine dv (gN rfl) (q_mv (v := .int .i64 ((j : Nat) : Int)) rfl) rfl (by decide) (cok1 trivial) ?_
              refine dv (gN rfl) (q_field Try.underlying47 rfl Try.sizeOf26 rfl (s114.rd (j := 3) rfl)) rfl (by decide) (cok1 trivial) ?_
              refine dv (gN rfl) (q_load (v := .slice (some ⟨bd, 0, none⟩) k k) Try.isAgg26 rfl (s114.rd (j := 3) rfl) rfl) rfl (by decide) (cok1 trivial) ?_
              refine dv (gN rfl) (q_len_slice Try.underlying26 rfl (s114.rd (j := 2) rfl)) rfl (by decide) (cok1 trivial) ?_
              refine dvb (gN rfl) (q_int rfl rfl rfl) rfl (by decide) (cok2 trivial trivial) (fun c27 => ?_) (fun c27 => ?_)
              ·
                replace c27 := of_decide_eq_true c27
                refine ⟨_, Wk.refl _ _, ?_⟩
                show awp _ _ _ _ _ _ _
                refine awp_cond_t rfl ?_
                refine awp_skip_wk ?_
                refine ⟨_, Wk.refl _ _, ?_⟩
                show awp _ _ _ _ _ _ _
                refine awp_seq ?_
                refine awp_block ?_
                refine awp_seq ?_
                refine awp_regs hF ?_
                refine dv (gN rfl) (q_field Try.underlying47 rfl Try.sizeOf26 rfl (s114.rd (j := 3) rfl)) rfl (by decide) (cok1 trivial) ?_
                refine dv (gN rfl) (q_load (v := .slice (some ⟨bd, 0, none⟩) k k) Try.isAgg26 rfl (s114.rd (j := 3) rfl) rfl) rfl (by decide) (cok1 trivial) ?_
                refine dv (gN rfl) (q_mv (v := .int .i64 ((j : Nat) : Int)) rfl) rfl (by decide) (cok1 trivial) ?_
                refine dv (gN rfl) (OpQ.cast (v' := .pointer (some ⟨bd, j * 2, none⟩)) (q_index (u := 0) (i := j) Try.underlying26 Try.sizeOf38 rfl rfl (by omega) (s114.rd (j := 2) rfl)) (by rw [Nat.zero_add])) rfl (by decide) (cok2 trivial trivial) ?_
                refine dv (gN rfl) (q_field Try.underlying38 rfl Try.sizeOf3 rfl (s114.rd (j := 2) rfl)) rfl (by decide) (cok1 trivial) ?_
                refine dv (gN rfl) (q_load (v := .int .i64 ((nth (defsN nd k) j).1)) Try.isAgg3 rfl (s114.rd (j := 2) rfl) ((fl_get0 defc_w (by omega) (by decide)).trans rfl)) rfl (by decide) (cok1 trivial) ?_
                refine dv (gN rfl) (q_mv (v := .int .i64 ((n0 % 32768 : Nat) : Int)) rfl) rfl (by decide) (cok1 trivial) ?_
                refine dvb (gN rfl) (q_int rfl rfl rfl) rfl (by decide) (cok2 trivial trivial) (fun c28 => ?_) (fun c28 => ?_)
                ·
                  replace c28 := eq_of_beq c28
                  have hix := ixG_yes (p := isD ((n0) % 32768)) (l := (defsN nd k)) (i := j) (by omega) (beq_iff_eq.2 c28) hj
                  have hnf := name_def (ne := (needsN nn k2)) hix
                  rw [← hnn] at hnf
                  refine ⟨_, Wk.refl _ _, ?_⟩
                  show awp _ _ _ _ _ _ _
                  refine awp_cond_t rfl ?_
                  refine awp_seq ?_
                  refine awp_regs hF ?_
                  refine dv (gN rfl) (q_mv (v := .string (ofName (defsN nd k) (needsN nn k2) (ofN (numsL bb) i))) rfl) rfl (by decide) (cok1 trivial) ?_
                  refine dv (gN rfl) (q_field Try.underlying47 rfl Try.sizeOf26 rfl (s114.rd (j := 3) rfl)) rfl (by decide) (cok1 trivial) ?_
                  refine dv (gN rfl) (q_load (v := .slice (some ⟨bd, 0, none⟩) k k) Try.isAgg26 rfl (s114.rd (j := 3) rfl) rfl) rfl (by decide) (cok1 trivial) ?_
                  refine dv (gN rfl) (q_mv (v := .int .i64 ((j : Nat) : Int)) rfl) rfl (by decide) (cok1 trivial) ?_
                  refine dv (gN rfl) (OpQ.cast (v' := .pointer (some ⟨bd, j * 2, none⟩)) (q_index (u := 0) (i := j) Try.underlying26 Try.sizeOf38 rfl rfl (by omega) (s114.rd (j := 2) rfl)) (by rw [Nat.zero_add])) rfl (by decide) (cok2 trivial trivial) ?_
                  refine dv (gN rfl) (q_field Try.underlying38 rfl Try.sizeOf9 rfl (s114.rd (j := 2) rfl)) rfl (by decide) (cok1 trivial) ?_
                  refine dv (gN rfl) (q_load (v := .string ((nth (defsN nd k) j).2)) Try.isAgg9 rfl (s114.rd (j := 2) rfl) ((fl_get defc_w (by omega) (by decide)).trans rfl)) rfl (by decide) (cok1 trivial) ?_
                  refine dv (gN rfl) (OpQ.cast (v' := .bool true) (q_streq rfl rfl) (congrArg Value.bool (decide_eq_true hnf.1))) rfl (by decide) (cok2 trivial trivial) ?_
                  refine dv (gN rfl) (q_mv (v := .bool true) rfl) rfl (by decide) (cok1 trivial) ?_
                  refine dv (gS rfl rfl) (q_mv (v := .string (ofFile (defsN nd k) (needsN nn k2) (ofN (numsL bb) i))) rfl) rfl (by decide) (cok1 trivial) ?_
                  refine dv (gS rfl rfl) (OpQ.cast (v' := .bool true) (q_streq rfl rfl) (congrArg Value.bool (decide_eq_true hnf.2))) rfl (by decide) (cok2 trivial (cconst rfl)) ?_
                  refine dv (gN rfl) (q_pt (v := .bool true) rfl rfl) rfl (by decide) (call_ok rfl) ?_
                  refine dv (gN rfl) (q_as (v := .bool true) rfl) rfl (by decide) (cok1 trivial) ?_
                  refine ⟨_, Wk.refl _ _, ?_⟩
                  show awp _ _ _ _ _ _ _
                  refine awp_ret_wk ?_
                  refine ⟨_, Wk.refl _ _, ?_⟩
                  repeat (with_reducible first | refine then_ret ?_ | refine blk_ret ?_ | refine then_exit ?_ | refine blk_exit ?_ | refine blk_exit' (by decide) ?_ | refine blk_normal ?_ | refine then_normal ?_ | refine retq_ret ?_ | refine retq_normal ?_ | refine ng_normal ?_ | refine ng_ret ?_ | refine ng_exit ?_)
                  exact ret_none (v := .bool true) rfl s114.kp (.tmp rfl .nil) rfl rfl ⟨rfl, rfl⟩
                ·
                  replace c28 := ne_of_beq_false c28
                  refine ⟨_, Wk.refl _ _, ?_⟩
                  show awp _ _ _ _ _ _ _
                  refine awp_cond_f rfl ?_
                  refine awp_skip_wk ?_
                  refine ⟨_, Wk.refl _ _, ?_⟩
                  show awp _ _ _ _ _ _ _
                  refine awp_regs hF ?_
                  refine dv (gN rfl) (q_mv (v := .int .i64 ((j : Nat) : Int)) rfl) rfl (by decide) (cok1 trivial) ?_
                  refine dv (gN rfl) (OpQ.cast (v' := .int .i64 ((j + 1 : Nat) : Int)) (q_int rfl rfl rfl) (congrArg _ ((i64_in (by omega)).trans (by first | rfl | omega | (push_cast; rfl))))) rfl (by decide) (cok2 trivial (cconst rfl)) ?_
                  refine dv (gN rfl) (q_as (v := .int .i64 ((j + 1 : Nat) : Int)) rfl) rfl (by decide) (cok1 trivial) ?_
                  refine ⟨_, Wk.U [(9, .pointer (some ⟨b5, 0, none⟩)), (13, .string (ofName (defsN nd k) (needsN nn k2) (ofN (numsL bb) i))), (14, .string (ofFile (defsN nd k) (needsN nn k2) (ofN (numsL bb) i))), (16, .int .i64 ((n0 % 32768 : Nat) : Int)), (17, .int .i64 (((j + 1) : Nat) : Int))] ⟨rfl, rfl, rfl, rfl, rfl, trivial⟩, (j + 1), ⟨_, rfl, s114, lt_succ_cases hj (beq_eq_false_iff_ne.2 (by assumption))⟩, (by omega)⟩
              ·
                replace c27 := of_decide_eq_false c27
                have hixd := ixG_no (p := isD ((n0) % 32768)) (l := (defsN nd k)) (i := j) (by omega) hj
                refine ⟨_, Wk.refl _ _, ?_⟩
                show awp _ _ _ _ _ _ _
                refine awp_cond_f rfl ?_
                refine awp_exit_wk ?_
                refine ⟨_, Wk.refl _ _, ?_⟩
                show awp _ _ _ _ _ _ _
                refine awp_seq ?_
                refine awp_seq ?_
                refine awp_regs hF ?_
                refine dv (gN rfl) (q_as (v := .int .i64 0) rfl) rfl (by decide) (cok1 (cconst rfl)) ?_
                refine ⟨_, Wk.refl _ _, ?_⟩
                show awp _ _ _ _ _ _ _
                refine awp_block ?_
                refine awp_wk (Wk.U [(9, .pointer (some ⟨b5, 0, none⟩)), (13, .string (ofName (defsN nd k) (needsN nn k2) (ofN (numsL bb) i))), (14, .string (ofFile (defsN nd k) (needsN nn k2) (ofN (numsL bb) i))), (16, .int .i64 ((n0 % 32768 : Nat) : Int)), (18, .int .i64 0)] ⟨rfl, rfl, rfl, rfl, rfl, trivial⟩) ?_
                refine awp_loop (fun (j : Nat) st => ∃ (H115 : AHeap), st = ⟨185, U [(9, .pointer (some ⟨b5, 0, none⟩)), (13, .string (ofName (defsN nd k) (needsN nn k2) (ofN (numsL bb) i))), (14, .string (ofFile (defsN nd k) (needsN nn k2) (ofN (numsL bb) i))), (16, .int .i64 ((n0 % 32768 : Nat) : Int)), (18, .int .i64 ((j : Nat) : Int))], [], H115⟩ ∧ St H0 (none0) (Rd H0) H115 [(b105, .cells true ((numsL bb).map i64v) 1), (bn, .cells true (fl needc (needsN nn k2)) 4), (bd, .cells true (fl defc (defsN nd k)) 2), (b5, .cells true [.slice (some ⟨bd, 0, none⟩) k k, .slice (some ⟨bn, 0, none⟩) k2 k2, .slice (some ⟨b105, 0, none⟩) ((numsL bb).length) ((numsL bb).length)] 3), (b1, .cells true [vD, vN] 2)] ∧ (∀ q, q < j → isN ((n0) % 32768) (nth (needsN nn k2) q) = false)) (fun (j : Nat) => (needsN nn k2).length - j) (x0 := (0)) ?h0 ?round
                case h0 =>
                  exact ⟨_, rfl, s114, fun q h => absurd h (Nat.not_lt_zero _)⟩
                case round =>
                  rintro j _ ⟨H115, rfl, s116, hj⟩
                  refine awp_seq ?_
                  refine awp_seq ?_
                  refine awp_regs hF ?_
                  refine dv (gN rfl) (q_mv (v := .int .i64 ((j : Nat) : Int)) rfl) rfl (by decide) (cok1 trivial) ?_
                  refine dv (gN rfl) (q_field Try.underlying47 rfl Try.sizeOf45 rfl (s116.rd (j := 3) rfl)) rfl (by decide) (cok1 trivial) ?_
                  refine dv (gN rfl) (q_load (v := .slice (some ⟨bn, 0, none⟩) k2 k2) Try.isAgg45 rfl (s116.rd (j := 3) rfl) rfl) rfl (by decide) (cok1 trivial) ?_
                  refine dv (gN rfl) (q_len_slice Try.underlying45 rfl (s116.rd (j := 1) rfl)) rfl (by decide) (cok1 trivial) ?_
                  refine dvb (gN rfl) (q_int rfl rfl rfl) rfl (by decide) (cok2 trivial trivial) (fun c29 => ?_) (fun c29 => ?_)
                  ·
                    replace c29 := of_decide_eq_true c29
                    refine ⟨_, Wk.refl _ _, ?_⟩
                    show awp _ _ _ _ _ _ _
                    refine awp_cond_t rfl ?_
                    refine awp_skip_wk ?_
                    refine ⟨_, Wk.refl _ _, ?_⟩
                    show awp _ _ _ _ _ _ _
                    refine awp_seq ?_
                    refine awp_block ?_
                    refine awp_seq ?_
                    refine awp_regs hF ?_
                    refine dv (gN rfl) (q_field Try.underlying47 rfl Try.sizeOf45 rfl (s116.rd (j := 3) rfl)) rfl (by decide) (cok1 trivial) ?_
                    refine dv (gN rfl) (q_load (v := .slice (some ⟨bn, 0, none⟩) k2 k2) Try.isAgg45 rfl (s116.rd (j := 3) rfl) rfl) rfl (by decide) (cok1 trivial) ?_
                    refine dv (gN rfl) (q_mv (v := .int .i64 ((j : Nat) : Int)) rfl) rfl (by decide) (cok1 trivial) ?_
                    refine dv (gN rfl) (OpQ.cast (v' := .pointer (some ⟨bn, j * 4, none⟩)) (q_index (u := 0) (i := j) Try.underlying45 Try.sizeOf50 rfl rfl (by omega) (s116.rd (j := 1) rfl)) (by rw [Nat.zero_add])) rfl (by decide) (cok2 trivial trivial) ?_
                    refine dv (gN rfl) (q_field Try.underlying50 rfl Try.sizeOf3 rfl (s116.rd (j := 1) rfl)) rfl (by decide) (cok1 trivial) ?_
                    refine dv (gN rfl) (q_load (v := .int .i64 ((nth (needsN nn k2) j).1)) Try.isAgg3 rfl (s116.rd (j := 1) rfl) ((fl_get0 needc_w (by omega) (by decide)).trans rfl)) rfl (by decide) (cok1 trivial) ?_
                    refine dv (gN rfl) (q_mv (v := .int .i64 ((n0 % 32768 : Nat) : Int)) rfl) rfl (by decide) (cok1 trivial) ?_
                    refine dvb (gN rfl) (q_int rfl rfl rfl) rfl (by decide) (cok2 trivial trivial) (fun c30 => ?_) (fun c30 => ?_)
                    ·
                      replace c30 := eq_of_beq c30
                      have hix := ixG_yes (p := isN ((n0) % 32768)) (l := (needsN nn k2)) (i := j) (by omega) (beq_iff_eq.2 c30) hj
                      have hnf := name_need hixd hix
                      rw [← hnn] at hnf
                      refine ⟨_, Wk.refl _ _, ?_⟩
                      show awp _ _ _ _ _ _ _
                      refine awp_cond_t rfl ?_
                      refine awp_seq ?_
                      refine awp_regs hF ?_
                      refine dv (gN rfl) (q_mv (v := .string (ofName (defsN nd k) (needsN nn k2) (ofN (numsL bb) i))) rfl) rfl (by decide) (cok1 trivial) ?_
                      refine dv (gN rfl) (q_field Try.underlying47 rfl Try.sizeOf45 rfl (s116.rd (j := 3) rfl)) rfl (by decide) (cok1 trivial) ?_
                      refine dv (gN rfl) (q_load (v := .slice (some ⟨bn, 0, none⟩) k2 k2) Try.isAgg45 rfl (s116.rd (j := 3) rfl) rfl) rfl (by decide) (cok1 trivial) ?_
                      refine dv (gN rfl) (q_mv (v := .int .i64 ((j : Nat) : Int)) rfl) rfl (by decide) (cok1 trivial) ?_
                      refine dv (gN rfl) (OpQ.cast (v' := .pointer (some ⟨bn, j * 4, none⟩)) (q_index (u := 0) (i := j) Try.underlying45 Try.sizeOf50 rfl rfl (by omega) (s116.rd (j := 1) rfl)) (by rw [Nat.zero_add])) rfl (by decide) (cok2 trivial trivial) ?_
                      refine dv (gN rfl) (q_field Try.underlying50 rfl Try.sizeOf9 rfl (s116.rd (j := 1) rfl)) rfl (by decide) (cok1 trivial) ?_
                      refine dv (gN rfl) (q_load (v := .string ((nth (needsN nn k2) j).2.2.1)) Try.isAgg9 rfl (s116.rd (j := 1) rfl) ((fl_get needc_w (by omega) (by decide)).trans rfl)) rfl (by decide) (cok1 trivial) ?_
                      refine dv (gN rfl) (OpQ.cast (v' := .bool true) (q_streq rfl rfl) (congrArg Value.bool (decide_eq_true hnf.1))) rfl (by decide) (cok2 trivial trivial) ?_
                      refine dv (gN rfl) (q_mv (v := .bool true) rfl) rfl (by decide) (cok1 trivial) ?_
                      refine dv (gS rfl rfl) (q_mv (v := .string (ofFile (defsN nd k) (needsN nn k2) (ofN (numsL bb) i))) rfl) rfl (by decide) (cok1 trivial) ?_
                      refine dv (gS rfl rfl) (OpQ.cast (v' := .bool true) (q_streq rfl rfl) (congrArg Value.bool (decide_eq_true (hnf.2.trans (needsN_file (by omega)))))) rfl (by decide) (cok2 trivial (cconst rfl)) ?_
                      refine dv (gN rfl) (q_pt (v := .bool true) rfl rfl) rfl (by decide) (call_ok rfl) ?_
                      refine dv (gN rfl) (q_as (v := .bool true) rfl) rfl (by decide) (cok1 trivial) ?_
                      refine ⟨_, Wk.refl _ _, ?_⟩
                      show awp _ _ _ _ _ _ _
                      refine awp_ret_wk ?_
                      refine ⟨_, Wk.refl _ _, ?_⟩
                      repeat (with_reducible first | refine then_ret ?_ | refine blk_ret ?_ | refine then_exit ?_ | refine blk_exit ?_ | refine blk_exit' (by decide) ?_ | refine blk_normal ?_ | refine then_normal ?_ | refine retq_ret ?_ | refine retq_normal ?_ | refine ng_normal ?_ | refine ng_ret ?_ | refine ng_exit ?_)
                      exact ret_none (v := .bool true) rfl s116.kp (.tmp rfl .nil) rfl rfl ⟨rfl, rfl⟩
                    ·
                      replace c30 := ne_of_beq_false c30
                      refine ⟨_, Wk.refl _ _, ?_⟩
                      show awp _ _ _ _ _ _ _
                      refine awp_cond_f rfl ?_
                      refine awp_skip_wk ?_
                      refine ⟨_, Wk.refl _ _, ?_⟩
                      show awp _ _ _ _ _ _ _
                      refine awp_regs hF ?_
                      refine dv (gN rfl) (q_mv (v := .int .i64 ((j : Nat) : Int)) rfl) rfl (by decide) (cok1 trivial) ?_
                      refine dv (gN rfl) (OpQ.cast (v' := .int .i64 ((j + 1 : Nat) : Int)) (q_int rfl rfl rfl) (congrArg _ ((i64_in (by omega)).trans (by first | rfl | omega | (push_cast; rfl))))) rfl (by decide) (cok2 trivial (cconst rfl)) ?_
                      refine dv (gN rfl) (q_as (v := .int .i64 ((j + 1 : Nat) : Int)) rfl) rfl (by decide) (cok1 trivial) ?_
                      refine ⟨_, Wk.U [(9, .pointer (some ⟨b5, 0, none⟩)), (13, .string (ofName (defsN nd k) (needsN nn k2) (ofN (numsL bb) i))), (14, .string (ofFile (defsN nd k) (needsN nn k2) (ofN (numsL bb) i))), (16, .int .i64 ((n0 % 32768 : Nat) : Int)), (18, .int .i64 (((j + 1) : Nat) : Int))] ⟨rfl, rfl, rfl, rfl, rfl, trivial⟩, (j + 1), ⟨_, rfl, s116, lt_succ_cases hj (beq_eq_false_iff_ne.2 (by assumption))⟩, (by omega)⟩
                  ·
                    replace c29 := of_decide_eq_false c29
                    have hix := ixG_no (p := isN ((n0) % 32768)) (l := (needsN nn k2)) (i := j) (by omega) hj
                    have hnf := name_none hixd hix
                    rw [← hnn] at hnf
                    refine ⟨_, Wk.refl _ _, ?_⟩
                    show awp _ _ _ _ _ _ _
                    refine awp_cond_f rfl ?_
                    refine awp_exit_wk ?_
                    refine ⟨_, Wk.refl _ _, ?_⟩
                    show awp _ _ _ _ _ _ _
                    refine awp_seq ?_
                    refine awp_regs hF ?_
                    refine dv (gN rfl) (q_mv (v := .string (ofName (defsN nd k) (needsN nn k2) (ofN (numsL bb) i))) rfl) rfl (by decide) (cok1 trivial) ?_
                    refine dv (gN rfl) (OpQ.cast (v' := .bool true) (q_streq rfl rfl) (congrArg Value.bool (decide_eq_true hnf.1))) rfl (by decide) (cok2 trivial (cconst rfl)) ?_
                    refine dv (gN rfl) (q_mv (v := .bool true) rfl) rfl (by decide) (cok1 trivial) ?_
                    refine dv (gS rfl rfl) (q_mv (v := .string (ofFile (defsN nd k) (needsN nn k2) (ofN (numsL bb) i))) rfl) rfl (by decide) (cok1 trivial) ?_
                    refine dv (gS rfl rfl) (OpQ.cast (v' := .bool true) (q_streq rfl rfl) (congrArg Value.bool (decide_eq_true hnf.2))) rfl (by decide) (cok2 trivial (cconst rfl)) ?_
                    refine dv (gN rfl) (q_pt (v := .bool true) rfl rfl) rfl (by decide) (call_ok rfl) ?_
                    refine dv (gN rfl) (q_as (v := .bool true) rfl) rfl (by decide) (cok1 trivial) ?_
                    refine ⟨_, Wk.refl _ _, ?_⟩
                    show awp _ _ _ _ _ _ _
                    refine awp_ret_wk ?_
                    refine ⟨_, Wk.refl _ _, ?_⟩
                    repeat (with_reducible first | refine then_ret ?_ | refine blk_ret ?_ | refine then_exit ?_ | refine blk_exit ?_ | refine blk_exit' (by decide) ?_ | refine blk_normal ?_ | refine then_normal ?_ | refine retq_ret ?_ | refine retq_normal ?_ | refine ng_normal ?_ | refine ng_ret ?_ | refine ng_exit ?_)
                    exact ret_none (v := .bool true) rfl s116.kp (.tmp rfl .nil) rfl rfl ⟨rfl, rfl⟩

end Go.Proofs.YtoaliamemkjfhaaA


