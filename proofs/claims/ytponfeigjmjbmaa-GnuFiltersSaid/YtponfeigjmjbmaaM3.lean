/-
  Walks over abstract states: texts of one claim, merged.
-/
import Derived.Test.YtponfeigjmjbmaaM2
import Derived.Test.YtponfeigjmjbmaaProg
import Derived.KernelRfl
/-
  Walks of functions of the given program, and what they compute.
-/
namespace Go.Proofs.YtponfeigjmjbmaaA
set_option linter.unusedVariables false
open Go Go.RowKit Go.Shelf Go.Proofs
def SymOk (k : Nat) : Prop := ∀ {H0 : AHeap} (n d bn bk nb : Nat) (vN : Value) (names : List ByteArray) (E : SEnv H0 d bn bk nb vN names) (l : List Nat) (hn : l.length = n) (hn2 : n ≤ 1000) (hd : H0[d]? = some (.cells true (l.map i64v) 1)) (hl : ∀ x ∈ l, x < names.length) (a m b : Nat) (hs : SM (gkey names nb) l a m b) (hk : b - a ≤ k), ACalls Try.prog 52 [.slice (some ⟨d, 0, none⟩) n n, .int .i64 ((a : Nat) : Int), .int .i64 ((m : Nat) : Int), .int .i64 ((b : Nat) : Int), .func (.func 23) #[] #[.pointer (some ⟨bn, 0, none⟩), .pointer (some ⟨bk, 0, none⟩)]] H0 (fun v H' => v = .tuple #[] ∧ Kp (· ∈ [d]) H0 H' ∧ ∃ l', Sw a b l l' ∧ Srt (gkey names nb) l' a b ∧ H'[d]? = some (.cells true (l'.map i64v) 1))
set_option maxRecDepth 100000 in
set_option maxHeartbeats 4000000 in
theorem sym_step {H0 : AHeap} (k : Nat) (ih : SymOk k) (n d bn bk nb : Nat) (vN : Value) (names : List ByteArray) (E : SEnv H0 d bn bk nb vN names) (l : List Nat) (hn : l.length = n) (hn2 : n ≤ 1000) (hd : H0[d]? = some (.cells true (l.map i64v) 1)) (hl : ∀ x ∈ l, x < names.length) (a m b : Nat) (hs : SM (gkey names nb) l a m b) (hk : b - a ≤ k + 1) : ACalls Try.prog 52 [.slice (some ⟨d, 0, none⟩) n n, .int .i64 ((a : Nat) : Int), .int .i64 ((m : Nat) : Int), .int .i64 ((b : Nat) : Int), .func (.func 23) #[] #[.pointer (some ⟨bn, 0, none⟩), .pointer (some ⟨bk, 0, none⟩)]] H0 (fun v H' => v = .tuple #[] ∧ Kp (· ∈ [d]) H0 H' ∧ ∃ l', Sw a b l l' ∧ Srt (gkey names nb) l' a b ∧ H'[d]? = some (.cells true (l'.map i64v) 1)) := by
  have hF : Wd Fence.wide := .inl rfl
  have hM : Try.prog.follows .mixedOrders = true := by kernel_rfl
  have ham := hs.am
  have hmb := hs.mb
  have hbl := hs.bl
  have hlt := hl
  have s0 : St H0 (· ∈ [d]) (Off H0 [d]) H0 [(d, .cells true (l.map i64v) 1)] := St.beginL [(d, .cells true (l.map i64v) 1)] (by simp) (allAt_mem ⟨hd, trivial⟩)
  refine acalls_st Try.func52 rfl Try.ntmps52 rfl ?_
  refine awp_seq ?_
  refine awp_seq ?_
  refine awp_regs hF ?_
  refine dv (gyes_none rfl) (q_mv (v := .int .i64 ((m : Nat) : Int)) rfl) rfl (by decide) (cok1 trivial) ?_
  refine dv (gyes_none rfl) (q_mv (v := .int .i64 ((a : Nat) : Int)) rfl) rfl (by decide) (cok1 trivial) ?_
  refine dv (gyes_none rfl) (OpQ.cast (v' := .int .i64 ((m - a : Nat) : Int)) (q_int rfl rfl rfl) (congrArg _ ((i64_in (by omega)).trans (by omega)))) rfl (by decide) (cok2 trivial trivial) ?_
  refine dvb (gyes_none rfl) (q_int rfl rfl rfl) rfl (by decide) (cok2 trivial (cconst rfl)) (fun c1 => ?_) (fun c1 => ?_)
  ·
    replace c1 := eq_of_beq c1
    refine ⟨_, Wk.refl _ _, ?_⟩
    show awp _ _ _ _ _ _ _
    refine awp_cond_t rfl ?_
    refine awp_seq ?_
    refine awp_regs hF ?_
    refine dv (gyes_none rfl) (q_mv (v := .int .i64 ((m : Nat) : Int)) rfl) rfl (by decide) (cok1 trivial) ?_
    refine dv (gyes_none rfl) (q_as (v := .int .i64 ((m : Nat) : Int)) rfl) rfl (by decide) (cok1 trivial) ?_
    refine ⟨_, Wk.refl _ _, ?_⟩
    show awp _ _ _ _ _ _ _
    refine awp_seq ?_
    refine awp_regs hF ?_
    refine dv (gyes_none rfl) (q_mv (v := .int .i64 ((b : Nat) : Int)) rfl) rfl (by decide) (cok1 trivial) ?_
    refine dv (gyes_none rfl) (q_as (v := .int .i64 ((b : Nat) : Int)) rfl) rfl (by decide) (cok1 trivial) ?_
    refine ⟨_, Wk.refl _ _, ?_⟩
    show awp _ _ _ _ _ _ _
    refine awp_seq ?_
    refine awp_block ?_
    refine awp_wk (Wk.U [(0, .slice (some ⟨d, 0, none⟩) n n), (1, .int .i64 ((a : Nat) : Int)), (2, .int .i64 ((m : Nat) : Int)), (3, .int .i64 ((b : Nat) : Int)), (4, .func (.func 23) #[] #[.pointer (some ⟨bn, 0, none⟩), .pointer (some ⟨bk, 0, none⟩)]), (10, .int .i64 ((m : Nat) : Int)), (11, .int .i64 ((b : Nat) : Int))] ⟨rfl, rfl, rfl, rfl, rfl, rfl, rfl, trivial⟩) ?_
    refine awp_loop (fun ((i, j) : Nat × Nat) st => ∃ (H1 : AHeap), st = ⟨220, U [(0, .slice (some ⟨d, 0, none⟩) n n), (1, .int .i64 ((a : Nat) : Int)), (2, .int .i64 ((m : Nat) : Int)), (3, .int .i64 ((b : Nat) : Int)), (4, .func (.func 23) #[] #[.pointer (some ⟨bn, 0, none⟩), .pointer (some ⟨bk, 0, none⟩)]), (10, .int .i64 ((i : Nat) : Int)), (11, .int .i64 ((j : Nat) : Int))], [], H1⟩ ∧ St H0 ((· ∈ [d])) (Off H0 [d]) H1 [(d, .cells true (l.map i64v) 1)] ∧ (m ≤ i ∧ i ≤ j ∧ j ≤ b ∧ (∀ q, m ≤ q → q < i → (gkey names nb) (nth l q) < (gkey names nb) (nth l a)) ∧ (∀ q, j ≤ q → q < b → ¬ (gkey names nb) (nth l q) < (gkey names nb) (nth l a)))) (fun ((i, j) : Nat × Nat) => j - i) (x0 := (m, b)) ?h0 ?round
    case h0 =>
      exact ⟨_, rfl, s0, ⟨Nat.le_refl _, by omega, Nat.le_refl _, fun q q1 q2 => absurd q2 (by omega), fun q q1 q2 => absurd q2 (by omega)⟩⟩
    case round =>
      rintro ⟨i, j⟩ _ ⟨H1, rfl, s2, hq⟩
      dsimp only at *
      refine awp_seq ?_
      refine awp_seq ?_
      refine awp_regs hF ?_
      refine dv (gyes_none rfl) (q_mv (v := .int .i64 ((i : Nat) : Int)) rfl) rfl (by decide) (cok1 trivial) ?_
      refine dv (gyes_none rfl) (q_mv (v := .int .i64 ((j : Nat) : Int)) rfl) rfl (by decide) (cok1 trivial) ?_
      refine dvb (gyes_none rfl) (q_int rfl rfl rfl) rfl (by decide) (cok2 trivial trivial) (fun c2 => ?_) (fun c2 => ?_)
      ·
        replace c2 := of_decide_eq_true c2
        refine ⟨_, Wk.refl _ _, ?_⟩
        show awp _ _ _ _ _ _ _
        refine awp_cond_t rfl ?_
        refine awp_skip_wk ?_
        refine ⟨_, Wk.refl _ _, ?_⟩
        show awp _ _ _ _ _ _ _
        refine awp_block ?_
        refine awp_seq ?_
        refine awp_regs hF ?_
        refine dv (gyes_none rfl) (q_mv (v := .int .i64 ((i : Nat) : Int)) rfl) rfl (by decide) (cok1 trivial) ?_
        refine dv (gyes_none rfl) (q_mv (v := .int .i64 ((j : Nat) : Int)) rfl) rfl (by decide) (cok1 trivial) ?_
        refine dv (gyes_none rfl) (OpQ.cast (v' := .int .i64 ((i + j : Nat) : Int)) (q_int rfl rfl rfl) (congrArg _ ((i64_in (by omega)).trans (by first | rfl | omega | (push_cast; rfl))))) rfl (by decide) (cok2 trivial trivial) ?_
        refine dv (gyes_none rfl) (q_convin (a := ((i + j : Nat) : Int)) Try.underlying3 Try.underlying101 rfl (u64_in (by omega))) rfl (by decide) (cok1 trivial) ?_
        refine dv (gyes_none rfl) (OpQ.cast (v' := .int .u64 (((i + j) / 2 : Nat) : Int)) (q_shrN (a := (i + j)) (c := 1) rfl rfl (by show _ < 18446744073709551616; omega)) rfl) rfl (by decide) (cok2 trivial (cconst rfl)) ?_
        refine dv (gyes_none rfl) (q_convin (a := (((i + j) / 2 : Nat) : Int)) Try.underlying101 Try.underlying3 rfl (i64_in (by omega))) rfl (by decide) (cok1 trivial) ?_
        refine dv (gyes_none rfl) (q_as (v := .int .i64 (((i + j) / 2 : Nat) : Int)) rfl) rfl (by decide) (cok1 trivial) ?_
        refine ⟨_, Wk.refl _ _, ?_⟩
        show awp _ _ _ _ _ _ _
        refine awp_seq ?_
        refine awp_regt hF hM (by kernel_rfl) (by kernel_rfl) ?_
        refine dv (gyes_none rfl) (q_mv (v := .func (.func 23) #[] #[.pointer (some ⟨bn, 0, none⟩), .pointer (some ⟨bk, 0, none⟩)]) rfl) rfl (by decide) (cok1 trivial) ?_
        refine dv (gyes_none rfl) (q_mv (v := .slice (some ⟨d, 0, none⟩) n n) rfl) rfl (by decide) (cok1 trivial) ?_
        refine dv (gyes_none rfl) (q_mv (v := .int .i64 (((i + j) / 2 : Nat) : Int)) rfl) rfl (by decide) (cok1 trivial) ?_
        refine dv (gyes_none rfl) (OpQ.cast (v' := .pointer (some ⟨d, (i + j) / 2, none⟩)) (q_index1 (i := ((i + j) / 2)) Try.underlying25 Try.sizeOf3 rfl rfl (by omega) (s2.rd (j := 0) rfl)) (by rw [Nat.zero_add])) rfl (by decide) (cok2 trivial trivial) ?_
        refine dv (gyes_none rfl) (q_load (v := i64v (nth l ((i + j) / 2))) Try.isAgg3 rfl (s2.rd (j := 0) rfl) (get_nth (w := 0) (by omega))) rfl (by decide) (cok1 trivial) ?_
        refine dv (gyes_none rfl) (q_mv (v := .slice (some ⟨d, 0, none⟩) n n) rfl) rfl (by decide) (cok1 trivial) ?_
        refine dv (gyes_none rfl) (q_mv (v := .int .i64 ((a : Nat) : Int)) rfl) rfl (by decide) (cok1 trivial) ?_
        refine dv (gyes_none rfl) (OpQ.cast (v' := .pointer (some ⟨d, a, none⟩)) (q_index1 (i := a) Try.underlying25 Try.sizeOf3 rfl rfl (by omega) (s2.rd (j := 0) rfl)) (by rw [Nat.zero_add])) rfl (by decide) (cok2 trivial trivial) ?_
        refine dv (gyes_none rfl) (q_load (v := i64v (nth l a)) Try.isAgg3 rfl (s2.rd (j := 0) rfl) (get_nth (w := 0) (by omega))) rfl (by decide) (cok1 trivial) ?_
        refine dv (gyes_none rfl) (q_callv0 Try.call23 rfl rfl ((E.kp s2.kp).cmp (nth l ((i + j) / 2)) (nth l a) (lt_of_mem hlt (by omega)) (lt_of_mem hlt (by omega)))) rfl (by decide) (call_ok rfl) ?_
        refine dvb (gyes_none rfl) (q_int rfl rfl rfl) rfl (by decide) (cok2 trivial (cconst rfl)) (fun c3 => ?_) (fun c3 => ?_)
        ·
          replace c3 := of_decide_eq_true c3
          replace c3 := cmpN_lt.1 c3
          refine ⟨_, Wk.refl _ _, ?_⟩
          show awp _ _ _ _ _ _ _
          refine awp_cond_t rfl ?_
          refine awp_regs hF ?_
          refine dv (gyes_none rfl) (q_mv (v := .int .i64 (((i + j) / 2 : Nat) : Int)) rfl) rfl (by decide) (cok1 trivial) ?_
          refine dv (gyes_none rfl) (OpQ.cast (v' := .int .i64 (((i + j) / 2 + 1 : Nat) : Int)) (q_int rfl rfl rfl) (congrArg _ ((i64_in (by omega)).trans (by first | rfl | omega | (push_cast; rfl))))) rfl (by decide) (cok2 trivial (cconst rfl)) ?_
          refine dv (gyes_none rfl) (q_as (v := .int .i64 (((i + j) / 2 + 1 : Nat) : Int)) rfl) rfl (by decide) (cok1 trivial) ?_
          refine ⟨_, Wk.U [(0, .slice (some ⟨d, 0, none⟩) n n), (1, .int .i64 ((a : Nat) : Int)), (2, .int .i64 ((m : Nat) : Int)), (3, .int .i64 ((b : Nat) : Int)), (4, .func (.func 23) #[] #[.pointer (some ⟨bn, 0, none⟩), .pointer (some ⟨bk, 0, none⟩)]), (10, .int .i64 ((((i + j) / 2 + 1) : Nat) : Int)), (11, .int .i64 ((j : Nat) : Int))] ⟨rfl, rfl, rfl, rfl, rfl, rfl, rfl, trivial⟩, (((i + j) / 2 + 1), j), ⟨_, rfl, s2, ⟨by dsimp only; omega, by dsimp only; omega, by dsimp only; omega, fun q q1 q2 => Nat.lt_of_le_of_lt (hs.sr.le (p := q) (q := (i + j) / 2) q1 (by dsimp only at q2; omega) (by omega)) (by assumption), hq.2.2.2.2⟩⟩, (by omega)⟩
        ·
          replace c3 := of_decide_eq_false c3
          replace c3 := fun h => c3 (cmpN_lt.2 h)
          refine ⟨_, Wk.refl _ _, ?_⟩
          show awp _ _ _ _ _ _ _
          refine awp_cond_f rfl ?_
          refine awp_regs hF ?_
          refine dv (gyes_none rfl) (q_mv (v := .int .i64 (((i + j) / 2 : Nat) : Int)) rfl) rfl (by decide) (cok1 trivial) ?_
          refine dv (gyes_none rfl) (q_as (v := .int .i64 (((i + j) / 2 : Nat) : Int)) rfl) rfl (by decide) (cok1 trivial) ?_
          refine ⟨_, Wk.U [(0, .slice (some ⟨d, 0, none⟩) n n), (1, .int .i64 ((a : Nat) : Int)), (2, .int .i64 ((m : Nat) : Int)), (3, .int .i64 ((b : Nat) : Int)), (4, .func (.func 23) #[] #[.pointer (some ⟨bn, 0, none⟩), .pointer (some ⟨bk, 0, none⟩)]), (10, .int .i64 ((i : Nat) : Int)), (11, .int .i64 ((((i + j) / 2) : Nat) : Int))] ⟨rfl, rfl, rfl, rfl, rfl, rfl, rfl, trivial⟩, (i, ((i + j) / 2)), ⟨_, rfl, s2, ⟨by dsimp only; omega, by dsimp only; omega, by dsimp only; omega, hq.2.2.2.1, fun q q1 q2 h9 => absurd (Nat.lt_of_le_of_lt (hs.sr.le (p := (i + j) / 2) (q := q) (by omega) q1 q2) h9) (by assumption)⟩⟩, (by omega)⟩
      ·
        replace c2 := of_decide_eq_false c2
        refine ⟨_, Wk.refl _ _, ?_⟩
        show awp _ _ _ _ _ _ _
        refine awp_cond_f rfl ?_
        refine awp_exit_wk ?_
        refine ⟨_, Wk.refl _ _, ?_⟩
        show awp _ _ _ _ _ _ _
        refine awp_seq ?_
        refine awp_seq ?_
        refine awp_regs hF ?_
        refine dv (gyes_none rfl) (q_mv (v := .int .i64 ((a : Nat) : Int)) rfl) rfl (by decide) (cok1 trivial) ?_
        refine dv (gyes_none rfl) (q_as (v := .int .i64 ((a : Nat) : Int)) rfl) rfl (by decide) (cok1 trivial) ?_
        refine ⟨_, Wk.refl _ _, ?_⟩
        show awp _ _ _ _ _ _ _
        refine awp_block ?_
        have hij : i = j := by omega
        refine awp_wk (Wk.U [(0, .slice (some ⟨d, 0, none⟩) n n), (1, .int .i64 ((a : Nat) : Int)), (2, .int .i64 ((m : Nat) : Int)), (3, .int .i64 ((b : Nat) : Int)), (4, .func (.func 23) #[] #[.pointer (some ⟨bn, 0, none⟩), .pointer (some ⟨bk, 0, none⟩)]), (10, .int .i64 ((i : Nat) : Int)), (13, .int .i64 ((a : Nat) : Int))] ⟨rfl, rfl, rfl, rfl, rfl, rfl, rfl, trivial⟩) ?_
        refine awp_loop (fun ((u, l2) : Nat × (List Nat)) st => ∃ (H3 : AHeap), st = ⟨220, U [(0, .slice (some ⟨d, 0, none⟩) n n), (1, .int .i64 ((a : Nat) : Int)), (2, .int .i64 ((m : Nat) : Int)), (3, .int .i64 ((b : Nat) : Int)), (4, .func (.func 23) #[] #[.pointer (some ⟨bn, 0, none⟩), .pointer (some ⟨bk, 0, none⟩)]), (10, .int .i64 ((i : Nat) : Int)), (13, .int .i64 ((u : Nat) : Int))], [], H3⟩ ∧ St H0 ((· ∈ [d])) (Off H0 [d]) H3 [(d, .cells true (l2.map i64v) 1)] ∧ (ShA (gkey names nb) l2 a i b u ∧ Sw a b l l2)) (fun ((u, l2) : Nat × (List Nat)) => i - u) (x0 := (a, l)) ?h0 ?round
        case h0 =>
          exact ⟨_, rfl, s2, ⟨sha_start hs (by omega) (by omega) (by omega) hq.2.2.2.1 (by rw [hij]; exact hq.2.2.2.2), .refl⟩⟩
        case round =>
          rintro ⟨u, l2⟩ _ ⟨H3, rfl, s4, hu⟩
          dsimp only at *
          have hln : l2.length = n := hu.2.len.trans hn
          have hua := hu.1.ak
          have hui := hu.1.ki
          refine awp_seq ?_
          refine awp_seq ?_
          refine awp_regs hF ?_
          refine dv (gyes_none rfl) (q_mv (v := .int .i64 ((u : Nat) : Int)) rfl) rfl (by decide) (cok1 trivial) ?_
          refine dv (gyes_none rfl) (q_mv (v := .int .i64 ((i : Nat) : Int)) rfl) rfl (by decide) (cok1 trivial) ?_
          refine dv (gyes_none rfl) (OpQ.cast (v' := .int .i64 ((i - 1 : Nat) : Int)) (q_int rfl rfl rfl) (congrArg _ ((i64_in (by omega)).trans (by omega)))) rfl (by decide) (cok2 trivial (cconst rfl)) ?_
          refine dvb (gyes_none rfl) (q_int rfl rfl rfl) rfl (by decide) (cok2 trivial trivial) (fun c4 => ?_) (fun c4 => ?_)
          ·
            replace c4 := of_decide_eq_true c4
            refine ⟨_, Wk.refl _ _, ?_⟩
            show awp _ _ _ _ _ _ _
            refine awp_cond_t rfl ?_
            refine awp_skip_wk ?_
            refine ⟨_, Wk.refl _ _, ?_⟩
            show awp _ _ _ _ _ _ _
            refine awp_seq ?_
            refine awp_block ?_
            refine awp_regt hF hM (by kernel_rfl) (by kernel_rfl) ?_
            refine dv (gyes_none rfl) (q_mv (v := .slice (some ⟨d, 0, none⟩) n n) rfl) rfl (by decide) (cok1 trivial) ?_
            refine dv (gyes_none rfl) (q_mv (v := .int .i64 ((u : Nat) : Int)) rfl) rfl (by decide) (cok1 trivial) ?_
            refine dv (gyes_none rfl) (q_mv (v := .slice (some ⟨d, 0, none⟩) n n) rfl) rfl (by decide) (cok1 trivial) ?_
            refine dv (gyes_none rfl) (q_mv (v := .int .i64 ((u : Nat) : Int)) rfl) rfl (by decide) (cok1 trivial) ?_
            refine dv (gyes_none rfl) (OpQ.cast (v' := .int .i64 ((u + 1 : Nat) : Int)) (q_int rfl rfl rfl) (congrArg _ ((i64_in (by omega)).trans (by first | rfl | omega | (push_cast; rfl))))) rfl (by decide) (cok2 trivial (cconst rfl)) ?_
            refine dv (gyes_none rfl) (q_mv (v := .slice (some ⟨d, 0, none⟩) n n) rfl) rfl (by decide) (cok1 trivial) ?_
            refine dv (gyes_none rfl) (q_mv (v := .int .i64 ((u : Nat) : Int)) rfl) rfl (by decide) (cok1 trivial) ?_
            refine dv (gyes_none rfl) (OpQ.cast (v' := .int .i64 ((u + 1 : Nat) : Int)) (q_int rfl rfl rfl) (congrArg _ ((i64_in (by omega)).trans (by first | rfl | omega | (push_cast; rfl))))) rfl (by decide) (cok2 trivial (cconst rfl)) ?_
            refine dv (gyes_none rfl) (OpQ.cast (v' := .pointer (some ⟨d, u + 1, none⟩)) (q_index1 (i := (u + 1)) Try.underlying25 Try.sizeOf3 rfl rfl (by omega) (s4.rd (j := 0) rfl)) (by rw [Nat.zero_add])) rfl (by decide) (cok2 trivial trivial) ?_
            refine dv (gyes_none rfl) (q_load (v := i64v (nth l2 (u + 1))) Try.isAgg3 rfl (s4.rd (j := 0) rfl) (get_nth (w := 0) (by omega))) rfl (by decide) (cok1 trivial) ?_
            refine dv (gyes_none rfl) (q_mv (v := .slice (some ⟨d, 0, none⟩) n n) rfl) rfl (by decide) (cok1 trivial) ?_
            refine dv (gyes_none rfl) (q_mv (v := .int .i64 ((u : Nat) : Int)) rfl) rfl (by decide) (cok1 trivial) ?_
            refine dv (gyes_none rfl) (OpQ.cast (v' := .pointer (some ⟨d, u, none⟩)) (q_index1 (i := u) Try.underlying25 Try.sizeOf3 rfl rfl (by omega) (s4.rd (j := 0) rfl)) (by rw [Nat.zero_add])) rfl (by decide) (cok2 trivial trivial) ?_
            refine dv (gyes_none rfl) (q_load (v := i64v (nth l2 u)) Try.isAgg3 rfl (s4.rd (j := 0) rfl) (get_nth (w := 0) (by omega))) rfl (by decide) (cok1 trivial) ?_
            refine dv (gyes_none rfl) (OpQ.cast (v' := .pointer (some ⟨d, u, none⟩)) (q_index1 (i := u) Try.underlying25 Try.sizeOf3 rfl rfl (by omega) (s4.rd (j := 0) rfl)) (by rw [Nat.zero_add])) rfl (by decide) (cok2 trivial trivial) ?_
            refine x_store1 [2, 3, 4] hF s4 (by kernel_rfl) (gyes_none rfl) (j := 0) (v := i64v (nth l2 (u + 1))) rfl Try.sizeOf3 rfl rfl rfl (lc_scalar rfl) (by rw [List.length_map]; omega) trivial trivial rfl rfl (F' := [(d, .cells true ((l2.set u (nth l2 (u + 1))).map i64v) 1)]) (by simp only [set_map1]; rfl) (fun H5 s6 => ⟨?_, ?_⟩)
            · exact ⟨pend_yes rfl (gyes_none rfl) (q_mv (v := .slice (some ⟨d, 0, none⟩) n n) rfl) rfl (by decide) (cok1 trivial) rfl, pend_yes rfl (gyes_none rfl) (q_mv (v := .int .i64 ((u : Nat) : Int)) rfl) rfl (by decide) (cok1 trivial) rfl, pend_yes rfl (gyes_none rfl) (OpQ.cast (v' := .int .i64 ((u + 1 : Nat) : Int)) (q_int rfl rfl rfl) (congrArg _ ((i64_in (by omega)).trans (by first | rfl | omega | (push_cast; rfl))))) rfl (by decide) (cok2 trivial (cconst rfl)) rfl, trivial⟩
            refine dv (gyes_none rfl) (OpQ.cast (v' := .pointer (some ⟨d, u + 1, none⟩)) (q_index1 (i := (u + 1)) Try.underlying25 Try.sizeOf3 rfl rfl (by omega) (s6.rd (j := 0) rfl)) (by rw [Nat.zero_add])) rfl (by decide) (cok2 trivial trivial) ?_
            refine x_store1 [] hF s6 (by kernel_rfl) (gyes_none rfl) (j := 0) (v := i64v (nth l2 u)) rfl Try.sizeOf3 rfl rfl rfl (lc_scalar rfl) (by rw [List.length_map, List.length_set]; omega) trivial trivial rfl rfl (F' := [(d, .cells true (((l2.set u (nth l2 (u + 1))).set (u + 1) (nth l2 u)).map i64v) 1)]) (by simp only [set_map1]; rfl) (fun H7 s8 => ⟨?_, ?_⟩)
            · exact trivial
            refine ⟨_, Wk.refl _ _, ?_⟩
            show awp _ _ _ _ _ _ _
            refine awp_regs hF ?_
            refine dv (gyes_none rfl) (q_mv (v := .int .i64 ((u : Nat) : Int)) rfl) rfl (by decide) (cok1 trivial) ?_
            refine dv (gyes_none rfl) (OpQ.cast (v' := .int .i64 ((u + 1 : Nat) : Int)) (q_int rfl rfl rfl) (congrArg _ ((i64_in (by omega)).trans (by first | rfl | omega | (push_cast; rfl))))) rfl (by decide) (cok2 trivial (cconst rfl)) ?_
            refine dv (gyes_none rfl) (q_as (v := .int .i64 ((u + 1 : Nat) : Int)) rfl) rfl (by decide) (cok1 trivial) ?_
            refine ⟨_, Wk.U [(0, .slice (some ⟨d, 0, none⟩) n n), (1, .int .i64 ((a : Nat) : Int)), (2, .int .i64 ((m : Nat) : Int)), (3, .int .i64 ((b : Nat) : Int)), (4, .func (.func 23) #[] #[.pointer (some ⟨bn, 0, none⟩), .pointer (some ⟨bk, 0, none⟩)]), (10, .int .i64 ((i : Nat) : Int)), (13, .int .i64 (((u + 1) : Nat) : Int))] ⟨rfl, rfl, rfl, rfl, rfl, rfl, rfl, trivial⟩, ((u + 1), ((l2.set u (nth l2 (u + 1))).set (u + 1) (nth l2 u))), ⟨_, rfl, s8, ⟨sha_step hu.1 (by omega) (by omega), hu.2.step (by omega) (by omega) (by omega) (by omega) (by omega)⟩⟩, (by omega)⟩
          ·
            replace c4 := of_decide_eq_false c4
            refine ⟨_, Wk.refl _ _, ?_⟩
            show awp _ _ _ _ _ _ _
            refine awp_cond_f rfl ?_
            refine awp_exit_wk ?_
            refine ⟨_, Wk.refl _ _, ?_⟩
            show awp _ _ _ _ _ _ _
            refine awp_ret_wk ?_
            refine ⟨_, Wk.refl _ _, ?_⟩
            repeat (with_reducible first | refine then_ret ?_ | refine blk_ret ?_ | refine then_exit ?_ | refine blk_exit ?_ | refine blk_exit' (by decide) ?_ | refine blk_normal ?_ | refine then_normal ?_ | refine retq_ret ?_ | refine retq_normal ?_ | refine ng_normal ?_ | refine ng_ret ?_ | refine ng_exit ?_)
            refine ret_is (v := .tuple #[]) rfl .nil rfl ?_
            exact ⟨rfl, s4.kp, _, hu.2, sha_end hu.1 (by omega), s4.getj (j := 0) rfl⟩
  ·
    replace c1 := ne_of_beq_false c1
    refine ⟨_, Wk.refl _ _, ?_⟩
    show awp _ _ _ _ _ _ _
    refine awp_cond_f rfl ?_
    refine awp_skip_wk ?_
    refine ⟨_, Wk.refl _ _, ?_⟩
    show awp _ _ _ _ _ _ _
    refine awp_seq ?_
    refine awp_seq ?_
    refine awp_regs hF ?_
    refine dv (gyes_none rfl) (q_mv (v := .int .i64 ((b : Nat) : Int)) rfl) rfl (by decide) (cok1 trivial) ?_
    refine dv (gyes_none rfl) (q_mv (v := .int .i64 ((m : Nat) : Int)) rfl) rfl (by decide) (cok1 trivial) ?_
    refine dv (gyes_none rfl) (OpQ.cast (v' := .int .i64 ((b - m : Nat) : Int)) (q_int rfl rfl rfl) (congrArg _ ((i64_in (by omega)).trans (by omega)))) rfl (by decide) (cok2 trivial trivial) ?_
    refine dvb (gyes_none rfl) (q_int rfl rfl rfl) rfl (by decide) (cok2 trivial (cconst rfl)) (fun c5 => ?_) (fun c5 => ?_)
    ·
      replace c5 := eq_of_beq c5
      refine ⟨_, Wk.refl _ _, ?_⟩
      show awp _ _ _ _ _ _ _
      refine awp_cond_t rfl ?_
      refine awp_seq ?_
      refine awp_regs hF ?_
      refine dv (gyes_none rfl) (q_mv (v := .int .i64 ((a : Nat) : Int)) rfl) rfl (by decide) (cok1 trivial) ?_
      refine dv (gyes_none rfl) (q_as (v := .int .i64 ((a : Nat) : Int)) rfl) rfl (by decide) (cok1 trivial) ?_
      refine ⟨_, Wk.refl _ _, ?_⟩
      show awp _ _ _ _ _ _ _
      refine awp_seq ?_
      refine awp_regs hF ?_
      refine dv (gyes_none rfl) (q_mv (v := .int .i64 ((m : Nat) : Int)) rfl) rfl (by decide) (cok1 trivial) ?_
      refine dv (gyes_none rfl) (q_as (v := .int .i64 ((m : Nat) : Int)) rfl) rfl (by decide) (cok1 trivial) ?_
      refine ⟨_, Wk.refl _ _, ?_⟩
      show awp _ _ _ _ _ _ _
      refine awp_seq ?_
      refine awp_block ?_
      refine awp_wk (Wk.U [(0, .slice (some ⟨d, 0, none⟩) n n), (1, .int .i64 ((a : Nat) : Int)), (2, .int .i64 ((m : Nat) : Int)), (3, .int .i64 ((b : Nat) : Int)), (4, .func (.func 23) #[] #[.pointer (some ⟨bn, 0, none⟩), .pointer (some ⟨bk, 0, none⟩)]), (14, .int .i64 ((a : Nat) : Int)), (15, .int .i64 ((m : Nat) : Int))] ⟨rfl, rfl, rfl, rfl, rfl, rfl, rfl, trivial⟩) ?_
      refine awp_loop (fun ((i, j) : Nat × Nat) st => ∃ (H9 : AHeap), st = ⟨220, U [(0, .slice (some ⟨d, 0, none⟩) n n), (1, .int .i64 ((a : Nat) : Int)), (2, .int .i64 ((m : Nat) : Int)), (3, .int .i64 ((b : Nat) : Int)), (4, .func (.func 23) #[] #[.pointer (some ⟨bn, 0, none⟩), .pointer (some ⟨bk, 0, none⟩)]), (14, .int .i64 ((i : Nat) : Int)), (15, .int .i64 ((j : Nat) : Int))], [], H9⟩ ∧ St H0 ((· ∈ [d])) (Off H0 [d]) H9 [(d, .cells true (l.map i64v) 1)] ∧ (a ≤ i ∧ i ≤ j ∧ j ≤ m ∧ (∀ q, a ≤ q → q < i → ¬ (gkey names nb) (nth l m) < (gkey names nb) (nth l q)) ∧ (∀ q, j ≤ q → q < m → (gkey names nb) (nth l m) < (gkey names nb) (nth l q)))) (fun ((i, j) : Nat × Nat) => j - i) (x0 := (a, m)) ?h0 ?round
      case h0 =>
        exact ⟨_, rfl, s0, ⟨Nat.le_refl _, by omega, Nat.le_refl _, fun q q1 q2 => absurd q2 (by omega), fun q q1 q2 => absurd q2 (by omega)⟩⟩
      case round =>
        rintro ⟨i, j⟩ _ ⟨H9, rfl, s10, hq⟩
        dsimp only at *
        refine awp_seq ?_
        refine awp_seq ?_
        refine awp_regs hF ?_
        refine dv (gyes_none rfl) (q_mv (v := .int .i64 ((i : Nat) : Int)) rfl) rfl (by decide) (cok1 trivial) ?_
        refine dv (gyes_none rfl) (q_mv (v := .int .i64 ((j : Nat) : Int)) rfl) rfl (by decide) (cok1 trivial) ?_
        refine dvb (gyes_none rfl) (q_int rfl rfl rfl) rfl (by decide) (cok2 trivial trivial) (fun c6 => ?_) (fun c6 => ?_)
        ·
          replace c6 := of_decide_eq_true c6
          refine ⟨_, Wk.refl _ _, ?_⟩
          show awp _ _ _ _ _ _ _
          refine awp_cond_t rfl ?_
          refine awp_skip_wk ?_
          refine ⟨_, Wk.refl _ _, ?_⟩
          show awp _ _ _ _ _ _ _
          refine awp_block ?_
          refine awp_seq ?_
          refine awp_regs hF ?_
          refine dv (gyes_none rfl) (q_mv (v := .int .i64 ((i : Nat) : Int)) rfl) rfl (by decide) (cok1 trivial) ?_
          refine dv (gyes_none rfl) (q_mv (v := .int .i64 ((j : Nat) : Int)) rfl) rfl (by decide) (cok1 trivial) ?_
          refine dv (gyes_none rfl) (OpQ.cast (v' := .int .i64 ((i + j : Nat) : Int)) (q_int rfl rfl rfl) (congrArg _ ((i64_in (by omega)).trans (by first | rfl | omega | (push_cast; rfl))))) rfl (by decide) (cok2 trivial trivial) ?_
          refine dv (gyes_none rfl) (q_convin (a := ((i + j : Nat) : Int)) Try.underlying3 Try.underlying101 rfl (u64_in (by omega))) rfl (by decide) (cok1 trivial) ?_
          refine dv (gyes_none rfl) (OpQ.cast (v' := .int .u64 (((i + j) / 2 : Nat) : Int)) (q_shrN (a := (i + j)) (c := 1) rfl rfl (by show _ < 18446744073709551616; omega)) rfl) rfl (by decide) (cok2 trivial (cconst rfl)) ?_
          refine dv (gyes_none rfl) (q_convin (a := (((i + j) / 2 : Nat) : Int)) Try.underlying101 Try.underlying3 rfl (i64_in (by omega))) rfl (by decide) (cok1 trivial) ?_
          refine dv (gyes_none rfl) (q_as (v := .int .i64 (((i + j) / 2 : Nat) : Int)) rfl) rfl (by decide) (cok1 trivial) ?_
          refine ⟨_, Wk.refl _ _, ?_⟩
          show awp _ _ _ _ _ _ _
          refine awp_seq ?_
          refine awp_regt hF hM (by kernel_rfl) (by kernel_rfl) ?_
          refine dv (gyes_none rfl) (q_mv (v := .func (.func 23) #[] #[.pointer (some ⟨bn, 0, none⟩), .pointer (some ⟨bk, 0, none⟩)]) rfl) rfl (by decide) (cok1 trivial) ?_
          refine dv (gyes_none rfl) (q_mv (v := .slice (some ⟨d, 0, none⟩) n n) rfl) rfl (by decide) (cok1 trivial) ?_
          refine dv (gyes_none rfl) (q_mv (v := .int .i64 ((m : Nat) : Int)) rfl) rfl (by decide) (cok1 trivial) ?_
          refine dv (gyes_none rfl) (OpQ.cast (v' := .pointer (some ⟨d, m, none⟩)) (q_index1 (i := m) Try.underlying25 Try.sizeOf3 rfl rfl (by omega) (s10.rd (j := 0) rfl)) (by rw [Nat.zero_add])) rfl (by decide) (cok2 trivial trivial) ?_
          refine dv (gyes_none rfl) (q_load (v := i64v (nth l m)) Try.isAgg3 rfl (s10.rd (j := 0) rfl) (get_nth (w := 0) (by omega))) rfl (by decide) (cok1 trivial) ?_
          refine dv (gyes_none rfl) (q_mv (v := .slice (some ⟨d, 0, none⟩) n n) rfl) rfl (by decide) (cok1 trivial) ?_
          refine dv (gyes_none rfl) (q_mv (v := .int .i64 (((i + j) / 2 : Nat) : Int)) rfl) rfl (by decide) (cok1 trivial) ?_
          refine dv (gyes_none rfl) (OpQ.cast (v' := .pointer (some ⟨d, (i + j) / 2, none⟩)) (q_index1 (i := ((i + j) / 2)) Try.underlying25 Try.sizeOf3 rfl rfl (by omega) (s10.rd (j := 0) rfl)) (by rw [Nat.zero_add])) rfl (by decide) (cok2 trivial trivial) ?_
          refine dv (gyes_none rfl) (q_load (v := i64v (nth l ((i + j) / 2))) Try.isAgg3 rfl (s10.rd (j := 0) rfl) (get_nth (w := 0) (by omega))) rfl (by decide) (cok1 trivial) ?_
          refine dv (gyes_none rfl) (q_callv0 Try.call23 rfl rfl ((E.kp s10.kp).cmp (nth l m) (nth l ((i + j) / 2)) (lt_of_mem hlt (by omega)) (lt_of_mem hlt (by omega)))) rfl (by decide) (call_ok rfl) ?_
          refine dvb (gyes_none rfl) (q_int rfl rfl rfl) rfl (by decide) (cok2 trivial (cconst rfl)) (fun c7 => ?_) (fun c7 => ?_)
          ·
            replace c7 := of_decide_eq_true c7
            replace c7 := cmpN_lt.1 c7
            refine dv (gyes_none rfl) (q_not (b := true) rfl) rfl (by decide) (cok1 trivial) ?_
            refine ⟨_, Wk.refl _ _, ?_⟩
            show awp _ _ _ _ _ _ _
            refine awp_cond_f rfl ?_
            refine awp_regs hF ?_
            refine dv (gyes_none rfl) (q_mv (v := .int .i64 (((i + j) / 2 : Nat) : Int)) rfl) rfl (by decide) (cok1 trivial) ?_
            refine dv (gyes_none rfl) (q_as (v := .int .i64 (((i + j) / 2 : Nat) : Int)) rfl) rfl (by decide) (cok1 trivial) ?_
            refine ⟨_, Wk.U [(0, .slice (some ⟨d, 0, none⟩) n n), (1, .int .i64 ((a : Nat) : Int)), (2, .int .i64 ((m : Nat) : Int)), (3, .int .i64 ((b : Nat) : Int)), (4, .func (.func 23) #[] #[.pointer (some ⟨bn, 0, none⟩), .pointer (some ⟨bk, 0, none⟩)]), (14, .int .i64 ((i : Nat) : Int)), (15, .int .i64 ((((i + j) / 2) : Nat) : Int))] ⟨rfl, rfl, rfl, rfl, rfl, rfl, rfl, trivial⟩, (i, ((i + j) / 2)), ⟨_, rfl, s10, ⟨by dsimp only; omega, by dsimp only; omega, by dsimp only; omega, hq.2.2.2.1, fun q q1 q2 => Nat.lt_of_lt_of_le (by assumption) (hs.sl.le (p := (i + j) / 2) (q := q) (by omega) q1 q2)⟩⟩, (by omega)⟩
          ·
            replace c7 := of_decide_eq_false c7
            replace c7 := fun h => c7 (cmpN_lt.2 h)
            refine dv (gyes_none rfl) (q_not (b := false) rfl) rfl (by decide) (cok1 trivial) ?_
            refine ⟨_, Wk.refl _ _, ?_⟩
            show awp _ _ _ _ _ _ _
            refine awp_cond_t rfl ?_
            refine awp_regs hF ?_
            refine dv (gyes_none rfl) (q_mv (v := .int .i64 (((i + j) / 2 : Nat) : Int)) rfl) rfl (by decide) (cok1 trivial) ?_
            refine dv (gyes_none rfl) (OpQ.cast (v' := .int .i64 (((i + j) / 2 + 1 : Nat) : Int)) (q_int rfl rfl rfl) (congrArg _ ((i64_in (by omega)).trans (by first | rfl | omega | (push_cast; rfl))))) rfl (by decide) (cok2 trivial (cconst rfl)) ?_
            refine dv (gyes_none rfl) (q_as (v := .int .i64 (((i + j) / 2 + 1 : Nat) : Int)) rfl) rfl (by decide) (cok1 trivial) ?_
            refine ⟨_, Wk.U [(0, .slice (some ⟨d, 0, none⟩) n n), (1, .int .i64 ((a : Nat) : Int)), (2, .int .i64 ((m : Nat) : Int)), (3, .int .i64 ((b : Nat) : Int)), (4, .func (.func 23) #[] #[.pointer (some ⟨bn, 0, none⟩), .pointer (some ⟨bk, 0, none⟩)]), (14, .int .i64 ((((i + j) / 2 + 1) : Nat) : Int)), (15, .int .i64 ((j : Nat) : Int))] ⟨rfl, rfl, rfl, rfl, rfl, rfl, rfl, trivial⟩, (((i + j) / 2 + 1), j), ⟨_, rfl, s10, ⟨by dsimp only; omega, by dsimp only; omega, by dsimp only; omega, fun q q1 q2 h9 => absurd (Nat.lt_of_lt_of_le h9 (hs.sl.le (p := q) (q := (i + j) / 2) q1 (by dsimp only at q2; omega) (by omega))) (by assumption), hq.2.2.2.2⟩⟩, (by omega)⟩
        ·
          replace c6 := of_decide_eq_false c6
          refine ⟨_, Wk.refl _ _, ?_⟩
          show awp _ _ _ _ _ _ _
          refine awp_cond_f rfl ?_
          refine awp_exit_wk ?_
          refine ⟨_, Wk.refl _ _, ?_⟩
          show awp _ _ _ _ _ _ _
          refine awp_seq ?_
          refine awp_seq ?_
          refine awp_regs hF ?_
          refine dv (gyes_none rfl) (q_mv (v := .int .i64 ((m : Nat) : Int)) rfl) rfl (by decide) (cok1 trivial) ?_
          refine dv (gyes_none rfl) (q_as (v := .int .i64 ((m : Nat) : Int)) rfl) rfl (by decide) (cok1 trivial) ?_
          refine ⟨_, Wk.refl _ _, ?_⟩
          show awp _ _ _ _ _ _ _
          refine awp_block ?_
          have hij : i = j := by omega
          refine awp_wk (Wk.U [(0, .slice (some ⟨d, 0, none⟩) n n), (1, .int .i64 ((a : Nat) : Int)), (2, .int .i64 ((m : Nat) : Int)), (3, .int .i64 ((b : Nat) : Int)), (4, .func (.func 23) #[] #[.pointer (some ⟨bn, 0, none⟩), .pointer (some ⟨bk, 0, none⟩)]), (14, .int .i64 ((i : Nat) : Int)), (17, .int .i64 ((m : Nat) : Int))] ⟨rfl, rfl, rfl, rfl, rfl, rfl, rfl, trivial⟩) ?_
          refine awp_loop (fun ((u, l2) : Nat × (List Nat)) st => ∃ (H11 : AHeap), st = ⟨220, U [(0, .slice (some ⟨d, 0, none⟩) n n), (1, .int .i64 ((a : Nat) : Int)), (2, .int .i64 ((m : Nat) : Int)), (3, .int .i64 ((b : Nat) : Int)), (4, .func (.func 23) #[] #[.pointer (some ⟨bn, 0, none⟩), .pointer (some ⟨bk, 0, none⟩)]), (14, .int .i64 ((i : Nat) : Int)), (17, .int .i64 ((u : Nat) : Int))], [], H11⟩ ∧ St H0 ((· ∈ [d])) (Off H0 [d]) H11 [(d, .cells true (l2.map i64v) 1)] ∧ (ShB (gkey names nb) l2 a i b u ∧ Sw a b l l2)) (fun ((u, l2) : Nat × (List Nat)) => u) (x0 := (m, l)) ?h0 ?round
          case h0 =>
            exact ⟨_, rfl, s10, ⟨shb_start hs (by omega) (by omega) (by omega) hq.2.2.2.1 (by rw [hij]; exact hq.2.2.2.2), .refl⟩⟩
          case round =>
            rintro ⟨u, l2⟩ _ ⟨H11, rfl, s12, hu⟩
            dsimp only at *
            have hln : l2.length = n := hu.2.len.trans hn
            have hua := hu.1.ai
            have hui := hu.1.ik
            have huk := hu.1.kb
            refine awp_seq ?_
            refine awp_seq ?_
            refine awp_regs hF ?_
            refine dv (gyes_none rfl) (q_mv (v := .int .i64 ((u : Nat) : Int)) rfl) rfl (by decide) (cok1 trivial) ?_
            refine dv (gyes_none rfl) (q_mv (v := .int .i64 ((i : Nat) : Int)) rfl) rfl (by decide) (cok1 trivial) ?_
            refine dvb (gyes_none rfl) (q_int rfl rfl rfl) rfl (by decide) (cok2 trivial trivial) (fun c8 => ?_) (fun c8 => ?_)
            ·
              replace c8 := of_decide_eq_true c8
              refine ⟨_, Wk.refl _ _, ?_⟩
              show awp _ _ _ _ _ _ _
              refine awp_cond_t rfl ?_
              refine awp_skip_wk ?_
              refine ⟨_, Wk.refl _ _, ?_⟩
              show awp _ _ _ _ _ _ _
              refine awp_seq ?_
              refine awp_block ?_
              refine awp_regt hF hM (by kernel_rfl) (by kernel_rfl) ?_
              refine dv (gyes_none rfl) (q_mv (v := .slice (some ⟨d, 0, none⟩) n n) rfl) rfl (by decide) (cok1 trivial) ?_
              refine dv (gyes_none rfl) (q_mv (v := .int .i64 ((u : Nat) : Int)) rfl) rfl (by decide) (cok1 trivial) ?_
              refine dv (gyes_none rfl) (q_mv (v := .slice (some ⟨d, 0, none⟩) n n) rfl) rfl (by decide) (cok1 trivial) ?_
              refine dv (gyes_none rfl) (q_mv (v := .int .i64 ((u : Nat) : Int)) rfl) rfl (by decide) (cok1 trivial) ?_
              refine dv (gyes_none rfl) (OpQ.cast (v' := .int .i64 ((u - 1 : Nat) : Int)) (q_int rfl rfl rfl) (congrArg _ ((i64_in (by omega)).trans (by omega)))) rfl (by decide) (cok2 trivial (cconst rfl)) ?_
              refine dv (gyes_none rfl) (q_mv (v := .slice (some ⟨d, 0, none⟩) n n) rfl) rfl (by decide) (cok1 trivial) ?_
              refine dv (gyes_none rfl) (q_mv (v := .int .i64 ((u : Nat) : Int)) rfl) rfl (by decide) (cok1 trivial) ?_
              refine dv (gyes_none rfl) (OpQ.cast (v' := .int .i64 ((u - 1 : Nat) : Int)) (q_int rfl rfl rfl) (congrArg _ ((i64_in (by omega)).trans (by omega)))) rfl (by decide) (cok2 trivial (cconst rfl)) ?_
              refine dv (gyes_none rfl) (OpQ.cast (v' := .pointer (some ⟨d, u - 1, none⟩)) (q_index1 (i := (u - 1)) Try.underlying25 Try.sizeOf3 rfl rfl (by omega) (s12.rd (j := 0) rfl)) (by rw [Nat.zero_add])) rfl (by decide) (cok2 trivial trivial) ?_
              refine dv (gyes_none rfl) (q_load (v := i64v (nth l2 (u - 1))) Try.isAgg3 rfl (s12.rd (j := 0) rfl) (get_nth (w := 0) (by omega))) rfl (by decide) (cok1 trivial) ?_
              refine dv (gyes_none rfl) (q_mv (v := .slice (some ⟨d, 0, none⟩) n n) rfl) rfl (by decide) (cok1 trivial) ?_
              refine dv (gyes_none rfl) (q_mv (v := .int .i64 ((u : Nat) : Int)) rfl) rfl (by decide) (cok1 trivial) ?_
              refine dv (gyes_none rfl) (OpQ.cast (v' := .pointer (some ⟨d, u, none⟩)) (q_index1 (i := u) Try.underlying25 Try.sizeOf3 rfl rfl (by omega) (s12.rd (j := 0) rfl)) (by rw [Nat.zero_add])) rfl (by decide) (cok2 trivial trivial) ?_
              refine dv (gyes_none rfl) (q_load (v := i64v (nth l2 u)) Try.isAgg3 rfl (s12.rd (j := 0) rfl) (get_nth (w := 0) (by omega))) rfl (by decide) (cok1 trivial) ?_
              refine dv (gyes_none rfl) (OpQ.cast (v' := .pointer (some ⟨d, u, none⟩)) (q_index1 (i := u) Try.underlying25 Try.sizeOf3 rfl rfl (by omega) (s12.rd (j := 0) rfl)) (by rw [Nat.zero_add])) rfl (by decide) (cok2 trivial trivial) ?_
              refine x_store1 [2, 3, 4] hF s12 (by kernel_rfl) (gyes_none rfl) (j := 0) (v := i64v (nth l2 (u - 1))) rfl Try.sizeOf3 rfl rfl rfl (lc_scalar rfl) (by rw [List.length_map]; omega) trivial trivial rfl rfl (F' := [(d, .cells true ((l2.set u (nth l2 (u - 1))).map i64v) 1)]) (by simp only [set_map1]; rfl) (fun H13 s14 => ⟨?_, ?_⟩)
              · exact ⟨pend_yes rfl (gyes_none rfl) (q_mv (v := .slice (some ⟨d, 0, none⟩) n n) rfl) rfl (by decide) (cok1 trivial) rfl, pend_yes rfl (gyes_none rfl) (q_mv (v := .int .i64 ((u : Nat) : Int)) rfl) rfl (by decide) (cok1 trivial) rfl, pend_yes rfl (gyes_none rfl) (OpQ.cast (v' := .int .i64 ((u - 1 : Nat) : Int)) (q_int rfl rfl rfl) (congrArg _ ((i64_in (by omega)).trans (by omega)))) rfl (by decide) (cok2 trivial (cconst rfl)) rfl, trivial⟩
              refine dv (gyes_none rfl) (OpQ.cast (v' := .pointer (some ⟨d, u - 1, none⟩)) (q_index1 (i := (u - 1)) Try.underlying25 Try.sizeOf3 rfl rfl (by omega) (s14.rd (j := 0) rfl)) (by rw [Nat.zero_add])) rfl (by decide) (cok2 trivial trivial) ?_
              refine x_store1 [] hF s14 (by kernel_rfl) (gyes_none rfl) (j := 0) (v := i64v (nth l2 u)) rfl Try.sizeOf3 rfl rfl rfl (lc_scalar rfl) (by rw [List.length_map, List.length_set]; omega) trivial trivial rfl rfl (F' := [(d, .cells true (((l2.set u (nth l2 (u - 1))).set (u - 1) (nth l2 u)).map i64v) 1)]) (by simp only [set_map1]; rfl) (fun H15 s16 => ⟨?_, ?_⟩)
              · exact trivial
              refine ⟨_, Wk.refl _ _, ?_⟩
              show awp _ _ _ _ _ _ _
              refine awp_regs hF ?_
              refine dv (gyes_none rfl) (q_mv (v := .int .i64 ((u : Nat) : Int)) rfl) rfl (by decide) (cok1 trivial) ?_
              refine dv (gyes_none rfl) (OpQ.cast (v' := .int .i64 ((u - 1 : Nat) : Int)) (q_int rfl rfl rfl) (congrArg _ ((i64_in (by omega)).trans (by omega)))) rfl (by decide) (cok2 trivial (cconst rfl)) ?_
              refine dv (gyes_none rfl) (q_as (v := .int .i64 ((u - 1 : Nat) : Int)) rfl) rfl (by decide) (cok1 trivial) ?_
              refine ⟨_, Wk.U [(0, .slice (some ⟨d, 0, none⟩) n n), (1, .int .i64 ((a : Nat) : Int)), (2, .int .i64 ((m : Nat) : Int)), (3, .int .i64 ((b : Nat) : Int)), (4, .func (.func 23) #[] #[.pointer (some ⟨bn, 0, none⟩), .pointer (some ⟨bk, 0, none⟩)]), (14, .int .i64 ((i : Nat) : Int)), (17, .int .i64 (((u - 1) : Nat) : Int))] ⟨rfl, rfl, rfl, rfl, rfl, rfl, rfl, trivial⟩, ((u - 1), ((l2.set u (nth l2 (u - 1))).set (u - 1) (nth l2 u))), ⟨_, rfl, s16, ⟨shb_step hu.1 (by omega) (by omega), hu.2.step (by omega) (by omega) (by omega) (by omega) (by omega)⟩⟩, (by omega)⟩
            ·
              replace c8 := of_decide_eq_false c8
              refine ⟨_, Wk.refl _ _, ?_⟩
              show awp _ _ _ _ _ _ _
              refine awp_cond_f rfl ?_
              refine awp_exit_wk ?_
              refine ⟨_, Wk.refl _ _, ?_⟩
              show awp _ _ _ _ _ _ _
              refine awp_ret_wk ?_
              refine ⟨_, Wk.refl _ _, ?_⟩
              repeat (with_reducible first | refine then_ret ?_ | refine blk_ret ?_ | refine then_exit ?_ | refine blk_exit ?_ | refine blk_exit' (by decide) ?_ | refine blk_normal ?_ | refine then_normal ?_ | refine retq_ret ?_ | refine retq_normal ?_ | refine ng_normal ?_ | refine ng_ret ?_ | refine ng_exit ?_)
              refine ret_is (v := .tuple #[]) rfl .nil rfl ?_
              exact ⟨rfl, s12.kp, _, hu.2, shb_end hu.1 (by omega), s12.getj (j := 0) rfl⟩
    ·
      replace c5 := ne_of_beq_false c5
      refine ⟨_, Wk.refl _ _, ?_⟩
      show awp _ _ _ _ _ _ _
      refine awp_cond_f rfl ?_
      refine awp_skip_wk ?_
      refine ⟨_, Wk.refl _ _, ?_⟩
      show awp _ _ _ _ _ _ _
      refine awp_seq ?_
      refine awp_regs hF ?_
      refine dv (gyes_none rfl) (q_mv (v := .int .i64 ((a : Nat) : Int)) rfl) rfl (by decide) (cok1 trivial) ?_
      refine dv (gyes_none rfl) (q_mv (v := .int .i64 ((b : Nat) : Int)) rfl) rfl (by decide) (cok1 trivial) ?_
      refine dv (gyes_none rfl) (OpQ.cast (v' := .int .i64 ((a + b : Nat) : Int)) (q_int rfl rfl rfl) (congrArg _ ((i64_in (by omega)).trans (by first | rfl | omega | (push_cast; rfl))))) rfl (by decide) (cok2 trivial trivial) ?_
      refine dv (gyes_none rfl) (q_convin (a := ((a + b : Nat) : Int)) Try.underlying3 Try.underlying101 rfl (u64_in (by omega))) rfl (by decide) (cok1 trivial) ?_
      refine dv (gyes_none rfl) (OpQ.cast (v' := .int .u64 (((a + b) / 2 : Nat) : Int)) (q_shrN (a := (a + b)) (c := 1) rfl rfl (by show _ < 18446744073709551616; omega)) rfl) rfl (by decide) (cok2 trivial (cconst rfl)) ?_
      refine dv (gyes_none rfl) (q_convin (a := (((a + b) / 2 : Nat) : Int)) Try.underlying101 Try.underlying3 rfl (i64_in (by omega))) rfl (by decide) (cok1 trivial) ?_
      refine dv (gyes_none rfl) (q_as (v := .int .i64 (((a + b) / 2 : Nat) : Int)) rfl) rfl (by decide) (cok1 trivial) ?_
      refine ⟨_, Wk.refl _ _, ?_⟩
      show awp _ _ _ _ _ _ _
      refine awp_seq ?_
      refine awp_regs hF ?_
      refine dv (gyes_none rfl) (q_mv (v := .int .i64 (((a + b) / 2 : Nat) : Int)) rfl) rfl (by decide) (cok1 trivial) ?_
      refine dv (gyes_none rfl) (q_mv (v := .int .i64 ((m : Nat) : Int)) rfl) rfl (by decide) (cok1 trivial) ?_
      refine dv (gyes_none rfl) (OpQ.cast (v' := .int .i64 (((a + b) / 2 + m : Nat) : Int)) (q_int rfl rfl rfl) (congrArg _ ((i64_in (by omega)).trans (by first | rfl | omega | (push_cast; rfl))))) rfl (by decide) (cok2 trivial trivial) ?_
      refine dv (gyes_none rfl) (q_as (v := .int .i64 (((a + b) / 2 + m : Nat) : Int)) rfl) rfl (by decide) (cok1 trivial) ?_
      refine ⟨_, Wk.refl _ _, ?_⟩
      show awp _ _ _ _ _ _ _
      refine awp_seq ?_
      refine awp_regs hF ?_
      refine dv (gyes_none rfl) (q_as (v := .int .i64 0) rfl) rfl (by decide) (cok1 (cconst rfl)) ?_
      refine dv (gyes_none rfl) (q_as (v := .int .i64 0) rfl) rfl (by decide) (cok1 (cconst rfl)) ?_
      refine ⟨_, Wk.refl _ _, ?_⟩
      show awp _ _ _ _ _ _ _
      refine awp_join (fun st => ∃ (H17 : AHeap) (s : Nat) (r : Nat), st = ⟨220, U [(0, .slice (some ⟨d, 0, none⟩) n n), (1, .int .i64 ((a : Nat) : Int)), (2, .int .i64 ((m : Nat) : Int)), (3, .int .i64 ((b : Nat) : Int)), (4, .func (.func 23) #[] #[.pointer (some ⟨bn, 0, none⟩), .pointer (some ⟨bk, 0, none⟩)]), (18, .int .i64 (((a + b) / 2 : Nat) : Int)), (19, .int .i64 (((a + b) / 2 + m : Nat) : Int)), (20, .int .i64 ((s : Nat) : Int)), (21, .int .i64 ((r : Nat) : Int))], [], H17⟩ ∧ St H0 ((· ∈ [d])) (Off H0 [d]) H17 [(d, .cells true (l.map i64v) 1)] ∧ (s = lo0 a m b ∧ r = r0 a m b)) ?j1 ?j2
      case j1 =>
        refine awp_seq ?_
        refine awp_regs hF ?_
        refine dv (gyes_none rfl) (q_mv (v := .int .i64 ((m : Nat) : Int)) rfl) rfl (by decide) (cok1 trivial) ?_
        refine dv (gyes_none rfl) (q_mv (v := .int .i64 (((a + b) / 2 : Nat) : Int)) rfl) rfl (by decide) (cok1 trivial) ?_
        refine dvb (gyes_none rfl) (q_int rfl rfl rfl) rfl (by decide) (cok2 trivial trivial) (fun c9 => ?_) (fun c9 => ?_)
        ·
          replace c9 := of_decide_eq_true c9
          refine ⟨_, Wk.refl _ _, ?_⟩
          show awp _ _ _ _ _ _ _
          refine awp_cond_t rfl ?_
          refine awp_seq ?_
          refine awp_regs hF ?_
          refine dv (gyes_none rfl) (q_mv (v := .int .i64 (((a + b) / 2 + m : Nat) : Int)) rfl) rfl (by decide) (cok1 trivial) ?_
          refine dv (gyes_none rfl) (q_mv (v := .int .i64 ((b : Nat) : Int)) rfl) rfl (by decide) (cok1 trivial) ?_
          refine dv (gyes_none rfl) (OpQ.cast (v' := .int .i64 ((((a + b) / 2 + m) - b : Nat) : Int)) (q_int rfl rfl rfl) (congrArg _ ((i64_in (by omega)).trans (by omega)))) rfl (by decide) (cok2 trivial trivial) ?_
          refine dv (gyes_none rfl) (q_as (v := .int .i64 ((((a + b) / 2 + m) - b : Nat) : Int)) rfl) rfl (by decide) (cok1 trivial) ?_
          refine ⟨_, Wk.refl _ _, ?_⟩
          show awp _ _ _ _ _ _ _
          refine awp_regs hF ?_
          refine dv (gyes_none rfl) (q_mv (v := .int .i64 (((a + b) / 2 : Nat) : Int)) rfl) rfl (by decide) (cok1 trivial) ?_
          refine dv (gyes_none rfl) (q_as (v := .int .i64 (((a + b) / 2 : Nat) : Int)) rfl) rfl (by decide) (cok1 trivial) ?_
          exact ⟨_, Wk.U [(0, .slice (some ⟨d, 0, none⟩) n n), (1, .int .i64 ((a : Nat) : Int)), (2, .int .i64 ((m : Nat) : Int)), (3, .int .i64 ((b : Nat) : Int)), (4, .func (.func 23) #[] #[.pointer (some ⟨bn, 0, none⟩), .pointer (some ⟨bk, 0, none⟩)]), (18, .int .i64 (((a + b) / 2 : Nat) : Int)), (19, .int .i64 (((a + b) / 2 + m : Nat) : Int)), (20, .int .i64 (((((a + b) / 2 + m) - b) : Nat) : Int)), (21, .int .i64 ((((a + b) / 2) : Nat) : Int))] ⟨rfl, rfl, rfl, rfl, rfl, rfl, rfl, rfl, rfl, trivial⟩, ⟨_, (((a + b) / 2 + m) - b), ((a + b) / 2), rfl, s0, ⟨by unfold lo0; first | rw [if_pos (by omega)] | rw [if_neg (by omega)], by unfold r0; first | rw [if_pos (by omega)] | rw [if_neg (by omega)]⟩⟩⟩
        ·
          replace c9 := of_decide_eq_false c9
          refine ⟨_, Wk.refl _ _, ?_⟩
          show awp _ _ _ _ _ _ _
          refine awp_cond_f rfl ?_
          refine awp_seq ?_
          refine awp_regs hF ?_
          refine dv (gyes_none rfl) (q_mv (v := .int .i64 ((a : Nat) : Int)) rfl) rfl (by decide) (cok1 trivial) ?_
          refine dv (gyes_none rfl) (q_as (v := .int .i64 ((a : Nat) : Int)) rfl) rfl (by decide) (cok1 trivial) ?_
          refine ⟨_, Wk.refl _ _, ?_⟩
          show awp _ _ _ _ _ _ _
          refine awp_regs hF ?_
          refine dv (gyes_none rfl) (q_mv (v := .int .i64 ((m : Nat) : Int)) rfl) rfl (by decide) (cok1 trivial) ?_
          refine dv (gyes_none rfl) (q_as (v := .int .i64 ((m : Nat) : Int)) rfl) rfl (by decide) (cok1 trivial) ?_
          exact ⟨_, Wk.U [(0, .slice (some ⟨d, 0, none⟩) n n), (1, .int .i64 ((a : Nat) : Int)), (2, .int .i64 ((m : Nat) : Int)), (3, .int .i64 ((b : Nat) : Int)), (4, .func (.func 23) #[] #[.pointer (some ⟨bn, 0, none⟩), .pointer (some ⟨bk, 0, none⟩)]), (18, .int .i64 (((a + b) / 2 : Nat) : Int)), (19, .int .i64 (((a + b) / 2 + m : Nat) : Int)), (20, .int .i64 ((a : Nat) : Int)), (21, .int .i64 ((m : Nat) : Int))] ⟨rfl, rfl, rfl, rfl, rfl, rfl, rfl, rfl, rfl, trivial⟩, ⟨_, a, m, rfl, s0, ⟨by unfold lo0; first | rw [if_pos (by omega)] | rw [if_neg (by omega)], by unfold r0; first | rw [if_pos (by omega)] | rw [if_neg (by omega)]⟩⟩⟩
      case j2 =>
        rintro _ ⟨H17, s, r, rfl, s18, hsr⟩
        refine awp_seq ?_
        refine awp_regs hF ?_
        refine dv (gyes_none rfl) (q_mv (v := .int .i64 (((a + b) / 2 + m : Nat) : Int)) rfl) rfl (by decide) (cok1 trivial) ?_
        refine dv (gyes_none rfl) (OpQ.cast (v' := .int .i64 ((((a + b) / 2 + m) - 1 : Nat) : Int)) (q_int rfl rfl rfl) (congrArg _ ((i64_in (by omega)).trans (by omega)))) rfl (by decide) (cok2 trivial (cconst rfl)) ?_
        refine dv (gyes_none rfl) (q_as (v := .int .i64 ((((a + b) / 2 + m) - 1 : Nat) : Int)) rfl) rfl (by decide) (cok1 trivial) ?_
        refine ⟨_, Wk.refl _ _, ?_⟩
        show awp _ _ _ _ _ _ _
        refine awp_seq ?_
        refine awp_block ?_
        refine awp_wk (Wk.U [(0, .slice (some ⟨d, 0, none⟩) n n), (1, .int .i64 ((a : Nat) : Int)), (2, .int .i64 ((m : Nat) : Int)), (3, .int .i64 ((b : Nat) : Int)), (4, .func (.func 23) #[] #[.pointer (some ⟨bn, 0, none⟩), .pointer (some ⟨bk, 0, none⟩)]), (18, .int .i64 (((a + b) / 2 : Nat) : Int)), (19, .int .i64 (((a + b) / 2 + m : Nat) : Int)), (20, .int .i64 ((s : Nat) : Int)), (21, .int .i64 ((r : Nat) : Int)), (22, .int .i64 (((a + b) / 2 + m - 1 : Nat) : Int))] ⟨rfl, rfl, rfl, rfl, rfl, rfl, rfl, rfl, rfl, rfl, trivial⟩) ?_
        refine awp_loop (fun ((s2, r2) : Nat × Nat) st => ∃ (H19 : AHeap), st = ⟨220, U [(0, .slice (some ⟨d, 0, none⟩) n n), (1, .int .i64 ((a : Nat) : Int)), (2, .int .i64 ((m : Nat) : Int)), (3, .int .i64 ((b : Nat) : Int)), (4, .func (.func 23) #[] #[.pointer (some ⟨bn, 0, none⟩), .pointer (some ⟨bk, 0, none⟩)]), (18, .int .i64 (((a + b) / 2 : Nat) : Int)), (19, .int .i64 (((a + b) / 2 + m : Nat) : Int)), (20, .int .i64 ((s2 : Nat) : Int)), (21, .int .i64 ((r2 : Nat) : Int)), (22, .int .i64 (((a + b) / 2 + m - 1 : Nat) : Int))], [], H19⟩ ∧ St H0 ((· ∈ [d])) (Off H0 [d]) H19 [(d, .cells true (l.map i64v) 1)] ∧ (Srch (gkey names nb) l a m b s2 r2)) (fun ((s2, r2) : Nat × Nat) => r2 - s2) (x0 := (s, r)) ?h0 ?round
        case h0 =>
          exact ⟨_, rfl, s18, by rw [hsr.1, hsr.2]; exact srch_start hs⟩
        case round =>
          rintro ⟨s2, r2⟩ _ ⟨H19, rfl, s20, hq⟩
          dsimp only at *
          have hz0 := lo0_le hs.am hs.mb
          have hql := hq.lo
          have hqh := hq.hi
          have hqs := hq.sr
          refine awp_seq ?_
          refine awp_seq ?_
          refine awp_regs hF ?_
          refine dv (gyes_none rfl) (q_mv (v := .int .i64 ((s2 : Nat) : Int)) rfl) rfl (by decide) (cok1 trivial) ?_
          refine dv (gyes_none rfl) (q_mv (v := .int .i64 ((r2 : Nat) : Int)) rfl) rfl (by decide) (cok1 trivial) ?_
          refine dvb (gyes_none rfl) (q_int rfl rfl rfl) rfl (by decide) (cok2 trivial trivial) (fun c10 => ?_) (fun c10 => ?_)
          ·
            replace c10 := of_decide_eq_true c10
            refine ⟨_, Wk.refl _ _, ?_⟩
            show awp _ _ _ _ _ _ _
            refine awp_cond_t rfl ?_
            refine awp_skip_wk ?_
            refine ⟨_, Wk.refl _ _, ?_⟩
            show awp _ _ _ _ _ _ _
            refine awp_block ?_
            refine awp_seq ?_
            refine awp_regs hF ?_
            refine dv (gyes_none rfl) (q_mv (v := .int .i64 ((s2 : Nat) : Int)) rfl) rfl (by decide) (cok1 trivial) ?_
            refine dv (gyes_none rfl) (q_mv (v := .int .i64 ((r2 : Nat) : Int)) rfl) rfl (by decide) (cok1 trivial) ?_
            refine dv (gyes_none rfl) (OpQ.cast (v' := .int .i64 ((s2 + r2 : Nat) : Int)) (q_int rfl rfl rfl) (congrArg _ ((i64_in (by omega)).trans (by first | rfl | omega | (push_cast; rfl))))) rfl (by decide) (cok2 trivial trivial) ?_
            refine dv (gyes_none rfl) (q_convin (a := ((s2 + r2 : Nat) : Int)) Try.underlying3 Try.underlying101 rfl (u64_in (by omega))) rfl (by decide) (cok1 trivial) ?_
            refine dv (gyes_none rfl) (OpQ.cast (v' := .int .u64 (((s2 + r2) / 2 : Nat) : Int)) (q_shrN (a := (s2 + r2)) (c := 1) rfl rfl (by show _ < 18446744073709551616; omega)) rfl) rfl (by decide) (cok2 trivial (cconst rfl)) ?_
            refine dv (gyes_none rfl) (q_convin (a := (((s2 + r2) / 2 : Nat) : Int)) Try.underlying101 Try.underlying3 rfl (i64_in (by omega))) rfl (by decide) (cok1 trivial) ?_
            refine dv (gyes_none rfl) (q_as (v := .int .i64 (((s2 + r2) / 2 : Nat) : Int)) rfl) rfl (by decide) (cok1 trivial) ?_
            refine ⟨_, Wk.refl _ _, ?_⟩
            show awp _ _ _ _ _ _ _
            refine awp_seq ?_
            have e1 := c_in hs.am hs.mb (c := (s2 + r2) / 2) (by omega) (by omega)
            refine awp_regt hF hM (by kernel_rfl) (by kernel_rfl) ?_
            refine dv (gyes_none rfl) (q_mv (v := .func (.func 23) #[] #[.pointer (some ⟨bn, 0, none⟩), .pointer (some ⟨bk, 0, none⟩)]) rfl) rfl (by decide) (cok1 trivial) ?_
            refine dv (gyes_none rfl) (q_mv (v := .slice (some ⟨d, 0, none⟩) n n) rfl) rfl (by decide) (cok1 trivial) ?_
            refine dv (gyes_none rfl) (q_mv (v := .int .i64 (((a + b) / 2 + m - 1 : Nat) : Int)) rfl) rfl (by decide) (cok1 trivial) ?_
            refine dv (gyes_none rfl) (q_mv (v := .int .i64 (((s2 + r2) / 2 : Nat) : Int)) rfl) rfl (by decide) (cok1 trivial) ?_
            refine dv (gyes_none rfl) (OpQ.cast (v' := .int .i64 ((((a + b) / 2 + m - 1) - ((s2 + r2) / 2) : Nat) : Int)) (q_int rfl rfl rfl) (congrArg _ ((i64_in (by omega)).trans (by omega)))) rfl (by decide) (cok2 trivial trivial) ?_
            refine dv (gyes_none rfl) (OpQ.cast (v' := .pointer (some ⟨d, ((a + b) / 2 + m - 1) - ((s2 + r2) / 2), none⟩)) (q_index1 (i := (((a + b) / 2 + m - 1) - ((s2 + r2) / 2))) Try.underlying25 Try.sizeOf3 rfl rfl (by omega) (s20.rd (j := 0) rfl)) (by rw [Nat.zero_add])) rfl (by decide) (cok2 trivial trivial) ?_
            refine dv (gyes_none rfl) (q_load (v := i64v (nth l (((a + b) / 2 + m - 1) - ((s2 + r2) / 2)))) Try.isAgg3 rfl (s20.rd (j := 0) rfl) (get_nth (w := 0) (by omega))) rfl (by decide) (cok1 trivial) ?_
            refine dv (gyes_none rfl) (q_mv (v := .slice (some ⟨d, 0, none⟩) n n) rfl) rfl (by decide) (cok1 trivial) ?_
            refine dv (gyes_none rfl) (q_mv (v := .int .i64 (((s2 + r2) / 2 : Nat) : Int)) rfl) rfl (by decide) (cok1 trivial) ?_
            refine dv (gyes_none rfl) (OpQ.cast (v' := .pointer (some ⟨d, (s2 + r2) / 2, none⟩)) (q_index1 (i := ((s2 + r2) / 2)) Try.underlying25 Try.sizeOf3 rfl rfl (by omega) (s20.rd (j := 0) rfl)) (by rw [Nat.zero_add])) rfl (by decide) (cok2 trivial trivial) ?_
            refine dv (gyes_none rfl) (q_load (v := i64v (nth l ((s2 + r2) / 2))) Try.isAgg3 rfl (s20.rd (j := 0) rfl) (get_nth (w := 0) (by omega))) rfl (by decide) (cok1 trivial) ?_
            refine dv (gyes_none rfl) (q_callv0 Try.call23 rfl rfl ((E.kp s20.kp).cmp (nth l (((a + b) / 2 + m - 1) - ((s2 + r2) / 2))) (nth l ((s2 + r2) / 2)) (lt_of_mem hlt (by omega)) (lt_of_mem hlt (by omega)))) rfl (by decide) (call_ok rfl) ?_
            refine dvb (gyes_none rfl) (q_int rfl rfl rfl) rfl (by decide) (cok2 trivial (cconst rfl)) (fun c11 => ?_) (fun c11 => ?_)
            ·
              replace c11 := of_decide_eq_true c11
              replace c11 := cmpN_lt.1 c11
              refine dv (gyes_none rfl) (q_not (b := true) rfl) rfl (by decide) (cok1 trivial) ?_
              refine ⟨_, Wk.refl _ _, ?_⟩
              show awp _ _ _ _ _ _ _
              refine awp_cond_f rfl ?_
              refine awp_regs hF ?_
              refine dv (gyes_none rfl) (q_mv (v := .int .i64 (((s2 + r2) / 2 : Nat) : Int)) rfl) rfl (by decide) (cok1 trivial) ?_
              refine dv (gyes_none rfl) (q_as (v := .int .i64 (((s2 + r2) / 2 : Nat) : Int)) rfl) rfl (by decide) (cok1 trivial) ?_
              refine ⟨_, Wk.U [(0, .slice (some ⟨d, 0, none⟩) n n), (1, .int .i64 ((a : Nat) : Int)), (2, .int .i64 ((m : Nat) : Int)), (3, .int .i64 ((b : Nat) : Int)), (4, .func (.func 23) #[] #[.pointer (some ⟨bn, 0, none⟩), .pointer (some ⟨bk, 0, none⟩)]), (18, .int .i64 (((a + b) / 2 : Nat) : Int)), (19, .int .i64 (((a + b) / 2 + m : Nat) : Int)), (20, .int .i64 ((s2 : Nat) : Int)), (21, .int .i64 ((((s2 + r2) / 2) : Nat) : Int)), (22, .int .i64 (((a + b) / 2 + m - 1 : Nat) : Int))] ⟨rfl, rfl, rfl, rfl, rfl, rfl, rfl, rfl, rfl, rfl, trivial⟩, (s2, ((s2 + r2) / 2)), ⟨_, rfl, s20, srch_dn hs hq (c := (s2 + r2) / 2) (by omega) (by omega) (by assumption)⟩, (by omega)⟩
            ·
              replace c11 := of_decide_eq_false c11
              replace c11 := fun h => c11 (cmpN_lt.2 h)
              refine dv (gyes_none rfl) (q_not (b := false) rfl) rfl (by decide) (cok1 trivial) ?_
              refine ⟨_, Wk.refl _ _, ?_⟩
              show awp _ _ _ _ _ _ _
              refine awp_cond_t rfl ?_
              refine awp_regs hF ?_
              refine dv (gyes_none rfl) (q_mv (v := .int .i64 (((s2 + r2) / 2 : Nat) : Int)) rfl) rfl (by decide) (cok1 trivial) ?_
              refine dv (gyes_none rfl) (OpQ.cast (v' := .int .i64 (((s2 + r2) / 2 + 1 : Nat) : Int)) (q_int rfl rfl rfl) (congrArg _ ((i64_in (by omega)).trans (by first | rfl | omega | (push_cast; rfl))))) rfl (by decide) (cok2 trivial (cconst rfl)) ?_
              refine dv (gyes_none rfl) (q_as (v := .int .i64 (((s2 + r2) / 2 + 1 : Nat) : Int)) rfl) rfl (by decide) (cok1 trivial) ?_
              refine ⟨_, Wk.U [(0, .slice (some ⟨d, 0, none⟩) n n), (1, .int .i64 ((a : Nat) : Int)), (2, .int .i64 ((m : Nat) : Int)), (3, .int .i64 ((b : Nat) : Int)), (4, .func (.func 23) #[] #[.pointer (some ⟨bn, 0, none⟩), .pointer (some ⟨bk, 0, none⟩)]), (18, .int .i64 (((a + b) / 2 : Nat) : Int)), (19, .int .i64 (((a + b) / 2 + m : Nat) : Int)), (20, .int .i64 ((((s2 + r2) / 2 + 1) : Nat) : Int)), (21, .int .i64 ((r2 : Nat) : Int)), (22, .int .i64 (((a + b) / 2 + m - 1 : Nat) : Int))] ⟨rfl, rfl, rfl, rfl, rfl, rfl, rfl, rfl, rfl, rfl, trivial⟩, (((s2 + r2) / 2 + 1), r2), ⟨_, rfl, s20, srch_up hs hq (c := (s2 + r2) / 2) (by omega) (by omega) (by assumption)⟩, (by omega)⟩
          ·
            replace c10 := of_decide_eq_false c10
            refine ⟨_, Wk.refl _ _, ?_⟩
            show awp _ _ _ _ _ _ _
            refine awp_cond_f rfl ?_
            refine awp_exit_wk ?_
            refine ⟨_, Wk.refl _ _, ?_⟩
            show awp _ _ _ _ _ _ _
            refine awp_seq ?_
            have hcut := srch_end hs hq (by omega)
            have hz1 := hcut.asl
            have hz2 := hcut.sm
            have hz3 := hcut.me
            have hz4 := hcut.eb
            refine awp_regs hF ?_
            refine dv (gyes_none rfl) (q_mv (v := .int .i64 (((a + b) / 2 + m : Nat) : Int)) rfl) rfl (by decide) (cok1 trivial) ?_
            refine dv (gyes_none rfl) (q_mv (v := .int .i64 ((s2 : Nat) : Int)) rfl) rfl (by decide) (cok1 trivial) ?_
            refine dv (gyes_none rfl) (OpQ.cast (v' := .int .i64 ((((a + b) / 2 + m) - s2 : Nat) : Int)) (q_int rfl rfl rfl) (congrArg _ ((i64_in (by omega)).trans (by omega)))) rfl (by decide) (cok2 trivial trivial) ?_
            refine dv (gyes_none rfl) (q_as (v := .int .i64 ((((a + b) / 2 + m) - s2 : Nat) : Int)) rfl) rfl (by decide) (cok1 trivial) ?_
            refine ⟨_, Wk.refl _ _, ?_⟩
            show awp _ _ _ _ _ _ _
            refine awp_join (fun st => ∃ (H21 : AHeap) (l2 : List Nat), st = ⟨220, U [(0, .slice (some ⟨d, 0, none⟩) n n), (1, .int .i64 ((a : Nat) : Int)), (2, .int .i64 ((m : Nat) : Int)), (3, .int .i64 ((b : Nat) : Int)), (4, .func (.func 23) #[] #[.pointer (some ⟨bn, 0, none⟩), .pointer (some ⟨bk, 0, none⟩)]), (18, .int .i64 (((a + b) / 2 : Nat) : Int)), (20, .int .i64 ((s2 : Nat) : Int)), (24, .int .i64 (((a + b) / 2 + m - s2 : Nat) : Int))], [], H21⟩ ∧ St H0 ((· ∈ [d])) (Off H0 [d]) H21 [(d, .cells true (l2.map i64v) 1)] ∧ (Rot (gkey names nb) l l2 a m b s2 ((a + b) / 2 + m - s2))) ?j1 ?j2
            case j1 =>
              refine awp_seq ?_
              refine awp_regs hF ?_
              refine dv (gyes_none rfl) (q_mv (v := .int .i64 ((s2 : Nat) : Int)) rfl) rfl (by decide) (cok1 trivial) ?_
              refine dv (gyes_none rfl) (q_mv (v := .int .i64 ((m : Nat) : Int)) rfl) rfl (by decide) (cok1 trivial) ?_
              refine dvb (gyes_none rfl) (q_int rfl rfl rfl) rfl (by decide) (cok2 trivial trivial) (fun c12 => ?_) (fun c12 => ?_)
              ·
                replace c12 := of_decide_eq_true c12
                refine dv (gyes_none rfl) (q_mv (v := .bool true) rfl) rfl (by decide) (cok1 trivial) ?_
                refine dv (gyes_some rfl rfl) (q_mv (v := .int .i64 ((m : Nat) : Int)) rfl) rfl (by decide) (cok1 trivial) ?_
                refine dv (gyes_some rfl rfl) (q_mv (v := .int .i64 ((((a + b) / 2 + m) - s2 : Nat) : Int)) rfl) rfl (by decide) (cok1 trivial) ?_
                refine dvb (gyes_some rfl rfl) (q_int rfl rfl rfl) rfl (by decide) (cok2 trivial trivial) (fun c13 => ?_) (fun c13 => ?_)
                ·
                  replace c13 := of_decide_eq_true c13
                  refine dv (gyes_none rfl) (q_pt (v := .bool true) rfl rfl) rfl (by decide) (call_ok rfl) ?_
                  refine ⟨_, Wk.refl _ _, ?_⟩
                  show awp _ _ _ _ _ _ _
                  refine awp_cond_t rfl ?_
                  refine awp_regs hF ?_
                  refine dv (gyes_none rfl) (q_mv (v := .slice (some ⟨d, 0, none⟩) n n) rfl) rfl (by decide) (cok1 trivial) ?_
                  refine dv (gyes_none rfl) (q_mv (v := .int .i64 ((s2 : Nat) : Int)) rfl) rfl (by decide) (cok1 trivial) ?_
                  refine dv (gyes_none rfl) (q_mv (v := .int .i64 ((m : Nat) : Int)) rfl) rfl (by decide) (cok1 trivial) ?_
                  refine dv (gyes_none rfl) (q_mv (v := .int .i64 ((((a + b) / 2 + m) - s2 : Nat) : Int)) rfl) rfl (by decide) (cok1 trivial) ?_
                  refine dv (gyes_none rfl) (q_mv (v := .func (.func 23) #[] #[.pointer (some ⟨bn, 0, none⟩), .pointer (some ⟨bk, 0, none⟩)]) rfl) rfl (by decide) (cok1 trivial) ?_
                  refine x_call [] hF (by kernel_rfl) (gyes_none rfl) Try.call56 rfl (args := [.slice (some ⟨d, 0, none⟩) n n, .int .i64 ((s2 : Nat) : Int), .int .i64 ((m : Nat) : Int), .int .i64 ((((a + b) / 2 + m) - s2 : Nat) : Int), .func (.func 23) #[] #[.pointer (some ⟨bn, 0, none⟩), .pointer (some ⟨bk, 0, none⟩)]]) rfl (rotate_ok n d bn bk nb vN names (E.kp s20.kp) l hn hn2 (s20.getj (j := 0) rfl) hl s2 m ((a + b) / 2 + m - s2) (by omega) (by omega) (by omega)) (show _ < _ by decide) (call_ok rfl) rfl rfl (fun _ _ _ _ hd => by cases hd) ?_
                  rintro _ H23 ⟨rfl, hk24, l27, hsw28, hse29, h25⟩
                  have s26 := s20.turn1 (j := 0) rfl hk24 h25
                  refine ⟨trivial, ?_⟩
                  show dList _ _ _ _ _ _ _ _ _ _
                  exact ⟨_, Wk.U [(0, .slice (some ⟨d, 0, none⟩) n n), (1, .int .i64 ((a : Nat) : Int)), (2, .int .i64 ((m : Nat) : Int)), (3, .int .i64 ((b : Nat) : Int)), (4, .func (.func 23) #[] #[.pointer (some ⟨bn, 0, none⟩), .pointer (some ⟨bk, 0, none⟩)]), (18, .int .i64 (((a + b) / 2 : Nat) : Int)), (20, .int .i64 ((s2 : Nat) : Int)), (24, .int .i64 (((a + b) / 2 + m - s2 : Nat) : Int))] ⟨rfl, rfl, rfl, rfl, rfl, rfl, rfl, rfl, trivial⟩, ⟨_, l27, rfl, s26, ⟨hs, hcut, hsw28.mono (by omega) (by omega) (by omega), hse29⟩⟩⟩
                ·
                  replace c13 := of_decide_eq_false c13
                  refine dv (gyes_none rfl) (q_pt (v := .bool false) rfl rfl) rfl (by decide) (call_ok rfl) ?_
                  refine ⟨_, Wk.refl _ _, ?_⟩
                  show awp _ _ _ _ _ _ _
                  refine awp_cond_f rfl ?_
                  refine awp_skip_wk ?_
                  exact ⟨_, Wk.U [(0, .slice (some ⟨d, 0, none⟩) n n), (1, .int .i64 ((a : Nat) : Int)), (2, .int .i64 ((m : Nat) : Int)), (3, .int .i64 ((b : Nat) : Int)), (4, .func (.func 23) #[] #[.pointer (some ⟨bn, 0, none⟩), .pointer (some ⟨bk, 0, none⟩)]), (18, .int .i64 (((a + b) / 2 : Nat) : Int)), (20, .int .i64 ((s2 : Nat) : Int)), (24, .int .i64 (((a + b) / 2 + m - s2 : Nat) : Int))] ⟨rfl, rfl, rfl, rfl, rfl, rfl, rfl, rfl, trivial⟩, ⟨_, l, rfl, s20, ⟨hs, hcut, .refl, fun t => rot_id hcut.sm hcut.me (by omega) t⟩⟩⟩
              ·
                replace c12 := of_decide_eq_false c12
                refine dv (gyes_none rfl) (q_mv (v := .bool false) rfl) rfl (by decide) (cok1 trivial) ?_
                refine dno rfl (.inl rfl) rfl (by decide) ?_
                refine dno rfl (.inl rfl) rfl (by decide) ?_
                refine dno rfl (.inl rfl) rfl (by decide) ?_
                refine dv (gyes_none rfl) (q_pf (v := .bool false) rfl rfl) rfl (by decide) (call_ok rfl) ?_
                refine ⟨_, Wk.refl _ _, ?_⟩
                show awp _ _ _ _ _ _ _
                refine awp_cond_f rfl ?_
                refine awp_skip_wk ?_
                exact ⟨_, Wk.U [(0, .slice (some ⟨d, 0, none⟩) n n), (1, .int .i64 ((a : Nat) : Int)), (2, .int .i64 ((m : Nat) : Int)), (3, .int .i64 ((b : Nat) : Int)), (4, .func (.func 23) #[] #[.pointer (some ⟨bn, 0, none⟩), .pointer (some ⟨bk, 0, none⟩)]), (18, .int .i64 (((a + b) / 2 : Nat) : Int)), (20, .int .i64 ((s2 : Nat) : Int)), (24, .int .i64 (((a + b) / 2 + m - s2 : Nat) : Int))] ⟨rfl, rfl, rfl, rfl, rfl, rfl, rfl, rfl, trivial⟩, ⟨_, l, rfl, s20, ⟨hs, hcut, .refl, fun t => rot_id hcut.sm hcut.me (by omega) t⟩⟩⟩
            case j2 =>
              rintro _ ⟨H21, l2, rfl, s22, hr⟩
              refine awp_join (fun st => ∃ (H30 : AHeap) (l3 : List Nat), st = ⟨220, U [(0, .slice (some ⟨d, 0, none⟩) n n), (1, .int .i64 ((a : Nat) : Int)), (2, .int .i64 ((m : Nat) : Int)), (3, .int .i64 ((b : Nat) : Int)), (4, .func (.func 23) #[] #[.pointer (some ⟨bn, 0, none⟩), .pointer (some ⟨bk, 0, none⟩)]), (18, .int .i64 (((a + b) / 2 : Nat) : Int)), (20, .int .i64 ((s2 : Nat) : Int)), (24, .int .i64 (((a + b) / 2 + m - s2 : Nat) : Int))], [], H30⟩ ∧ St H0 ((· ∈ [d])) (Off H0 [d]) H30 [(d, .cells true (l3.map i64v) 1)] ∧ (Sw a ((a + b) / 2) l2 l3 ∧ Srt (gkey names nb) l3 a ((a + b) / 2))) ?j1 ?j2
              case j1 =>
                refine awp_seq ?_
                have hln2 : l2.length = n := hr.sw.len.trans hn
                have hlt2 := hr.sw.lt hl
                have hbd := hr.bnd
                refine awp_regs hF ?_
                refine dv (gyes_none rfl) (q_mv (v := .int .i64 ((a : Nat) : Int)) rfl) rfl (by decide) (cok1 trivial) ?_
                refine dv (gyes_none rfl) (q_mv (v := .int .i64 ((s2 : Nat) : Int)) rfl) rfl (by decide) (cok1 trivial) ?_
                refine dvb (gyes_none rfl) (q_int rfl rfl rfl) rfl (by decide) (cok2 trivial trivial) (fun c14 => ?_) (fun c14 => ?_)
                ·
                  replace c14 := of_decide_eq_true c14
                  refine dv (gyes_none rfl) (q_mv (v := .bool true) rfl) rfl (by decide) (cok1 trivial) ?_
                  refine dv (gyes_some rfl rfl) (q_mv (v := .int .i64 ((s2 : Nat) : Int)) rfl) rfl (by decide) (cok1 trivial) ?_
                  refine dv (gyes_some rfl rfl) (q_mv (v := .int .i64 (((a + b) / 2 : Nat) : Int)) rfl) rfl (by decide) (cok1 trivial) ?_
                  refine dvb (gyes_some rfl rfl) (q_int rfl rfl rfl) rfl (by decide) (cok2 trivial trivial) (fun c15 => ?_) (fun c15 => ?_)
                  ·
                    replace c15 := of_decide_eq_true c15
                    refine dv (gyes_none rfl) (q_pt (v := .bool true) rfl rfl) rfl (by decide) (call_ok rfl) ?_
                    refine ⟨_, Wk.refl _ _, ?_⟩
                    show awp _ _ _ _ _ _ _
                    refine awp_cond_t rfl ?_
                    refine awp_regs hF ?_
                    refine dv (gyes_none rfl) (q_mv (v := .slice (some ⟨d, 0, none⟩) n n) rfl) rfl (by decide) (cok1 trivial) ?_
                    refine dv (gyes_none rfl) (q_mv (v := .int .i64 ((a : Nat) : Int)) rfl) rfl (by decide) (cok1 trivial) ?_
                    refine dv (gyes_none rfl) (q_mv (v := .int .i64 ((s2 : Nat) : Int)) rfl) rfl (by decide) (cok1 trivial) ?_
                    refine dv (gyes_none rfl) (q_mv (v := .int .i64 (((a + b) / 2 : Nat) : Int)) rfl) rfl (by decide) (cok1 trivial) ?_
                    refine dv (gyes_none rfl) (q_mv (v := .func (.func 23) #[] #[.pointer (some ⟨bn, 0, none⟩), .pointer (some ⟨bk, 0, none⟩)]) rfl) rfl (by decide) (cok1 trivial) ?_
                    refine x_call [] hF (by kernel_rfl) (gyes_none rfl) Try.call52 rfl (args := [.slice (some ⟨d, 0, none⟩) n n, .int .i64 ((a : Nat) : Int), .int .i64 ((s2 : Nat) : Int), .int .i64 (((a + b) / 2 : Nat) : Int), .func (.func 23) #[] #[.pointer (some ⟨bn, 0, none⟩), .pointer (some ⟨bk, 0, none⟩)]]) rfl (ih n d bn bk nb vN names (E.kp s22.kp) l2 hln2 hn2 (s22.getj (j := 0) rfl) hlt2 a s2 ((a + b) / 2) (hr.left ⟨by omega, by omega⟩) (by omega)) (show _ < _ by decide) (call_ok rfl) rfl rfl (fun _ _ _ _ hd => by cases hd) ?_
                    rintro _ H32 ⟨rfl, hk33, l36, hsw37, hso38, h34⟩
                    have s35 := s22.turn1 (j := 0) rfl hk33 h34
                    refine ⟨trivial, ?_⟩
                    show dList _ _ _ _ _ _ _ _ _ _
                    exact ⟨_, Wk.U [(0, .slice (some ⟨d, 0, none⟩) n n), (1, .int .i64 ((a : Nat) : Int)), (2, .int .i64 ((m : Nat) : Int)), (3, .int .i64 ((b : Nat) : Int)), (4, .func (.func 23) #[] #[.pointer (some ⟨bn, 0, none⟩), .pointer (some ⟨bk, 0, none⟩)]), (18, .int .i64 (((a + b) / 2 : Nat) : Int)), (20, .int .i64 ((s2 : Nat) : Int)), (24, .int .i64 (((a + b) / 2 + m - s2 : Nat) : Int))] ⟨rfl, rfl, rfl, rfl, rfl, rfl, rfl, rfl, trivial⟩, ⟨_, l36, rfl, s35, ⟨hsw37, hso38⟩⟩⟩
                  ·
                    replace c15 := of_decide_eq_false c15
                    refine dv (gyes_none rfl) (q_pt (v := .bool false) rfl rfl) rfl (by decide) (call_ok rfl) ?_
                    refine ⟨_, Wk.refl _ _, ?_⟩
                    show awp _ _ _ _ _ _ _
                    refine awp_cond_f rfl ?_
                    refine awp_skip_wk ?_
                    exact ⟨_, Wk.U [(0, .slice (some ⟨d, 0, none⟩) n n), (1, .int .i64 ((a : Nat) : Int)), (2, .int .i64 ((m : Nat) : Int)), (3, .int .i64 ((b : Nat) : Int)), (4, .func (.func 23) #[] #[.pointer (some ⟨bn, 0, none⟩), .pointer (some ⟨bk, 0, none⟩)]), (18, .int .i64 (((a + b) / 2 : Nat) : Int)), (20, .int .i64 ((s2 : Nat) : Int)), (24, .int .i64 (((a + b) / 2 + m - s2 : Nat) : Int))] ⟨rfl, rfl, rfl, rfl, rfl, rfl, rfl, rfl, trivial⟩, ⟨_, l2, rfl, s22, ⟨.refl, hr.left0 (by omega)⟩⟩⟩
                ·
                  replace c14 := of_decide_eq_false c14
                  refine dv (gyes_none rfl) (q_mv (v := .bool false) rfl) rfl (by decide) (cok1 trivial) ?_
                  refine dno rfl (.inl rfl) rfl (by decide) ?_
                  refine dno rfl (.inl rfl) rfl (by decide) ?_
                  refine dno rfl (.inl rfl) rfl (by decide) ?_
                  refine dv (gyes_none rfl) (q_pf (v := .bool false) rfl rfl) rfl (by decide) (call_ok rfl) ?_
                  refine ⟨_, Wk.refl _ _, ?_⟩
                  show awp _ _ _ _ _ _ _
                  refine awp_cond_f rfl ?_
                  refine awp_skip_wk ?_
                  exact ⟨_, Wk.U [(0, .slice (some ⟨d, 0, none⟩) n n), (1, .int .i64 ((a : Nat) : Int)), (2, .int .i64 ((m : Nat) : Int)), (3, .int .i64 ((b : Nat) : Int)), (4, .func (.func 23) #[] #[.pointer (some ⟨bn, 0, none⟩), .pointer (some ⟨bk, 0, none⟩)]), (18, .int .i64 (((a + b) / 2 : Nat) : Int)), (20, .int .i64 ((s2 : Nat) : Int)), (24, .int .i64 (((a + b) / 2 + m - s2 : Nat) : Int))] ⟨rfl, rfl, rfl, rfl, rfl, rfl, rfl, rfl, trivial⟩, ⟨_, l2, rfl, s22, ⟨.refl, hr.left0 (by omega)⟩⟩⟩
              case j2 =>
                rintro _ ⟨H30, l3, rfl, s31, h3⟩
                refine awp_seq ?_
                have hln2 : l2.length = n := hr.sw.len.trans hn
                have hlt2 := hr.sw.lt hl
                have hbd := hr.bnd
                have hln3 : l3.length = n := h3.1.len.trans hln2
                have hlt3 := h3.1.lt hlt2
                refine awp_regs hF ?_
                refine dv (gyes_none rfl) (q_mv (v := .int .i64 (((a + b) / 2 : Nat) : Int)) rfl) rfl (by decide) (cok1 trivial) ?_
                refine dv (gyes_none rfl) (q_mv (v := .int .i64 (((a + b) / 2 + m - s2 : Nat) : Int)) rfl) rfl (by decide) (cok1 trivial) ?_
                refine dvb (gyes_none rfl) (q_int rfl rfl rfl) rfl (by decide) (cok2 trivial trivial) (fun c16 => ?_) (fun c16 => ?_)
                ·
                  replace c16 := of_decide_eq_true c16
                  refine dv (gyes_none rfl) (q_mv (v := .bool true) rfl) rfl (by decide) (cok1 trivial) ?_
                  refine dv (gyes_some rfl rfl) (q_mv (v := .int .i64 (((a + b) / 2 + m - s2 : Nat) : Int)) rfl) rfl (by decide) (cok1 trivial) ?_
                  refine dv (gyes_some rfl rfl) (q_mv (v := .int .i64 ((b : Nat) : Int)) rfl) rfl (by decide) (cok1 trivial) ?_
                  refine dvb (gyes_some rfl rfl) (q_int rfl rfl rfl) rfl (by decide) (cok2 trivial trivial) (fun c17 => ?_) (fun c17 => ?_)
                  ·
                    replace c17 := of_decide_eq_true c17
                    refine dv (gyes_none rfl) (q_pt (v := .bool true) rfl rfl) rfl (by decide) (call_ok rfl) ?_
                    refine ⟨_, Wk.refl _ _, ?_⟩
                    show awp _ _ _ _ _ _ _
                    refine awp_cond_t rfl ?_
                    refine awp_regs hF ?_
                    refine dv (gyes_none rfl) (q_mv (v := .slice (some ⟨d, 0, none⟩) n n) rfl) rfl (by decide) (cok1 trivial) ?_
                    refine dv (gyes_none rfl) (q_mv (v := .int .i64 (((a + b) / 2 : Nat) : Int)) rfl) rfl (by decide) (cok1 trivial) ?_
                    refine dv (gyes_none rfl) (q_mv (v := .int .i64 (((a + b) / 2 + m - s2 : Nat) : Int)) rfl) rfl (by decide) (cok1 trivial) ?_
                    refine dv (gyes_none rfl) (q_mv (v := .int .i64 ((b : Nat) : Int)) rfl) rfl (by decide) (cok1 trivial) ?_
                    refine dv (gyes_none rfl) (q_mv (v := .func (.func 23) #[] #[.pointer (some ⟨bn, 0, none⟩), .pointer (some ⟨bk, 0, none⟩)]) rfl) rfl (by decide) (cok1 trivial) ?_
                    refine x_call [] hF (by kernel_rfl) (gyes_none rfl) Try.call52 rfl (args := [.slice (some ⟨d, 0, none⟩) n n, .int .i64 (((a + b) / 2 : Nat) : Int), .int .i64 (((a + b) / 2 + m - s2 : Nat) : Int), .int .i64 ((b : Nat) : Int), .func (.func 23) #[] #[.pointer (some ⟨bn, 0, none⟩), .pointer (some ⟨bk, 0, none⟩)]]) rfl (ih n d bn bk nb vN names (E.kp s31.kp) l3 hln3 hn2 (s31.getj (j := 0) rfl) hlt3 ((a + b) / 2) ((a + b) / 2 + m - s2) b (hr.right ⟨by omega, by omega⟩ h3.1) (by omega)) (show _ < _ by decide) (call_ok rfl) rfl rfl (fun _ _ _ _ hd => by cases hd) ?_
                    rintro _ H39 ⟨rfl, hk40, l43, hsw44, hso45, h41⟩
                    have s42 := s31.turn1 (j := 0) rfl hk40 h41
                    refine ⟨trivial, ?_⟩
                    show dList _ _ _ _ _ _ _ _ _ _
                    obtain ⟨hw1, hw2⟩ := hr.all h3.1 h3.2 hsw44 hso45
                    refine ⟨_, Wk.refl _ _, ?_⟩
                    repeat (with_reducible first | refine then_ret ?_ | refine blk_ret ?_ | refine then_exit ?_ | refine blk_exit ?_ | refine blk_exit' (by decide) ?_ | refine blk_normal ?_ | refine then_normal ?_ | refine retq_ret ?_ | refine retq_normal ?_ | refine ng_normal ?_ | refine ng_ret ?_ | refine ng_exit ?_)
                    refine ret_is (v := .tuple #[]) rfl .nil rfl ?_
                    exact ⟨rfl, s42.kp, _, hw1, hw2, s42.getj (j := 0) rfl⟩
                  ·
                    replace c17 := of_decide_eq_false c17
                    refine dv (gyes_none rfl) (q_pt (v := .bool false) rfl rfl) rfl (by decide) (call_ok rfl) ?_
                    refine ⟨_, Wk.refl _ _, ?_⟩
                    show awp _ _ _ _ _ _ _
                    refine awp_cond_f rfl ?_
                    refine awp_skip_wk ?_
                    obtain ⟨hw1, hw2⟩ := hr.all h3.1 h3.2 .refl (hr.right0 (by omega) h3.1)
                    refine ⟨_, Wk.refl _ _, ?_⟩
                    repeat (with_reducible first | refine then_ret ?_ | refine blk_ret ?_ | refine then_exit ?_ | refine blk_exit ?_ | refine blk_exit' (by decide) ?_ | refine blk_normal ?_ | refine then_normal ?_ | refine retq_ret ?_ | refine retq_normal ?_ | refine ng_normal ?_ | refine ng_ret ?_ | refine ng_exit ?_)
                    refine ret_is (v := .tuple #[]) rfl .nil rfl ?_
                    exact ⟨rfl, s31.kp, _, hw1, hw2, s31.getj (j := 0) rfl⟩
                ·
                  replace c16 := of_decide_eq_false c16
                  refine dv (gyes_none rfl) (q_mv (v := .bool false) rfl) rfl (by decide) (cok1 trivial) ?_
                  refine dno rfl (.inl rfl) rfl (by decide) ?_
                  refine dno rfl (.inl rfl) rfl (by decide) ?_
                  refine dno rfl (.inl rfl) rfl (by decide) ?_
                  refine dv (gyes_none rfl) (q_pf (v := .bool false) rfl rfl) rfl (by decide) (call_ok rfl) ?_
                  refine ⟨_, Wk.refl _ _, ?_⟩
                  show awp _ _ _ _ _ _ _
                  refine awp_cond_f rfl ?_
                  refine awp_skip_wk ?_
                  obtain ⟨hw1, hw2⟩ := hr.all h3.1 h3.2 .refl (hr.right0 (by omega) h3.1)
                  refine ⟨_, Wk.refl _ _, ?_⟩
                  repeat (with_reducible first | refine then_ret ?_ | refine blk_ret ?_ | refine then_exit ?_ | refine blk_exit ?_ | refine blk_exit' (by decide) ?_ | refine blk_normal ?_ | refine then_normal ?_ | refine retq_ret ?_ | refine retq_normal ?_ | refine ng_normal ?_ | refine ng_ret ?_ | refine ng_exit ?_)
                  refine ret_is (v := .tuple #[]) rfl .nil rfl ?_
                  exact ⟨rfl, s31.kp, _, hw1, hw2, s31.getj (j := 0) rfl⟩
theorem sym_ok : ∀ k, SymOk k
  | 0 => fun n d bn bk nb vN names E l hn hn2 hd hl a m b hs hk => by have := hs.am; have := hs.mb; omega
  | k + 1 => fun n d bn bk nb vN names E l hn hn2 hd hl a m b hs hk => sym_step k (sym_ok k) n d bn bk nb vN names E l hn hn2 hd hl a m b hs hk

end Go.Proofs.YtponfeigjmjbmaaA


/-
  Walks of functions of the given program, and what they compute.
-/
namespace Go.Proofs.YtponfeigjmjbmaaA
set_option linter.unusedVariables false
open Go Go.RowKit Go.Shelf Go.Proofs
structure Blk (key : Nat → Nat) (n c : Nat) (l0 l : List Nat) : Prop where
  len : l.length = n
  cn : 20 * c ≤ n
  a1 : 1 ≤ c → Srt key l 0 20 ∧ ∀ p, p < 20 → nth l p < 20
  a2 : 2 ≤ c → Srt key l 20 40
  rest : ∀ p, 20 * c ≤ p → p < n → nth l p = p
  sec : ∀ p, 20 ≤ p → p < n → 20 ≤ nth l p
  sw : Sw 0 n l0 l
structure End (key : Nat → Nat) (n : Nat) (l0 l : List Nat) : Prop where
  sw : Sw 0 n l0 l
  one : n ≤ 20 → Srt key l 0 n
  sm : 20 < n → SM key l 0 20 n
section
variable {key : Nat → Nat} {n c : Nat} {l0 l l' : List Nat}
theorem blk_start (hn : l0.length = n) (h0 : ∀ p, p < n → nth l0 p = p) : Blk key n 0 l0 l0 :=
  ⟨hn, by omega, fun h => absurd h (by omega), fun h => absurd h (by omega), fun p _ h => h0 p h, fun p h1 h2 => by rw [h0 p h2]; exact h1, .refl⟩
theorem blk_step (h : Blk key n c l0 l) (hc : 20 * c + 20 ≤ n) (hn : n ≤ 40) (hw : Sw (20 * c) (20 * c + 20) l l') (hs : Srt key l' (20 * c) (20 * c + 20)) : Blk key n (c + 1) l0 l' := by
  have hl := h.len
  have hr : ∀ p, 20 * (c + 1) ≤ p → p < n → nth l' p = p := fun p h1 h2 => by rw [hw.out (.inr (by omega))]; exact h.rest p (by omega) h2
  have hll : l'.length = n := hw.len.trans hl
  have hsw : Sw 0 n l0 l' := h.sw.trans (hw.mono (by omega) hc (by omega))
  rcases (show c = 0 ∨ c = 1 by omega) with rfl | rfl
  · refine ⟨hll, by omega, fun _ => ⟨hs, ?_⟩, fun h => absurd h (by omega), hr, fun p h1 h2 => ?_, hsw⟩
    · intro p hp
      exact hw.all (P := fun x => x < 20) (fun k k1 k2 => by rw [h.rest k (by omega) (by omega)]; omega) p (by omega) (by omega)
    · rw [hr p (by omega) h2]; exact h1
  · refine ⟨hll, by omega, fun _ => ⟨(h.a1 (Nat.le_refl _)).1.same fun k k1 k2 => hw.out (.inl (by omega)), fun p hp => by rw [hw.out (.inl (by omega))]; exact (h.a1 (Nat.le_refl _)).2 p hp⟩, fun _ => hs, hr, ?_, hsw⟩
    intro p h1 h2
    by_cases e : p < 40
    · exact hw.all (P := fun x => 20 ≤ x) (fun k k1 k2 => h.sec k (by omega) (by omega)) p (by omega) (by omega)
    · omega
theorem blk_last (h : Blk key n c l0 l) (hc : n < 20 * c + 20) (hc2 : c ≤ 2) (hn : n ≤ 40) (hw : Sw (20 * c) n l l') (hs : Srt key l' (20 * c) n) : End key n l0 l' := by
  have hcn := h.cn
  have hl := h.len
  have hll : l'.length = n := hw.len.trans hl
  have hsw : Sw 0 n l0 l' := h.sw.trans (hw.mono (by omega) (Nat.le_refl _) (by omega))
  have hsec : ∀ p, 20 ≤ p → p < n → 20 ≤ nth l' p := fun p h1 h2 => by
    by_cases e : p < 20 * c
    · rw [hw.out (.inl e)]; exact h.sec p h1 h2
    · rcases (show c = 0 ∨ 1 ≤ c by omega) with rfl | hc
      · omega
      · exact hw.all (P := fun x => 20 ≤ x) (fun k k1 k2 => h.sec k (by omega) (by omega)) p (by omega) h2
  have hfst : 1 ≤ c → Srt key l' 0 20 ∧ ∀ p, p < 20 → nth l' p < 20 := fun hc => ⟨(h.a1 hc).1.same fun k k1 k2 => hw.out (.inl (by omega)), fun p hp => by rw [hw.out (.inl (by omega))]; exact (h.a1 hc).2 p hp⟩
  refine ⟨hsw, fun h1 => ?_, fun h1 => ?_⟩
  · rcases (show c = 0 ∨ 1 ≤ c by omega) with rfl | hc
    · exact hs
    · exact (hfst hc).1.sub (Nat.le_refl _) h1
  · have hc1 : 1 ≤ c := by omega
    refine ⟨by omega, h1, by omega, (hfst hc1).1, ?_, fun p q q1 q2 q3 q4 => ?_⟩
    · rcases (show c = 1 ∨ c = 2 by omega) with rfl | rfl
      · exact hs
      · exact ((h.a2 (by omega)).same fun k k1 k2 => hw.out (.inl (by omega))).sub (Nat.le_refl _) hn
    · have := (hfst hc1).2 p q2
      have := hsec q q3 q4
      omega
end
set_option maxRecDepth 100000 in
set_option maxHeartbeats 4000000 in
theorem stable_ok {H0 : AHeap} (n d bn bk nb : Nat) (vN : Value) (names : List ByteArray) (E : SEnv H0 d bn bk nb vN names) (l : List Nat) (hn : l.length = n) (hn2 : n ≤ 1000) (hd : H0[d]? = some (.cells true (l.map i64v) 1)) (hl : ∀ x ∈ l, x < names.length) (hn40 : n ≤ 40) (h0 : ∀ p, p < n → nth l p = p) : ACalls Try.prog 39 [.slice (some ⟨d, 0, none⟩) n n, .int .i64 ((n : Nat) : Int), .func (.func 23) #[] #[.pointer (some ⟨bn, 0, none⟩), .pointer (some ⟨bk, 0, none⟩)]] H0 (fun v H' => v = .tuple #[] ∧ Kp (· ∈ [d]) H0 H' ∧ ∃ l', Sw 0 n l l' ∧ Srt (gkey names nb) l' 0 n ∧ H'[d]? = some (.cells true (l'.map i64v) 1)) := by
  have hF : Wd Fence.wide := .inl rfl
  have hM : Try.prog.follows .mixedOrders = true := by kernel_rfl
  have s0 : St H0 (· ∈ [d]) (Off H0 [d]) H0 [(d, .cells true (l.map i64v) 1)] := St.beginL [(d, .cells true (l.map i64v) 1)] (by simp) (allAt_mem ⟨hd, trivial⟩)
  refine acalls_st Try.func39 rfl Try.ntmps39 rfl ?_
  refine awp_seq ?_
  refine awp_regs hF ?_
  refine dv (gyes_none rfl) (q_as (v := .int .i64 20) rfl) rfl (by decide) (cok1 (cconst rfl)) ?_
  refine ⟨_, Wk.refl _ _, ?_⟩
  show awp _ _ _ _ _ _ _
  refine awp_seq ?_
  refine awp_regs hF ?_
  refine dv (gyes_none rfl) (q_mv (v := .int .i64 20) rfl) rfl (by decide) (cok1 trivial) ?_
  refine dv (gyes_none rfl) (q_as (v := .int .i64 0) rfl) rfl (by decide) (cok1 (cconst rfl)) ?_
  refine dv (gyes_none rfl) (q_as (v := .int .i64 20) rfl) rfl (by decide) (cok1 trivial) ?_
  refine ⟨_, Wk.refl _ _, ?_⟩
  show awp _ _ _ _ _ _ _
  refine awp_seq ?_
  refine awp_block ?_
  refine awp_wk (Wk.U [(0, .slice (some ⟨d, 0, none⟩) n n), (1, .int .i64 ((n : Nat) : Int)), (2, .func (.func 23) #[] #[.pointer (some ⟨bn, 0, none⟩), .pointer (some ⟨bk, 0, none⟩)]), (6, .int .i64 20), (7, .int .i64 ((20 * 0 : Nat) : Int)), (8, .int .i64 ((20 * 0 + 20 : Nat) : Int))] ⟨rfl, rfl, rfl, rfl, rfl, rfl, trivial⟩) ?_
  refine awp_loop (fun ((c, l2) : Nat × (List Nat)) st => ∃ (H1 : AHeap), st = ⟨63, U [(0, .slice (some ⟨d, 0, none⟩) n n), (1, .int .i64 ((n : Nat) : Int)), (2, .func (.func 23) #[] #[.pointer (some ⟨bn, 0, none⟩), .pointer (some ⟨bk, 0, none⟩)]), (6, .int .i64 20), (7, .int .i64 ((20 * c : Nat) : Int)), (8, .int .i64 ((20 * c + 20 : Nat) : Int))], [], H1⟩ ∧ St H0 ((· ∈ [d])) (Off H0 [d]) H1 [(d, .cells true (l2.map i64v) 1)] ∧ (Blk (gkey names nb) n c l l2)) (fun ((c, l2) : Nat × (List Nat)) => n - 20 * c) (x0 := (0, l)) ?h0 ?round
  case h0 =>
    exact ⟨_, rfl, s0, blk_start hn h0⟩
  case round =>
    rintro ⟨c, l2⟩ _ ⟨H1, rfl, s2, hb⟩
    dsimp only at *
    have hln : l2.length = n := hb.sw.len.trans hn
    have hlt := hb.sw.lt hl
    have hcn := hb.cn
    refine awp_seq ?_
    refine awp_seq ?_
    refine awp_regs hF ?_
    refine dv (gyes_none rfl) (q_mv (v := .int .i64 ((20 * c + 20 : Nat) : Int)) rfl) rfl (by decide) (cok1 trivial) ?_
    refine dv (gyes_none rfl) (q_mv (v := .int .i64 ((n : Nat) : Int)) rfl) rfl (by decide) (cok1 trivial) ?_
    refine dvb (gyes_none rfl) (q_int rfl rfl rfl) rfl (by decide) (cok2 trivial trivial) (fun c1 => ?_) (fun c1 => ?_)
    ·
      replace c1 := of_decide_eq_true c1
      refine ⟨_, Wk.refl _ _, ?_⟩
      show awp _ _ _ _ _ _ _
      refine awp_cond_t rfl ?_
      refine awp_skip_wk ?_
      refine ⟨_, Wk.refl _ _, ?_⟩
      show awp _ _ _ _ _ _ _
      refine awp_block ?_
      refine awp_seq ?_
      refine awp_regs hF ?_
      refine dv (gyes_none rfl) (q_mv (v := .slice (some ⟨d, 0, none⟩) n n) rfl) rfl (by decide) (cok1 trivial) ?_
      refine dv (gyes_none rfl) (q_mv (v := .int .i64 ((20 * c : Nat) : Int)) rfl) rfl (by decide) (cok1 trivial) ?_
      refine dv (gyes_none rfl) (q_mv (v := .int .i64 ((20 * c + 20 : Nat) : Int)) rfl) rfl (by decide) (cok1 trivial) ?_
      refine dv (gyes_none rfl) (q_mv (v := .func (.func 23) #[] #[.pointer (some ⟨bn, 0, none⟩), .pointer (some ⟨bk, 0, none⟩)]) rfl) rfl (by decide) (cok1 trivial) ?_
      refine x_call [] hF (by kernel_rfl) (gyes_none rfl) Try.call51 rfl (args := [.slice (some ⟨d, 0, none⟩) n n, .int .i64 ((20 * c : Nat) : Int), .int .i64 ((20 * c + 20 : Nat) : Int), .func (.func 23) #[] #[.pointer (some ⟨bn, 0, none⟩), .pointer (some ⟨bk, 0, none⟩)]]) rfl (insertion_ok n d bn bk nb vN names (E.kp s2.kp) l2 hln hn2 (s2.getj (j := 0) rfl) hlt (20 * c) (20 * c + 20) (by omega) (by omega) (fun p q h1 h2 h3 => by rw [hb.rest p h1 (by omega), hb.rest q (by omega) (by omega)]; exact h2)) (show _ < _ by decide) (call_ok rfl) rfl rfl (fun _ _ _ _ hd => by cases hd) ?_
      rintro _ H3 ⟨rfl, hk4, l7, hsw8, hso9, h5⟩
      have s6 := s2.turn1 (j := 0) rfl hk4 h5
      refine ⟨trivial, ?_⟩
      show dList _ _ _ _ _ _ _ _ _ _
      refine ⟨_, Wk.refl _ _, ?_⟩
      show awp _ _ _ _ _ _ _
      refine awp_seq ?_
      refine awp_regs hF ?_
      refine dv (gyes_none rfl) (q_mv (v := .int .i64 ((20 * c + 20 : Nat) : Int)) rfl) rfl (by decide) (cok1 trivial) ?_
      refine dv (gyes_none rfl) (q_as (v := .int .i64 ((20 * c + 20 : Nat) : Int)) rfl) rfl (by decide) (cok1 trivial) ?_
      refine ⟨_, Wk.refl _ _, ?_⟩
      show awp _ _ _ _ _ _ _
      refine awp_regs hF ?_
      refine dv (gyes_none rfl) (q_mv (v := .int .i64 ((20 * c + 20 : Nat) : Int)) rfl) rfl (by decide) (cok1 trivial) ?_
      refine dv (gyes_none rfl) (q_mv (v := .int .i64 20) rfl) rfl (by decide) (cok1 trivial) ?_
      refine dv (gyes_none rfl) (OpQ.cast (v' := .int .i64 ((20 * c + 20 + 20 : Nat) : Int)) (q_int rfl rfl rfl) (congrArg _ ((i64_in (by omega)).trans (by first | rfl | omega | (push_cast; rfl))))) rfl (by decide) (cok2 trivial trivial) ?_
      refine dv (gyes_none rfl) (q_as (v := .int .i64 ((20 * c + 20 + 20 : Nat) : Int)) rfl) rfl (by decide) (cok1 trivial) ?_
      refine ⟨_, Wk.U [(0, .slice (some ⟨d, 0, none⟩) n n), (1, .int .i64 ((n : Nat) : Int)), (2, .func (.func 23) #[] #[.pointer (some ⟨bn, 0, none⟩), .pointer (some ⟨bk, 0, none⟩)]), (6, .int .i64 20), (7, .int .i64 ((20 * (c + 1) : Nat) : Int)), (8, .int .i64 ((20 * (c + 1) + 20 : Nat) : Int))] ⟨rfl, rfl, rfl, rfl, rfl, rfl, trivial⟩, ((c + 1), l7), ⟨_, rfl, s6, blk_step hb (by omega) hn40 hsw8 hso9⟩, (by omega)⟩
    ·
      replace c1 := of_decide_eq_false c1
      refine ⟨_, Wk.refl _ _, ?_⟩
      show awp _ _ _ _ _ _ _
      refine awp_cond_f rfl ?_
      refine awp_exit_wk ?_
      refine ⟨_, Wk.refl _ _, ?_⟩
      show awp _ _ _ _ _ _ _
      refine awp_seq ?_
      refine awp_regs hF ?_
      refine dv (gyes_none rfl) (q_mv (v := .slice (some ⟨d, 0, none⟩) n n) rfl) rfl (by decide) (cok1 trivial) ?_
      refine dv (gyes_none rfl) (q_mv (v := .int .i64 ((20 * c : Nat) : Int)) rfl) rfl (by decide) (cok1 trivial) ?_
      refine dv (gyes_none rfl) (q_mv (v := .int .i64 ((n : Nat) : Int)) rfl) rfl (by decide) (cok1 trivial) ?_
      refine dv (gyes_none rfl) (q_mv (v := .func (.func 23) #[] #[.pointer (some ⟨bn, 0, none⟩), .pointer (some ⟨bk, 0, none⟩)]) rfl) rfl (by decide) (cok1 trivial) ?_
      refine x_call [] hF (by kernel_rfl) (gyes_none rfl) Try.call51 rfl (args := [.slice (some ⟨d, 0, none⟩) n n, .int .i64 ((20 * c : Nat) : Int), .int .i64 ((n : Nat) : Int), .func (.func 23) #[] #[.pointer (some ⟨bn, 0, none⟩), .pointer (some ⟨bk, 0, none⟩)]]) rfl (insertion_ok n d bn bk nb vN names (E.kp s2.kp) l2 hln hn2 (s2.getj (j := 0) rfl) hlt (20 * c) n (by omega) (by omega) (fun p q h1 h2 h3 => by rw [hb.rest p h1 (by omega), hb.rest q (by omega) (by omega)]; exact h2)) (show _ < _ by decide) (call_ok rfl) rfl rfl (fun _ _ _ _ hd => by cases hd) ?_
      rintro _ H10 ⟨rfl, hk11, l14, hsw15, hso16, h12⟩
      have s13 := s2.turn1 (j := 0) rfl hk11 h12
      refine ⟨trivial, ?_⟩
      show dList _ _ _ _ _ _ _ _ _ _
      refine ⟨_, Wk.refl _ _, ?_⟩
      show awp _ _ _ _ _ _ _
      refine awp_block ?_
      have hend : End (gkey names nb) n l l14 := blk_last hb (by omega) (by omega) hn40 hsw15 hso16
      refine awp_wk (Wk.U [(0, .slice (some ⟨d, 0, none⟩) n n), (1, .int .i64 ((n : Nat) : Int)), (2, .func (.func 23) #[] #[.pointer (some ⟨bn, 0, none⟩), .pointer (some ⟨bk, 0, none⟩)]), (6, .int .i64 20)] ⟨rfl, rfl, rfl, rfl, trivial⟩) ?_
      refine awp_loop (fun ((bs, l3) : Nat × (List Nat)) st => ∃ (H17 : AHeap), st = ⟨63, U [(0, .slice (some ⟨d, 0, none⟩) n n), (1, .int .i64 ((n : Nat) : Int)), (2, .func (.func 23) #[] #[.pointer (some ⟨bn, 0, none⟩), .pointer (some ⟨bk, 0, none⟩)]), (6, .int .i64 ((bs : Nat) : Int))], [], H17⟩ ∧ St H0 ((· ∈ [d])) (Off H0 [d]) H17 [(d, .cells true (l3.map i64v) 1)] ∧ ((bs = 20 ∧ End (gkey names nb) n l l3) ∨ (bs = 40 ∧ Sw 0 n l l3 ∧ Srt (gkey names nb) l3 0 n))) (fun ((bs, l3) : Nat × (List Nat)) => n - bs) (x0 := (20, l14)) ?h0 ?round
      case h0 =>
        exact ⟨_, rfl, s13, .inl ⟨rfl, hend⟩⟩
      case round =>
        rintro ⟨bs, l3⟩ _ ⟨H17, rfl, s18, hm⟩
        dsimp only at *
        have hln3 : l3.length = n := by rcases hm with h | h; exact h.2.sw.len.trans hn; exact h.2.1.len.trans hn
        have hlt3 : ∀ x ∈ l3, x < names.length := by rcases hm with h | h; exact h.2.sw.lt hl; exact h.2.1.lt hl
        refine awp_seq ?_
        refine awp_seq ?_
        refine awp_regs hF ?_
        refine dv (gyes_none rfl) (q_mv (v := .int .i64 ((bs : Nat) : Int)) rfl) rfl (by decide) (cok1 trivial) ?_
        refine dv (gyes_none rfl) (q_mv (v := .int .i64 ((n : Nat) : Int)) rfl) rfl (by decide) (cok1 trivial) ?_
        refine dvb (gyes_none rfl) (q_int rfl rfl rfl) rfl (by decide) (cok2 trivial trivial) (fun c2 => ?_) (fun c2 => ?_)
        ·
          replace c2 := of_decide_eq_true c2
          refine ⟨_, Wk.refl _ _, ?_⟩
          show awp _ _ _ _ _ _ _
          refine awp_cond_t rfl ?_
          refine awp_skip_wk ?_
          refine ⟨_, Wk.refl _ _, ?_⟩
          show awp _ _ _ _ _ _ _
          refine awp_block ?_
          refine awp_seq ?_
          refine awp_regs hF ?_
          refine dv (gyes_none rfl) (q_mv (v := .int .i64 ((bs : Nat) : Int)) rfl) rfl (by decide) (cok1 trivial) ?_
          refine dv (gyes_none rfl) (OpQ.cast (v' := .int .i64 ((2 * bs : Nat) : Int)) (q_int rfl rfl rfl) (congrArg _ ((i64_in (by omega)).trans (by first | rfl | omega | (push_cast; rfl))))) rfl (by decide) (cok2 (cconst rfl) trivial) ?_
          refine dv (gyes_none rfl) (q_as (v := .int .i64 0) rfl) rfl (by decide) (cok1 (cconst rfl)) ?_
          refine dv (gyes_none rfl) (q_as (v := .int .i64 ((2 * bs : Nat) : Int)) rfl) rfl (by decide) (cok1 trivial) ?_
          refine ⟨_, Wk.refl _ _, ?_⟩
          show awp _ _ _ _ _ _ _
          refine awp_seq ?_
          refine awp_block ?_
          have hbs : bs = 20 ∧ End (gkey names nb) n l l3 := by rcases hm with h | h; exact h; exact absurd h.1 (by omega)
          have hE := hbs.2
          have hsm := hE.sm (by omega)
          refine awp_wk (Wk.U [(0, .slice (some ⟨d, 0, none⟩) n n), (1, .int .i64 ((n : Nat) : Int)), (2, .func (.func 23) #[] #[.pointer (some ⟨bn, 0, none⟩), .pointer (some ⟨bk, 0, none⟩)]), (6, .int .i64 ((bs : Nat) : Int)), (7, .int .i64 0), (8, .int .i64 (((2 * bs) : Nat) : Int))] ⟨rfl, rfl, rfl, rfl, rfl, rfl, trivial⟩) ?_
          refine awp_loop (fun ((a, b, l4) : Nat × Nat × (List Nat)) st => ∃ (H19 : AHeap), st = ⟨63, U [(0, .slice (some ⟨d, 0, none⟩) n n), (1, .int .i64 ((n : Nat) : Int)), (2, .func (.func 23) #[] #[.pointer (some ⟨bn, 0, none⟩), .pointer (some ⟨bk, 0, none⟩)]), (6, .int .i64 ((bs : Nat) : Int)), (7, .int .i64 ((a : Nat) : Int)), (8, .int .i64 ((b : Nat) : Int))], [], H19⟩ ∧ St H0 ((· ∈ [d])) (Off H0 [d]) H19 [(d, .cells true (l4.map i64v) 1)] ∧ ((a = 0 ∧ b = 40 ∧ l4 = l3) ∨ (a = 40 ∧ b = 80 ∧ n = 40 ∧ Sw 0 n l l4 ∧ Srt (gkey names nb) l4 0 n))) (fun ((a, b, l4) : Nat × Nat × (List Nat)) => 80 - b) (x0 := (0, (2 * bs), l3)) ?h0 ?round
          case h0 =>
            exact ⟨_, rfl, s18, .inl ⟨rfl, by omega, rfl⟩⟩
          case round =>
            rintro ⟨a, b, l4⟩ _ ⟨H19, rfl, s20, hi4⟩
            dsimp only at *
            refine awp_seq ?_
            refine awp_seq ?_
            refine awp_regs hF ?_
            refine dv (gyes_none rfl) (q_mv (v := .int .i64 ((b : Nat) : Int)) rfl) rfl (by decide) (cok1 trivial) ?_
            refine dv (gyes_none rfl) (q_mv (v := .int .i64 ((n : Nat) : Int)) rfl) rfl (by decide) (cok1 trivial) ?_
            refine dvb (gyes_none rfl) (q_int rfl rfl rfl) rfl (by decide) (cok2 trivial trivial) (fun c3 => ?_) (fun c3 => ?_)
            ·
              replace c3 := of_decide_eq_true c3
              refine ⟨_, Wk.refl _ _, ?_⟩
              show awp _ _ _ _ _ _ _
              refine awp_cond_t rfl ?_
              refine awp_skip_wk ?_
              refine ⟨_, Wk.refl _ _, ?_⟩
              show awp _ _ _ _ _ _ _
              refine awp_block ?_
              refine awp_seq ?_
              have h4 : a = 0 ∧ b = 40 ∧ l4 = l3 := by rcases hi4 with h | h; exact h; exact absurd h.1 (by omega)
              obtain ⟨h4a, h4b, h4l⟩ := h4
              rw [h4l] at s20
              refine awp_regs hF ?_
              refine dv (gyes_none rfl) (q_mv (v := .slice (some ⟨d, 0, none⟩) n n) rfl) rfl (by decide) (cok1 trivial) ?_
              refine dv (gyes_none rfl) (q_mv (v := .int .i64 ((a : Nat) : Int)) rfl) rfl (by decide) (cok1 trivial) ?_
              refine dv (gyes_none rfl) (q_mv (v := .int .i64 ((a : Nat) : Int)) rfl) rfl (by decide) (cok1 trivial) ?_
              refine dv (gyes_none rfl) (q_mv (v := .int .i64 ((bs : Nat) : Int)) rfl) rfl (by decide) (cok1 trivial) ?_
              refine dv (gyes_none rfl) (OpQ.cast (v' := .int .i64 ((a + bs : Nat) : Int)) (q_int rfl rfl rfl) (congrArg _ ((i64_in (by omega)).trans (by first | rfl | omega | (push_cast; rfl))))) rfl (by decide) (cok2 trivial trivial) ?_
              refine dv (gyes_none rfl) (q_mv (v := .int .i64 ((b : Nat) : Int)) rfl) rfl (by decide) (cok1 trivial) ?_
              refine dv (gyes_none rfl) (q_mv (v := .func (.func 23) #[] #[.pointer (some ⟨bn, 0, none⟩), .pointer (some ⟨bk, 0, none⟩)]) rfl) rfl (by decide) (cok1 trivial) ?_
              refine x_call [] hF (by kernel_rfl) (gyes_none rfl) Try.call52 rfl (args := [.slice (some ⟨d, 0, none⟩) n n, .int .i64 ((a : Nat) : Int), .int .i64 ((a + bs : Nat) : Int), .int .i64 ((b : Nat) : Int), .func (.func 23) #[] #[.pointer (some ⟨bn, 0, none⟩), .pointer (some ⟨bk, 0, none⟩)]]) rfl ((show ACalls Try.prog 52 [.slice (some ⟨d, 0, none⟩) n n, .int .i64 ((a : Nat) : Int), .int .i64 ((a + bs : Nat) : Int), .int .i64 ((b : Nat) : Int), .func (.func 23) #[] #[.pointer (some ⟨bn, 0, none⟩), .pointer (some ⟨bk, 0, none⟩)]] H19 (fun v H' => v = .tuple #[] ∧ Kp (· ∈ [d]) H19 H' ∧ ∃ l', Sw 0 n l3 l' ∧ Srt (gkey names nb) l' 0 n ∧ H'[d]? = some (.cells true (l'.map i64v) 1)) by rw [show (a + bs) = 20 by omega, show a = 0 from h4a, show b = n by omega]; exact sym_ok n n d bn bk nb vN names (E.kp s20.kp) l3 hln3 hn2 (s20.getj (j := 0) rfl) hlt3 0 20 n hsm (by omega))) (show _ < _ by decide) (call_ok rfl) rfl rfl (fun _ _ _ _ hd => by cases hd) ?_
              rintro _ H21 ⟨rfl, hk22, l25, hsw26, hso27, h23⟩
              have s24 := s20.turn1 (j := 0) rfl hk22 h23
              refine ⟨trivial, ?_⟩
              show dList _ _ _ _ _ _ _ _ _ _
              refine ⟨_, Wk.refl _ _, ?_⟩
              show awp _ _ _ _ _ _ _
              refine awp_seq ?_
              refine awp_regs hF ?_
              refine dv (gyes_none rfl) (q_mv (v := .int .i64 ((b : Nat) : Int)) rfl) rfl (by decide) (cok1 trivial) ?_
              refine dv (gyes_none rfl) (q_as (v := .int .i64 ((b : Nat) : Int)) rfl) rfl (by decide) (cok1 trivial) ?_
              refine ⟨_, Wk.refl _ _, ?_⟩
              show awp _ _ _ _ _ _ _
              refine awp_regs hF ?_
              refine dv (gyes_none rfl) (q_mv (v := .int .i64 ((b : Nat) : Int)) rfl) rfl (by decide) (cok1 trivial) ?_
              refine dv (gyes_none rfl) (q_mv (v := .int .i64 ((bs : Nat) : Int)) rfl) rfl (by decide) (cok1 trivial) ?_
              refine dv (gyes_none rfl) (OpQ.cast (v' := .int .i64 ((2 * bs : Nat) : Int)) (q_int rfl rfl rfl) (congrArg _ ((i64_in (by omega)).trans (by first | rfl | omega | (push_cast; rfl))))) rfl (by decide) (cok2 (cconst rfl) trivial) ?_
              refine dv (gyes_none rfl) (OpQ.cast (v' := .int .i64 ((b + (2 * bs) : Nat) : Int)) (q_int rfl rfl rfl) (congrArg _ ((i64_in (by omega)).trans (by first | rfl | omega | (push_cast; rfl))))) rfl (by decide) (cok2 trivial trivial) ?_
              refine dv (gyes_none rfl) (q_as (v := .int .i64 ((b + (2 * bs) : Nat) : Int)) rfl) rfl (by decide) (cok1 trivial) ?_
              refine ⟨_, Wk.U [(0, .slice (some ⟨d, 0, none⟩) n n), (1, .int .i64 ((n : Nat) : Int)), (2, .func (.func 23) #[] #[.pointer (some ⟨bn, 0, none⟩), .pointer (some ⟨bk, 0, none⟩)]), (6, .int .i64 ((bs : Nat) : Int)), (7, .int .i64 ((b : Nat) : Int)), (8, .int .i64 (((b + (2 * bs)) : Nat) : Int))] ⟨rfl, rfl, rfl, rfl, rfl, rfl, trivial⟩, (b, (b + (2 * bs)), l25), ⟨_, rfl, s24, .inr ⟨by dsimp only; omega, by dsimp only; omega, by omega, by dsimp only; have q := hE.sw.trans hsw26; exact q, by dsimp only; exact hso27⟩⟩, (by dsimp only; omega)⟩
            ·
              replace c3 := of_decide_eq_false c3
              refine ⟨_, Wk.refl _ _, ?_⟩
              show awp _ _ _ _ _ _ _
              refine awp_cond_f rfl ?_
              refine awp_exit_wk ?_
              refine ⟨_, Wk.refl _ _, ?_⟩
              show awp _ _ _ _ _ _ _
              refine awp_seq ?_
              refine awp_seq ?_
              refine awp_regs hF ?_
              refine dv (gyes_none rfl) (q_mv (v := .int .i64 ((a : Nat) : Int)) rfl) rfl (by decide) (cok1 trivial) ?_
              refine dv (gyes_none rfl) (q_mv (v := .int .i64 ((bs : Nat) : Int)) rfl) rfl (by decide) (cok1 trivial) ?_
              refine dv (gyes_none rfl) (OpQ.cast (v' := .int .i64 ((a + bs : Nat) : Int)) (q_int rfl rfl rfl) (congrArg _ ((i64_in (by omega)).trans (by first | rfl | omega | (push_cast; rfl))))) rfl (by decide) (cok2 trivial trivial) ?_
              refine dv (gyes_none rfl) (q_as (v := .int .i64 ((a + bs : Nat) : Int)) rfl) rfl (by decide) (cok1 trivial) ?_
              refine ⟨_, Wk.refl _ _, ?_⟩
              show awp _ _ _ _ _ _ _
              refine awp_seq ?_
              refine awp_regs hF ?_
              refine dv (gyes_none rfl) (q_mv (v := .int .i64 ((a + bs : Nat) : Int)) rfl) rfl (by decide) (cok1 trivial) ?_
              refine dv (gyes_none rfl) (q_mv (v := .int .i64 ((n : Nat) : Int)) rfl) rfl (by decide) (cok1 trivial) ?_
              refine dvb (gyes_none rfl) (q_int rfl rfl rfl) rfl (by decide) (cok2 trivial trivial) (fun c4 => ?_) (fun c4 => ?_)
              ·
                replace c4 := of_decide_eq_true c4
                refine ⟨_, Wk.refl _ _, ?_⟩
                show awp _ _ _ _ _ _ _
                refine awp_cond_t rfl ?_
                have h4 : a = 0 ∧ b = 40 ∧ l4 = l3 := by rcases hi4 with h | h; exact h; exact absurd h.1 (by omega)
                obtain ⟨h4a, h4b, h4l⟩ := h4
                rw [h4l] at s20
                refine awp_regs hF ?_
                refine dv (gyes_none rfl) (q_mv (v := .slice (some ⟨d, 0, none⟩) n n) rfl) rfl (by decide) (cok1 trivial) ?_
                refine dv (gyes_none rfl) (q_mv (v := .int .i64 ((a : Nat) : Int)) rfl) rfl (by decide) (cok1 trivial) ?_
                refine dv (gyes_none rfl) (q_mv (v := .int .i64 ((a + bs : Nat) : Int)) rfl) rfl (by decide) (cok1 trivial) ?_
                refine dv (gyes_none rfl) (q_mv (v := .int .i64 ((n : Nat) : Int)) rfl) rfl (by decide) (cok1 trivial) ?_
                refine dv (gyes_none rfl) (q_mv (v := .func (.func 23) #[] #[.pointer (some ⟨bn, 0, none⟩), .pointer (some ⟨bk, 0, none⟩)]) rfl) rfl (by decide) (cok1 trivial) ?_
                refine x_call [] hF (by kernel_rfl) (gyes_none rfl) Try.call52 rfl (args := [.slice (some ⟨d, 0, none⟩) n n, .int .i64 ((a : Nat) : Int), .int .i64 ((a + bs : Nat) : Int), .int .i64 ((n : Nat) : Int), .func (.func 23) #[] #[.pointer (some ⟨bn, 0, none⟩), .pointer (some ⟨bk, 0, none⟩)]]) rfl ((show ACalls Try.prog 52 [.slice (some ⟨d, 0, none⟩) n n, .int .i64 ((a : Nat) : Int), .int .i64 ((a + bs : Nat) : Int), .int .i64 ((n : Nat) : Int), .func (.func 23) #[] #[.pointer (some ⟨bn, 0, none⟩), .pointer (some ⟨bk, 0, none⟩)]] H19 (fun v H' => v = .tuple #[] ∧ Kp (· ∈ [d]) H19 H' ∧ ∃ l', Sw 0 n l3 l' ∧ Srt (gkey names nb) l' 0 n ∧ H'[d]? = some (.cells true (l'.map i64v) 1)) by rw [show (a + bs) = 20 by omega, show a = 0 from h4a]; exact sym_ok n n d bn bk nb vN names (E.kp s20.kp) l3 hln3 hn2 (s20.getj (j := 0) rfl) hlt3 0 20 n hsm (by omega))) (show _ < _ by decide) (call_ok rfl) rfl rfl (fun _ _ _ _ hd => by cases hd) ?_
                rintro _ H28 ⟨rfl, hk29, l32, hsw33, hso34, h30⟩
                have s31 := s20.turn1 (j := 0) rfl hk29 h30
                refine ⟨trivial, ?_⟩
                show dList _ _ _ _ _ _ _ _ _ _
                refine ⟨_, Wk.refl _ _, ?_⟩
                show awp _ _ _ _ _ _ _
                refine awp_regs hF ?_
                refine dv (gyes_none rfl) (q_mv (v := .int .i64 ((bs : Nat) : Int)) rfl) rfl (by decide) (cok1 trivial) ?_
                refine dv (gyes_none rfl) (OpQ.cast (v' := .int .i64 ((bs * 2 : Nat) : Int)) (q_int rfl rfl rfl) (congrArg _ ((i64_in (by omega)).trans (by first | rfl | omega | (push_cast; rfl))))) rfl (by decide) (cok2 trivial (cconst rfl)) ?_
                refine dv (gyes_none rfl) (q_as (v := .int .i64 ((bs * 2 : Nat) : Int)) rfl) rfl (by decide) (cok1 trivial) ?_
                have hmE : (bs * 2 = 20 ∧ End (gkey names nb) n l l32) ∨ (bs * 2 = 40 ∧ Sw 0 n l l32 ∧ Srt (gkey names nb) l32 0 n) := .inr ⟨by omega, hE.sw.trans hsw33, hso34⟩
                refine ⟨_, Wk.U [(0, .slice (some ⟨d, 0, none⟩) n n), (1, .int .i64 ((n : Nat) : Int)), (2, .func (.func 23) #[] #[.pointer (some ⟨bn, 0, none⟩), .pointer (some ⟨bk, 0, none⟩)]), (6, .int .i64 (((bs * 2) : Nat) : Int))] ⟨rfl, rfl, rfl, rfl, trivial⟩, ((bs * 2), l32), ⟨_, rfl, s31, hmE⟩, (by omega)⟩
              ·
                replace c4 := of_decide_eq_false c4
                refine ⟨_, Wk.refl _ _, ?_⟩
                show awp _ _ _ _ _ _ _
                refine awp_cond_f rfl ?_
                refine awp_skip_wk ?_
                refine ⟨_, Wk.refl _ _, ?_⟩
                show awp _ _ _ _ _ _ _
                refine awp_regs hF ?_
                refine dv (gyes_none rfl) (q_mv (v := .int .i64 ((bs : Nat) : Int)) rfl) rfl (by decide) (cok1 trivial) ?_
                refine dv (gyes_none rfl) (OpQ.cast (v' := .int .i64 ((bs * 2 : Nat) : Int)) (q_int rfl rfl rfl) (congrArg _ ((i64_in (by omega)).trans (by first | rfl | omega | (push_cast; rfl))))) rfl (by decide) (cok2 trivial (cconst rfl)) ?_
                refine dv (gyes_none rfl) (q_as (v := .int .i64 ((bs * 2 : Nat) : Int)) rfl) rfl (by decide) (cok1 trivial) ?_
                have hmE : (bs * 2 = 20 ∧ End (gkey names nb) n l l4) ∨ (bs * 2 = 40 ∧ Sw 0 n l l4 ∧ Srt (gkey names nb) l4 0 n) := .inr ⟨by omega, (by rcases hi4 with h | h; exact absurd h.2.1 (by omega); exact h.2.2.2.1), (by rcases hi4 with h | h; exact absurd h.2.1 (by omega); exact h.2.2.2.2)⟩
                refine ⟨_, Wk.U [(0, .slice (some ⟨d, 0, none⟩) n n), (1, .int .i64 ((n : Nat) : Int)), (2, .func (.func 23) #[] #[.pointer (some ⟨bn, 0, none⟩), .pointer (some ⟨bk, 0, none⟩)]), (6, .int .i64 (((bs * 2) : Nat) : Int))] ⟨rfl, rfl, rfl, rfl, trivial⟩, ((bs * 2), l4), ⟨_, rfl, s20, hmE⟩, (by omega)⟩
        ·
          replace c2 := of_decide_eq_false c2
          refine ⟨_, Wk.refl _ _, ?_⟩
          show awp _ _ _ _ _ _ _
          refine awp_cond_f rfl ?_
          refine awp_exit_wk ?_
          have hfin : Sw 0 n l l3 ∧ Srt (gkey names nb) l3 0 n := by
            rcases hm with h | h
            · exact ⟨h.2.sw, h.2.one (by omega)⟩
            · exact h.2
          refine ⟨_, Wk.refl _ _, ?_⟩
          repeat (with_reducible first | refine then_ret ?_ | refine blk_ret ?_ | refine then_exit ?_ | refine blk_exit ?_ | refine blk_exit' (by decide) ?_ | refine blk_normal ?_ | refine then_normal ?_ | refine retq_ret ?_ | refine retq_normal ?_ | refine ng_normal ?_ | refine ng_ret ?_ | refine ng_exit ?_)
          refine ret_is (v := .tuple #[]) rfl .nil rfl ?_
          exact ⟨rfl, s18.kp, _, hfin.1, hfin.2, s18.getj (j := 0) rfl⟩
set_option maxRecDepth 100000 in
set_option maxHeartbeats 4000000 in
theorem sortstable_ok {H0 : AHeap} (n d bn bk nb : Nat) (vN : Value) (names : List ByteArray) (E : SEnv H0 d bn bk nb vN names) (l : List Nat) (hn : l.length = n) (hn2 : n ≤ 1000) (hd : H0[d]? = some (.cells true (l.map i64v) 1)) (hl : ∀ x ∈ l, x < names.length) (hn40 : n ≤ 40) (h0 : ∀ p, p < n → nth l p = p) : ACalls Try.prog 22 [.slice (some ⟨d, 0, none⟩) n n, .func (.func 23) #[] #[.pointer (some ⟨bn, 0, none⟩), .pointer (some ⟨bk, 0, none⟩)]] H0 (fun v H' => v = .tuple #[] ∧ Kp (· ∈ [d]) H0 H' ∧ ∃ l', Sw 0 n l l' ∧ Srt (gkey names nb) l' 0 n ∧ H'[d]? = some (.cells true (l'.map i64v) 1)) := by
  have hF : Wd Fence.wide := .inl rfl
  have hM : Try.prog.follows .mixedOrders = true := by kernel_rfl
  have s0 : St H0 (· ∈ [d]) (Off H0 [d]) H0 [(d, .cells true (l.map i64v) 1)] := St.beginL [(d, .cells true (l.map i64v) 1)] (by simp) (allAt_mem ⟨hd, trivial⟩)
  refine acalls_st Try.func22 rfl Try.ntmps22 rfl ?_
  refine awp_regs hF ?_
  refine dv (gyes_none rfl) (q_mv (v := .slice (some ⟨d, 0, none⟩) n n) rfl) rfl (by decide) (cok1 trivial) ?_
  refine dv (gyes_none rfl) (q_mv (v := .slice (some ⟨d, 0, none⟩) n n) rfl) rfl (by decide) (cok1 trivial) ?_
  refine dv (gyes_none rfl) (q_len_slice Try.underlying25 rfl (s0.rd (j := 0) rfl)) rfl (by decide) (cok1 trivial) ?_
  refine dv (gyes_none rfl) (q_mv (v := .func (.func 23) #[] #[.pointer (some ⟨bn, 0, none⟩), .pointer (some ⟨bk, 0, none⟩)]) rfl) rfl (by decide) (cok1 trivial) ?_
  refine x_call [] hF (by kernel_rfl) (gyes_none rfl) Try.call39 rfl (args := [.slice (some ⟨d, 0, none⟩) n n, .int .i64 ((n : Nat) : Int), .func (.func 23) #[] #[.pointer (some ⟨bn, 0, none⟩), .pointer (some ⟨bk, 0, none⟩)]]) rfl (stable_ok n d bn bk nb vN names (E.kp s0.kp) l hn hn2 (s0.getj (j := 0) rfl) hl hn40 h0) (show _ < _ by decide) (call_ok rfl) rfl rfl (fun _ _ _ _ hd => by cases hd) ?_
  rintro _ H1 ⟨rfl, hk2, l5, hsw6, hso7, h3⟩
  have s4 := s0.turn1 (j := 0) rfl hk2 h3
  refine ⟨trivial, ?_⟩
  show dList _ _ _ _ _ _ _ _ _ _
  refine ⟨_, Wk.refl _ _, ?_⟩
  repeat (with_reducible first | refine then_ret ?_ | refine blk_ret ?_ | refine then_exit ?_ | refine blk_exit ?_ | refine blk_exit' (by decide) ?_ | refine blk_normal ?_ | refine then_normal ?_ | refine retq_ret ?_ | refine retq_normal ?_ | refine ng_normal ?_ | refine ng_ret ?_ | refine ng_exit ?_)
  refine ret_is (v := .tuple #[]) rfl .nil rfl ?_
  exact ⟨rfl, s4.kp, _, hsw6, hso7, s4.getj (j := 0) rfl⟩

end Go.Proofs.YtponfeigjmjbmaaA


/-
  Walks of functions of the given program, and what they compute.
-/
namespace Go.Proofs.YtponfeigjmjbmaaA
set_option linter.unusedVariables false
open Go Go.RowKit Go.Shelf Go.Proofs
structure OrdL (key : Nat → Nat) (l : List Nat) (n : Nat) : Prop where
  perm : l.Perm (List.range n)
  srt : Srt key l 0 n
theorem nth_range {n p : Nat} (h : p < n) : nth (List.range n) p = p := by rw [nth_eq (by simpa using h)]; simp
def sortedB (l : List Nat) : Bool := (List.range (l.length - 1)).all fun i => decide (nth l i ≤ nth l (i + 1))
theorem sortedB_f {l : List Nat} {q : Nat} (h : q + 1 < l.length) (hn : ¬ nth l q ≤ nth l (q + 1)) : sortedB l = false := by
  unfold sortedB
  rw [List.all_eq_false]
  exact ⟨q, List.mem_range.2 (by omega), by simpa using hn⟩
theorem sortedB_t {l : List Nat} (h : ∀ q, q + 1 < l.length → nth l q ≤ nth l (q + 1)) : sortedB l = true := by
  unfold sortedB
  rw [List.all_eq_true]
  exact fun q hq => decide_eq_true (h q (by have := List.mem_range.1 hq; omega))
theorem sortedB_iff {l : List Nat} : sortedB l = true ↔ ∀ q, q + 1 < l.length → nth l q ≤ nth l (q + 1) :=
  ⟨fun h q hq => Decidable.byContradiction fun hn => by rw [sortedB_f hq hn] at h; exact (nomatch h), sortedB_t⟩
def sortedK (names : List ByteArray) (nb : Nat) : Bool := (List.range (names.length - 1)).all fun i => decide (gkey names nb i ≤ gkey names nb (i + 1))
theorem sortedK_iff {names : List ByteArray} {nb : Nat} : sortedK names nb = true ↔ ∀ q, q + 1 < names.length → gkey names nb q ≤ gkey names nb (q + 1) := by
  unfold sortedK
  rw [List.all_eq_true]
  exact ⟨fun h q hq => of_decide_eq_true (h q (List.mem_range.2 (by omega))), fun h q hq => decide_eq_true (h q (by have := List.mem_range.1 hq; omega))⟩
theorem incr_id {l : List Nat} {n : Nat} (hp : l.Perm (List.range n)) (h : ∀ p, p + 1 < n → nth l p < nth l (p + 1)) : ∀ p, p < n → nth l p = p := by
  have hl : l.length = n := by rw [hp.length_eq, List.length_range]
  have hlt : ∀ p, p < n → nth l p < n := fun p hpn => List.mem_range.1 (hp.mem_iff.1 (nthS_mem (by omega)))
  have up : ∀ k p, p + k < n → nth l p + k ≤ nth l (p + k) := by
    intro k
    induction k with
    | zero => intro p _; exact Nat.le_refl _
    | succ k ih =>
      intro p hk
      have h1 := ih p (by omega)
      have h2 := h (p + k) (by omega)
      rw [show p + (k + 1) = p + k + 1 by omega]
      omega
  intro p hpn
  have h1 := up p 0 (by omega)
  rw [Nat.zero_add] at h1
  have h2 := up (n - 1 - p) p (by omega)
  rw [show p + (n - 1 - p) = n - 1 by omega] at h2
  have h3 := hlt (n - 1) (by omega)
  omega
theorem OrdL.len {key : Nat → Nat} {l : List Nat} {n : Nat} (h : OrdL key l n) : l.length = n := by rw [h.perm.length_eq, List.length_range]
theorem OrdL.lt {key : Nat → Nat} {l : List Nat} {n : Nat} (h : OrdL key l n) : ∀ x ∈ l, x < n := fun x hx => List.mem_range.1 (h.perm.mem_iff.1 hx)
theorem OrdL.id_of {key : Nat → Nat} {l : List Nat} {n : Nat} (h : OrdL key l n) (hs : sortedB l = true) : ∀ p, p < n → nth l p = p := by
  have hl := h.len
  refine incr_id h.perm fun p hp => ?_
  have h1 := sortedB_iff.1 hs p (by omega)
  have h2 := h.srt p (p + 1) (Nat.zero_le _) (Nat.lt_succ_self _) hp
  have h3 : nth l p ≠ nth l (p + 1) := fun e => by rw [e] at h2; unfold lx at h2; omega
  omega
theorem OrdL.sorted {names : List ByteArray} {nb : Nat} {l : List Nat} (h : OrdL (gkey names nb) l names.length) : sortedB l = sortedK names nb := by
  have hl := h.len
  rw [Bool.eq_iff_iff]
  constructor
  · intro hs
    have hid := h.id_of hs
    refine sortedK_iff.2 fun q hq => ?_
    have h2 := (h.srt q (q + 1) (Nat.zero_le _) (Nat.lt_succ_self _) hq).le
    rwa [hid q (by omega), hid (q + 1) hq] at h2
  · intro hk
    have hm : ∀ k p, p + k < names.length → gkey names nb p ≤ gkey names nb (p + k) := by
      intro k
      induction k with
      | zero => intro p _; exact Nat.le_refl _
      | succ k ih => intro p hp; exact Nat.le_trans (ih p (by omega)) (sortedK_iff.1 hk (p + k) (by omega))
    refine sortedB_iff.2 fun q hq => ?_
    have h2 := h.srt q (q + 1) (Nat.zero_le _) (Nat.lt_succ_self _) (by omega)
    have hx := h.lt _ (nthS_mem (show q < l.length by omega))
    have hy := h.lt _ (nthS_mem (show q + 1 < l.length by omega))
    rcases h2 with h2 | h2
    · refine Decidable.byContradiction fun hn => ?_
      have h3 := hm (nth l q - nth l (q + 1)) (nth l (q + 1)) (by omega)
      rw [show nth l (q + 1) + (nth l q - nth l (q + 1)) = nth l q by omega] at h3
      omega
    · omega
def NumOk (n : Nat) (f b w s : Int) : Prop := 1 ≤ b ∧ b ≤ 256 ∧ 1 ≤ w ∧ w ≤ 256 ∧ 0 ≤ f ∧ f ≤ 256 - (n : Int) ∧ 0 ≤ s ∧ s ≤ 63 ∧ ¬ (f = 0 ∧ 0 < n)
set_option maxRecDepth 100000 in
set_option maxHeartbeats 4000000 in
theorem order_ok {H0 : AHeap} (vN : Value) (names : List ByteArray) (hN : Sl strv H0 vN names) (hsz : ∀ x ∈ names, x.size ≤ 140737488355328) (hn40 : names.length ≤ 40) (nb : Nat) (h1 : 1 ≤ nb) (h2 : nb ≤ 256) : ACalls Try.prog 8 [vN, .int .i64 ((nb : Nat) : Int)] H0 (fun v H' => ∃ b l, K0 H0 H' ∧ H0.length ≤ b ∧ v = .slice (some ⟨b, 0, none⟩) names.length names.length ∧ OrdL (gkey names nb) l names.length ∧ H'[b]? = some (.cells true (l.map i64v) 1)) := by
  have hF : Wd Fence.wide := .inl rfl
  have hM : Try.prog.follows .mixedOrders = true := by kernel_rfl
  have s0 := St.begin H0
  refine acalls_st Try.func8 rfl Try.ntmps8 rfl ?_
  refine awp_seq ?_
  refine awp_regs hF ?_
  refine x_new (fun b => .pointer (some ⟨b, 0, none⟩)) s0 (gyes_none rfl) (q_box (v := vN) (vs := [vN]) 1 rfl (Sl.lc (s0.sl hN)).1 (Sl.cells (s0.sl hN))) rfl (by decide) (cok1 trivial) (fun b1 H2 hb4 s3 => ?_)
  refine x_new (fun b => .pointer (some ⟨b, 0, none⟩)) s3 (gyes_none rfl) (q_box (v := .int .i64 ((nb : Nat) : Int)) (vs := [.int .i64 ((nb : Nat) : Int)]) 1 rfl (by exact trivial) rfl) rfl (by decide) (cok1 trivial) (fun b5 H6 hb8 s7 => ?_)
  refine dv (gyes_none rfl) (q_as (v := .slice none 0 0) rfl) rfl (by decide) (cok1 (cconst rfl)) ?_
  refine ⟨_, Wk.refl _ _, ?_⟩
  show awp _ _ _ _ _ _ _
  refine awp_seq ?_
  refine awp_seq ?_
  refine awp_regs hF ?_
  refine dv (gyes_none rfl) (q_load (v := .int .i64 ((nb : Nat) : Int)) Try.isAgg3 rfl (s7.rd (j := 0) rfl) rfl) rfl (by decide) (cok1 trivial) ?_
  refine dv (gyes_none rfl) (OpQ.cast (v' := .bool false) (q_int rfl rfl rfl) (congrArg Value.bool (decide_eq_false (by omega)))) rfl (by decide) (cok2 trivial (cconst rfl)) ?_
  refine dv (gyes_none rfl) (q_mv (v := .bool false) rfl) rfl (by decide) (cok1 trivial) ?_
  refine dv (gyes_some rfl rfl) (q_load (v := .int .i64 ((nb : Nat) : Int)) Try.isAgg3 rfl (s7.rd (j := 0) rfl) rfl) rfl (by decide) (cok1 trivial) ?_
  refine dv (gyes_some rfl rfl) (OpQ.cast (v' := .bool false) (q_int rfl rfl rfl) (congrArg Value.bool (decide_eq_false (by omega)))) rfl (by decide) (cok2 trivial (cconst rfl)) ?_
  refine dv (gyes_none rfl) (q_pf (v := .bool false) rfl rfl) rfl (by decide) (call_ok rfl) ?_
  refine ⟨_, Wk.refl _ _, ?_⟩
  show awp _ _ _ _ _ _ _
  refine awp_cond_f rfl ?_
  refine awp_skip_wk ?_
  refine ⟨_, Wk.refl _ _, ?_⟩
  show awp _ _ _ _ _ _ _
  refine awp_seq ?_
  refine awp_regs hF ?_
  refine dv (gyes_none rfl) (q_as (v := .slice none 0 0) rfl) rfl (by decide) (cok1 (cconst rfl)) ?_
  refine ⟨_, Wk.refl _ _, ?_⟩
  show awp _ _ _ _ _ _ _
  refine awp_seq ?_
  refine awp_seq ?_
  refine awp_regs hF ?_
  refine dv (gyes_none rfl) (q_load (v := vN) Try.isAgg23 rfl (s7.rd (j := 1) rfl) rfl) rfl (by decide) (cok1 trivial) ?_
  refine dv (gyes_none rfl) (q_len_sl (l := names) Try.underlying23 (s7.sl hN) rfl) rfl (by decide) (cok1 trivial) ?_
  refine dv (gyes_none rfl) (q_mv (v := .int .i64 0) rfl) rfl (by decide) (cok1 (cconst rfl)) ?_
  refine ⟨_, Wk.refl _ _, ?_⟩
  show awp _ _ _ _ _ _ _
  refine awp_block ?_
  refine awp_nil s7 5 1 rfl (fun b9 H10 hb12 s11 => ?_)
  refine awp_wk (Wk.U [(2, .pointer (some ⟨b1, 0, none⟩)), (3, .pointer (some ⟨b5, 0, none⟩)), (5, .slice (some ⟨b9, 0, none⟩) 0 0), (13, vN), (14, .int .i64 ((names.length : Nat) : Int)), (15, .int .i64 0)] ⟨rfl, rfl, rfl, rfl, rfl, rfl, trivial⟩) ?_
  refine awp_loop (fun (i : Nat) st => ∃ (H13 : AHeap) (bo : Nat), st = ⟨27, U [(2, .pointer (some ⟨b1, 0, none⟩)), (3, .pointer (some ⟨b5, 0, none⟩)), (5, .slice (some ⟨bo, 0, none⟩) i i), (13, vN), (14, .int .i64 ((names.length : Nat) : Int)), (15, .int .i64 ((i : Nat) : Int))], [], H13⟩ ∧ St H0 (none0) (Rd H0) H13 [(bo, .cells true ((List.range i).map i64v) 1), (b5, .cells true [.int .i64 ((nb : Nat) : Int)] 1), (b1, .cells true [vN] 1)] ∧ (i ≤ names.length)) (fun (i : Nat) => names.length - i) (x0 := (0)) ?h0 ?round
  case h0 =>
    exact ⟨_, _, rfl, s11, Nat.zero_le _⟩
  case round =>
    rintro i _ ⟨H13, bo, rfl, s14, hi⟩
    refine awp_seq ?_
    refine awp_regs hF ?_
    refine dvb (gyes_none rfl) (q_int rfl rfl rfl) rfl (by decide) (cok2 trivial trivial) (fun c1 => ?_) (fun c1 => ?_)
    ·
      replace c1 := of_decide_eq_true c1
      refine ⟨_, Wk.refl _ _, ?_⟩
      show awp _ _ _ _ _ _ _
      refine awp_seq ?_
      refine awp_cond_t rfl ?_
      refine awp_skip_wk ?_
      refine ⟨_, Wk.refl _ _, ?_⟩
      show awp _ _ _ _ _ _ _
      refine awp_seq ?_
      refine awp_block ?_
      refine awp_seq ?_
      refine awp_regs hF ?_
      refine dv (gyes_none rfl) (q_mv (v := .int .i64 ((i : Nat) : Int)) rfl) rfl (by decide) (cok1 trivial) ?_
      refine dv (gyes_none rfl) (q_as (v := .int .i64 ((i : Nat) : Int)) rfl) rfl (by decide) (cok1 trivial) ?_
      refine ⟨_, Wk.refl _ _, ?_⟩
      show awp _ _ _ _ _ _ _
      refine awp_regs hF ?_
      refine dv (gyes_none rfl) (q_mv (v := .slice (some ⟨bo, 0, none⟩) i i) rfl) rfl (by decide) (cok1 trivial) ?_
      refine dv (gyes_none rfl) (q_mv (v := .int .i64 ((i : Nat) : Int)) rfl) rfl (by decide) (cok1 trivial) ?_
      refine x_new (fun b => .slice (some ⟨b, 0, none⟩) 1 1) s14 (gyes_none rfl) (q_buildSliceL (ds := [.int .i64 ((i : Nat) : Int)]) [.int .i64 ((i : Nat) : Int)] rfl Try.underlying25 Try.sizeOf3 Try.zeroValue3 rfl (by decide) (by decide) ⟨rfl, trivial⟩ (lvsC (by exact trivial) lvs0) rfl rfl) rfl (by decide) (cok1 trivial) (fun b15 H16 hb18 s17 => ?_)
      refine x_append (l := [i]) (f := i64v) [] hF s17 (by kernel_rfl) (j := 1) (i + 1) rfl (gyes_none rfl) Try.underlying25 Try.underlying25 Try.type3 rfl rfl (by decide) rfl rfl rfl rfl (s17.slj (l := [i]) (f := i64v) (j := 0) rfl rfl (Nat.le_refl _)) (fun x => lc_scalar rfl) (by simp) (by show (2 * (i + 1) + 1000) * 8 ≤ _; omega) trivial trivial (by decide) rfl rfl (vs' := (List.range (i + 1)).map i64v) (by simp [List.range_succ]) (fun b19 H20 hb22 s21 => ⟨?_, ?_⟩)
      · exact trivial
      refine dv (gyes_none rfl) (q_as (v := .slice (some ⟨b19, 0, none⟩) (i + 1) (i + 1)) rfl) rfl (by decide) (cok1 trivial) ?_
      refine ⟨_, Wk.refl _ _, ?_⟩
      show awp _ _ _ _ _ _ _
      refine awp_regs hF ?_
      refine dv (gyes_none rfl) (OpQ.cast (v' := .int .i64 ((i + 1 : Nat) : Int)) (q_int rfl rfl rfl) (congrArg _ ((i64_in (by omega)).trans (by first | rfl | omega | (push_cast; rfl))))) rfl (by decide) (cok2 trivial (cconst rfl)) ?_
      refine dv (gyes_none rfl) (q_mv (v := .int .i64 ((i + 1 : Nat) : Int)) rfl) rfl (by decide) (cok1 trivial) ?_
      refine ⟨_, Wk.U [(2, .pointer (some ⟨b1, 0, none⟩)), (3, .pointer (some ⟨b5, 0, none⟩)), (5, .slice (some ⟨b19, 0, none⟩) (i + 1) (i + 1)), (13, vN), (14, .int .i64 ((names.length : Nat) : Int)), (15, .int .i64 (((i + 1) : Nat) : Int))] ⟨rfl, rfl, rfl, rfl, rfl, rfl, trivial⟩, (i + 1), ⟨_, _, rfl, (s21.sub (.cons _ (.cons_cons _ (.cons_cons _ (.cons_cons _ (.refl _)))))), (by omega)⟩, (by omega)⟩
    ·
      replace c1 := of_decide_eq_false c1
      refine ⟨_, Wk.refl _ _, ?_⟩
      show awp _ _ _ _ _ _ _
      refine awp_seq ?_
      refine awp_cond_f rfl ?_
      refine awp_exit_wk ?_
      refine ⟨_, Wk.refl _ _, ?_⟩
      show awp _ _ _ _ _ _ _
      refine awp_seq ?_
      have hie : i = names.length := by omega
      refine awp_regs hF ?_
      refine dv (gyes_none rfl) (q_mv (v := .slice (some ⟨bo, 0, none⟩) i i) rfl) rfl (by decide) (cok1 trivial) ?_
      refine dv (gyes_none rfl) (q_makeFuncL [.pointer (some ⟨b1, 0, none⟩), .pointer (some ⟨b5, 0, none⟩)] ⟨rfl, rfl, trivial⟩) rfl (by decide) (cok2 trivial trivial) ?_
      refine x_call [] hF (by kernel_rfl) (gyes_none rfl) Try.call22 rfl (args := [.slice (some ⟨bo, 0, none⟩) i i, .func (.func 23) #[] #[.pointer (some ⟨b1, 0, none⟩), .pointer (some ⟨b5, 0, none⟩)]]) rfl (sortstable_ok i bo b1 b5 nb vN names ⟨⟨(s14.rd (j := 2) rfl), (nin1 (s14.nej (i := 2) (j := 0) rfl rfl (by decide)))⟩, ⟨(s14.rd (j := 1) rfl), (nin1 (s14.nej (i := 1) (j := 0) rfl rfl (by decide)))⟩, s14.offz (ks := [bo]) (by simp) hN, hsz, h1, h2⟩ (List.range i) (by simp) (by omega) (s14.getj (j := 0) rfl) (fun x hx => by have := List.mem_range.1 hx; omega) (by omega) (fun p hp => nth_range hp)) (show _ < _ by decide) (call_ok rfl) rfl rfl (fun _ _ _ _ hd => by cases hd) ?_
      rintro _ H23 ⟨rfl, hk24, l25, hsw26, hso27, h28⟩
      have s29 := s14.turn1 (j := 0) rfl hk24 h28
      refine ⟨trivial, ?_⟩
      show dList _ _ _ _ _ _ _ _ _ _
      refine ⟨_, Wk.refl _ _, ?_⟩
      show awp _ _ _ _ _ _ _
      refine awp_seq ?_
      refine awp_regs hF ?_
      refine dv (gyes_none rfl) (q_mv (v := .slice (some ⟨bo, 0, none⟩) i i) rfl) rfl (by decide) (cok1 trivial) ?_
      refine dv (gyes_none rfl) (q_as (v := .slice (some ⟨bo, 0, none⟩) i i) rfl) rfl (by decide) (cok1 trivial) ?_
      refine ⟨_, Wk.refl _ _, ?_⟩
      show awp _ _ _ _ _ _ _
      refine awp_ret_wk ?_
      refine ⟨_, Wk.refl _ _, ?_⟩
      repeat (with_reducible first | refine then_ret ?_ | refine blk_ret ?_ | refine then_exit ?_ | refine blk_exit ?_ | refine blk_exit' (by decide) ?_ | refine blk_normal ?_ | refine then_normal ?_ | refine retq_ret ?_ | refine retq_normal ?_ | refine ng_normal ?_ | refine ng_ret ?_ | refine ng_exit ?_)
      refine ret_is (v := .slice (some ⟨bo, 0, none⟩) i i) rfl (.tmp rfl .nil) rfl ?_
      exact ⟨_, _, s29.kp, s29.out (j := 0) rfl, by rw [hie], ⟨by rw [← hie]; exact hsw26.perm, by rw [← hie]; exact hso27⟩, s29.getj (j := 0) rfl⟩
set_option maxRecDepth 100000 in
set_option maxHeartbeats 4000000 in
theorem isNaNi_ok {H0 : AHeap} (x : Nat) : ACalls Try.prog 57 [.int .i64 ((x : Nat) : Int)] H0 (Rets (.bool false) H0) := by
  have hF : Wd Fence.wide := .inl rfl
  have hM : Try.prog.follows .mixedOrders = true := by kernel_rfl
  have s0 := St.begin H0
  refine acalls_st Try.func57 rfl Try.ntmps57 rfl ?_
  refine awp_seq ?_
  refine awp_regs hF ?_
  refine dv (gyes_none rfl) (q_as (v := .bool false) rfl) rfl (by decide) (cok1 (cconst rfl)) ?_
  refine ⟨_, Wk.refl _ _, ?_⟩
  show awp _ _ _ _ _ _ _
  refine awp_seq ?_
  refine awp_regs hF ?_
  refine dv (gyes_none rfl) (q_mv (v := .int .i64 ((x : Nat) : Int)) rfl) rfl (by decide) (cok1 trivial) ?_
  refine dv (gyes_none rfl) (q_mv (v := .int .i64 ((x : Nat) : Int)) rfl) rfl (by decide) (cok1 trivial) ?_
  refine dv (gyes_none rfl) (OpQ.cast (v' := .bool false) (q_int rfl rfl rfl) (congrArg Value.bool (bne_self_eq_false _))) rfl (by decide) (cok2 trivial trivial) ?_
  refine dv (gyes_none rfl) (q_as (v := .bool false) rfl) rfl (by decide) (cok1 trivial) ?_
  refine ⟨_, Wk.refl _ _, ?_⟩
  show awp _ _ _ _ _ _ _
  refine awp_ret_wk ?_
  refine ⟨_, Wk.refl _ _, ?_⟩
  repeat (with_reducible first | refine then_ret ?_ | refine blk_ret ?_ | refine then_exit ?_ | refine blk_exit ?_ | refine blk_exit' (by decide) ?_ | refine blk_normal ?_ | refine then_normal ?_ | refine retq_ret ?_ | refine retq_normal ?_ | refine ng_normal ?_ | refine ng_ret ?_ | refine ng_exit ?_)
  exact ret_none (v := .bool false) rfl s0.kp (.tmp rfl .nil) rfl rfl ⟨rfl, rfl⟩
set_option maxRecDepth 100000 in
set_option maxHeartbeats 4000000 in
theorem less_ok {H0 : AHeap} (x y : Nat) : ACalls Try.prog 53 [.int .i64 ((x : Nat) : Int), .int .i64 ((y : Nat) : Int)] H0 (Rets (.bool (decide (((x : Nat) : Int) < ((y : Nat) : Int)))) H0) := by
  have hF : Wd Fence.wide := .inl rfl
  have hM : Try.prog.follows .mixedOrders = true := by kernel_rfl
  have s0 := St.begin H0
  refine acalls_st Try.func53 rfl Try.ntmps53 rfl ?_
  refine awp_seq ?_
  refine awp_regs hF ?_
  refine dv (gyes_none rfl) (q_as (v := .bool false) rfl) rfl (by decide) (cok1 (cconst rfl)) ?_
  refine ⟨_, Wk.refl _ _, ?_⟩
  show awp _ _ _ _ _ _ _
  refine awp_seq ?_
  refine awp_regs hF ?_
  refine dv (gyes_none rfl) (q_mv (v := .int .i64 ((x : Nat) : Int)) rfl) rfl (by decide) (cok1 trivial) ?_
  refine dv (gyes_none rfl) (q_call0 Try.call57 rfl (isNaNi_ok x)) rfl (by decide) (cok2 trivial trivial) ?_
  refine dv (gyes_none rfl) (q_mv (v := .bool false) rfl) rfl (by decide) (cok1 trivial) ?_
  refine dno rfl (.inl rfl) rfl (by decide) ?_
  refine dno rfl (.inl rfl) rfl (by decide) ?_
  refine dno rfl (.inl rfl) rfl (by decide) ?_
  refine dv (gyes_none rfl) (q_pf (v := .bool false) rfl rfl) rfl (by decide) (call_ok rfl) ?_
  refine dv (gyes_none rfl) (q_mv (v := .bool false) rfl) rfl (by decide) (cok1 trivial) ?_
  refine dv (gyes_some rfl rfl) (q_mv (v := .int .i64 ((x : Nat) : Int)) rfl) rfl (by decide) (cok1 trivial) ?_
  refine dv (gyes_some rfl rfl) (q_mv (v := .int .i64 ((y : Nat) : Int)) rfl) rfl (by decide) (cok1 trivial) ?_
  refine dv (gyes_some rfl rfl) (q_int rfl rfl rfl) rfl (by decide) (cok2 trivial trivial) ?_
  refine dv (gyes_none rfl) (q_pf (v := .bool (decide ((((x : Nat) : Int) : Int) < ((y : Nat) : Int)))) rfl rfl) rfl (by decide) (call_ok rfl) ?_
  refine dv (gyes_none rfl) (q_as (v := .bool (decide ((((x : Nat) : Int) : Int) < ((y : Nat) : Int)))) rfl) rfl (by decide) (cok1 trivial) ?_
  refine ⟨_, Wk.refl _ _, ?_⟩
  show awp _ _ _ _ _ _ _
  refine awp_ret_wk ?_
  refine ⟨_, Wk.refl _ _, ?_⟩
  repeat (with_reducible first | refine then_ret ?_ | refine blk_ret ?_ | refine then_exit ?_ | refine blk_exit ?_ | refine blk_exit' (by decide) ?_ | refine blk_normal ?_ | refine then_normal ?_ | refine retq_ret ?_ | refine retq_normal ?_ | refine ng_normal ?_ | refine ng_ret ?_ | refine ng_exit ?_)
  exact ret_none (v := .bool (decide ((((x : Nat) : Int) : Int) < ((y : Nat) : Int)))) rfl s0.kp (.tmp rfl .nil) rfl rfl ⟨by first | rfl | (congr 1; symm; first | exact decide_eq_true (by omega) | exact decide_eq_false (by omega)), rfl⟩
set_option maxRecDepth 100000 in
set_option maxHeartbeats 4000000 in
theorem issorted_ok {H0 : AHeap} (v : Value) (l : List Nat) (hl : Sl i64v H0 v l) (hn : l.length ≤ 1000) : ACalls Try.prog 42 [v] H0 (Rets (.bool (sortedB l)) H0) := by
  have hF : Wd Fence.wide := .inl rfl
  have hM : Try.prog.follows .mixedOrders = true := by kernel_rfl
  have s0 := St.begin H0
  refine acalls_st Try.func42 rfl Try.ntmps42 rfl ?_
  refine awp_seq ?_
  refine awp_regs hF ?_
  refine dv (gyes_none rfl) (q_as (v := .bool false) rfl) rfl (by decide) (cok1 (cconst rfl)) ?_
  refine ⟨_, Wk.refl _ _, ?_⟩
  show awp _ _ _ _ _ _ _
  refine awp_seq ?_
  refine awp_seq ?_
  refine awp_regs hF ?_
  refine dv (gyes_none rfl) (q_mv (v := v) rfl) rfl (by decide) (cok1 trivial) ?_
  refine dv (gyes_none rfl) (q_len_sl (l := l) Try.underlying25 (s0.sl hl) rfl) rfl (by decide) (cok1 trivial) ?_
  refine dv (gyes_none rfl) (OpQ.cast (v' := .int .i64 (((l.length : Nat) : Int) - 1)) (q_int rfl rfl rfl) (congrArg _ (i64_in (by omega)))) rfl (by decide) (cok2 trivial (cconst rfl)) ?_
  refine dv (gyes_none rfl) (q_as (v := .int .i64 (((l.length : Nat) : Int) - 1)) rfl) rfl (by decide) (cok1 trivial) ?_
  refine ⟨_, Wk.refl _ _, ?_⟩
  show awp _ _ _ _ _ _ _
  refine awp_block ?_
  refine awp_wk (Wk.U [(0, v), (3, .int .i64 (((l.length : Nat) : Int) - 1))] ⟨rfl, rfl, trivial⟩) ?_
  refine awp_loop (fun (i : Int) st => ∃ (H1 : AHeap), st = ⟨21, U [(0, v), (3, .int .i64 i)], [], H1⟩ ∧ St H0 (none0) (Rd H0) H1 [] ∧ (-1 ≤ i ∧ i < l.length ∧ ∀ q, i ≤ (q : Nat) → q + 1 < l.length → nth l q ≤ nth l (q + 1))) (fun (i : Int) => (i + 1).toNat) (x0 := ((((l.length : Nat) : Int) - 1))) ?h0 ?round
  case h0 =>
    exact ⟨_, rfl, s0, ⟨by omega, by omega, fun q h1 h2 => by omega⟩⟩
  case round =>
    rintro i _ ⟨H1, rfl, s2, hi⟩
    refine awp_seq ?_
    refine awp_seq ?_
    refine awp_regs hF ?_
    refine dv (gyes_none rfl) (q_mv (v := .int .i64 i) rfl) rfl (by decide) (cok1 trivial) ?_
    refine dvb (gyes_none rfl) (q_int rfl rfl rfl) rfl (by decide) (cok2 trivial (cconst rfl)) (fun c1 => ?_) (fun c1 => ?_)
    ·
      replace c1 := of_decide_eq_true c1
      refine ⟨_, Wk.refl _ _, ?_⟩
      show awp _ _ _ _ _ _ _
      refine awp_cond_t rfl ?_
      refine awp_skip_wk ?_
      refine ⟨_, Wk.refl _ _, ?_⟩
      show awp _ _ _ _ _ _ _
      refine awp_seq ?_
      refine awp_block ?_
      refine awp_seq ?_
      refine awp_regt hF hM (by kernel_rfl) (by kernel_rfl) ?_
      refine dv (gyes_none rfl) (q_mv (v := v) rfl) rfl (by decide) (cok1 trivial) ?_
      refine dv (gyes_none rfl) (q_mv (v := .int .i64 i) rfl) rfl (by decide) (cok1 trivial) ?_
      refine dv (gyes_none rfl) (q_index_slI (l := l) (z := i) Try.underlying25 Try.sizeOf3 (s2.sl hl) rfl rfl (by omega) (by omega)) rfl (by decide) (cok2 trivial trivial) ?_
      refine dv (gyes_none rfl) (q_load_sl (l := l) (i := i.toNat) Try.isAgg3 (s2.sl hl) rfl (by omega)) rfl (by decide) (cok1 trivial) ?_
      refine dv (gyes_none rfl) (q_mv (v := v) rfl) rfl (by decide) (cok1 trivial) ?_
      refine dv (gyes_none rfl) (q_mv (v := .int .i64 i) rfl) rfl (by decide) (cok1 trivial) ?_
      refine dv (gyes_none rfl) (OpQ.cast (v' := .int .i64 (i - 1)) (q_int rfl rfl rfl) (congrArg _ (i64_in (by omega)))) rfl (by decide) (cok2 trivial (cconst rfl)) ?_
      refine dv (gyes_none rfl) (q_index_slI (l := l) (z := (i - 1)) Try.underlying25 Try.sizeOf3 (s2.sl hl) rfl rfl (by omega) (by omega)) rfl (by decide) (cok2 trivial trivial) ?_
      refine dv (gyes_none rfl) (q_load_sl (l := l) (i := (((i - 1)).toNat)) Try.isAgg3 (s2.sl hl) rfl (by omega)) rfl (by decide) (cok1 trivial) ?_
      refine dvb (gyes_none rfl) (q_call0 Try.call53 rfl (less_ok (nth l i.toNat) (nth l (((i - 1)).toNat)))) rfl (by decide) (call_ok rfl) (fun c2 => ?_) (fun c2 => ?_)
      ·
        replace c2 := of_decide_eq_true c2
        refine ⟨_, Wk.refl _ _, ?_⟩
        show awp _ _ _ _ _ _ _
        refine awp_cond_t rfl ?_
        refine awp_seq ?_
        refine awp_regs hF ?_
        refine dv (gyes_none rfl) (q_as (v := .bool false) rfl) rfl (by decide) (cok1 (cconst rfl)) ?_
        refine ⟨_, Wk.refl _ _, ?_⟩
        show awp _ _ _ _ _ _ _
        refine awp_ret_wk ?_
        refine ⟨_, Wk.refl _ _, ?_⟩
        repeat (with_reducible first | refine then_ret ?_ | refine blk_ret ?_ | refine then_exit ?_ | refine blk_exit ?_ | refine blk_exit' (by decide) ?_ | refine blk_normal ?_ | refine then_normal ?_ | refine retq_ret ?_ | refine retq_normal ?_ | refine ng_normal ?_ | refine ng_ret ?_ | refine ng_exit ?_)
        exact ret_none (v := .bool false) rfl s2.kp (.tmp rfl .nil) rfl rfl ⟨congrArg _ (sortedB_f (q := (i - 1).toNat) (by omega) (by rw [show (i - 1).toNat + 1 = i.toNat by omega]; omega)).symm, rfl⟩
      ·
        replace c2 := of_decide_eq_false c2
        have hle := c2
        refine ⟨_, Wk.refl _ _, ?_⟩
        show awp _ _ _ _ _ _ _
        refine awp_cond_f rfl ?_
        refine awp_skip_wk ?_
        refine ⟨_, Wk.refl _ _, ?_⟩
        show awp _ _ _ _ _ _ _
        refine awp_regs hF ?_
        refine dv (gyes_none rfl) (q_mv (v := .int .i64 i) rfl) rfl (by decide) (cok1 trivial) ?_
        refine dv (gyes_none rfl) (OpQ.cast (v' := .int .i64 (i - 1)) (q_int rfl rfl rfl) (congrArg _ (i64_in (by omega)))) rfl (by decide) (cok2 trivial (cconst rfl)) ?_
        refine dv (gyes_none rfl) (q_as (v := .int .i64 (i - 1)) rfl) rfl (by decide) (cok1 trivial) ?_
        refine ⟨_, Wk.U [(0, v), (3, .int .i64 (i - 1))] ⟨rfl, rfl, trivial⟩, (i - 1), ⟨_, rfl, s2, ⟨by omega, by omega, fun q h1 h2 => by
              by_cases e : i ≤ (q : Nat)
              · exact hi.2.2 q e h2
              · have e2 : (i - 1).toNat = q := by omega
                have e3 : i.toNat = q + 1 := by omega
                rw [e2, e3] at hle
                omega⟩⟩, (by omega)⟩
    ·
      replace c1 := of_decide_eq_false c1
      refine ⟨_, Wk.refl _ _, ?_⟩
      show awp _ _ _ _ _ _ _
      refine awp_cond_f rfl ?_
      refine awp_exit_wk ?_
      refine ⟨_, Wk.refl _ _, ?_⟩
      show awp _ _ _ _ _ _ _
      refine awp_seq ?_
      refine awp_regs hF ?_
      refine dv (gyes_none rfl) (q_as (v := .bool true) rfl) rfl (by decide) (cok1 (cconst rfl)) ?_
      refine ⟨_, Wk.refl _ _, ?_⟩
      show awp _ _ _ _ _ _ _
      refine awp_ret_wk ?_
      refine ⟨_, Wk.refl _ _, ?_⟩
      repeat (with_reducible first | refine then_ret ?_ | refine blk_ret ?_ | refine then_exit ?_ | refine blk_exit ?_ | refine blk_exit' (by decide) ?_ | refine blk_normal ?_ | refine then_normal ?_ | refine retq_ret ?_ | refine retq_normal ?_ | refine ng_normal ?_ | refine ng_ret ?_ | refine ng_exit ?_)
      exact ret_none (v := .bool true) rfl s2.kp (.tmp rfl .nil) rfl rfl ⟨congrArg _ (sortedB_t fun q hq => hi.2.2 q (by omega) hq).symm, rfl⟩
set_option maxRecDepth 100000 in
set_option maxHeartbeats 4000000 in
theorem within_ok {H0 : AHeap} (n a b : Int) : ACalls Try.prog 41 [.int .i64 n, .int .i64 a, .int .i64 b] H0 (Rets (.bool (decide (a ≤ n ∧ n ≤ b))) H0) := by
  have hF : Wd Fence.wide := .inl rfl
  have hM : Try.prog.follows .mixedOrders = true := by kernel_rfl
  have s0 := St.begin H0
  refine acalls_st Try.func41 rfl Try.ntmps41 rfl ?_
  refine awp_seq ?_
  refine awp_regs hF ?_
  refine dv (gyes_none rfl) (q_as (v := .bool false) rfl) rfl (by decide) (cok1 (cconst rfl)) ?_
  refine ⟨_, Wk.refl _ _, ?_⟩
  show awp _ _ _ _ _ _ _
  refine awp_seq ?_
  refine awp_regs hF ?_
  refine dv (gyes_none rfl) (q_mv (v := .int .i64 n) rfl) rfl (by decide) (cok1 trivial) ?_
  refine dv (gyes_none rfl) (q_mv (v := .int .i64 a) rfl) rfl (by decide) (cok1 trivial) ?_
  refine dvb (gyes_none rfl) (q_int rfl rfl rfl) rfl (by decide) (cok2 trivial trivial) (fun c1 => ?_) (fun c1 => ?_)
  ·
    replace c1 := of_decide_eq_true c1
    refine dv (gyes_none rfl) (q_mv (v := .bool true) rfl) rfl (by decide) (cok1 trivial) ?_
    refine dv (gyes_some rfl rfl) (q_mv (v := .int .i64 n) rfl) rfl (by decide) (cok1 trivial) ?_
    refine dv (gyes_some rfl rfl) (q_mv (v := .int .i64 b) rfl) rfl (by decide) (cok1 trivial) ?_
    refine dv (gyes_some rfl rfl) (q_int rfl rfl rfl) rfl (by decide) (cok2 trivial trivial) ?_
    refine dv (gyes_none rfl) (q_pt (v := .bool (decide ((n : Int) ≤ b))) rfl rfl) rfl (by decide) (call_ok rfl) ?_
    refine dv (gyes_none rfl) (q_as (v := .bool (decide ((n : Int) ≤ b))) rfl) rfl (by decide) (cok1 trivial) ?_
    refine ⟨_, Wk.refl _ _, ?_⟩
    show awp _ _ _ _ _ _ _
    refine awp_ret_wk ?_
    refine ⟨_, Wk.refl _ _, ?_⟩
    repeat (with_reducible first | refine then_ret ?_ | refine blk_ret ?_ | refine then_exit ?_ | refine blk_exit ?_ | refine blk_exit' (by decide) ?_ | refine blk_normal ?_ | refine then_normal ?_ | refine retq_ret ?_ | refine retq_normal ?_ | refine ng_normal ?_ | refine ng_ret ?_ | refine ng_exit ?_)
    exact ret_none (v := .bool (decide ((n : Int) ≤ b))) rfl s0.kp (.tmp rfl .nil) rfl rfl ⟨congrArg _ (by first | exact (decide_eq_false (by omega)).symm | exact (decide_eq_true (by omega)).symm | (rw [Bool.eq_iff_iff, decide_eq_true_iff, decide_eq_true_iff]; omega)), rfl⟩
  ·
    replace c1 := of_decide_eq_false c1
    refine dv (gyes_none rfl) (q_mv (v := .bool false) rfl) rfl (by decide) (cok1 trivial) ?_
    refine dno rfl (.inl rfl) rfl (by decide) ?_
    refine dno rfl (.inl rfl) rfl (by decide) ?_
    refine dno rfl (.inl rfl) rfl (by decide) ?_
    refine dv (gyes_none rfl) (q_pf (v := .bool false) rfl rfl) rfl (by decide) (call_ok rfl) ?_
    refine dv (gyes_none rfl) (q_as (v := .bool false) rfl) rfl (by decide) (cok1 trivial) ?_
    refine ⟨_, Wk.refl _ _, ?_⟩
    show awp _ _ _ _ _ _ _
    refine awp_ret_wk ?_
    refine ⟨_, Wk.refl _ _, ?_⟩
    repeat (with_reducible first | refine then_ret ?_ | refine blk_ret ?_ | refine then_exit ?_ | refine blk_exit ?_ | refine blk_exit' (by decide) ?_ | refine blk_normal ?_ | refine then_normal ?_ | refine retq_ret ?_ | refine retq_normal ?_ | refine ng_normal ?_ | refine ng_ret ?_ | refine ng_exit ?_)
    exact ret_none (v := .bool false) rfl s0.kp (.tmp rfl .nil) rfl rfl ⟨congrArg _ (by first | exact (decide_eq_false (by omega)).symm | exact (decide_eq_true (by omega)).symm | (rw [Bool.eq_iff_iff, decide_eq_true_iff, decide_eq_true_iff]; omega)), rfl⟩
theorem ACalls.castV {P : Program} {f : FuncId} {a : List Value} {H : AHeap} {H' : AHeap} {v v' : Value} (h : ACalls P f a H (Rets v H')) (e : v = v') : ACalls P f a H (Rets v' H') := e ▸ h
set_option maxRecDepth 100000 in
set_option maxHeartbeats 4000000 in
theorem right_good {H0 : AHeap} (vN : Value) (names : List ByteArray) (hN : Sl strv H0 vN names) (hsz : ∀ x ∈ names, x.size ≤ 140737488355328) (hn40 : names.length ≤ 40) (f nb nw sh : Nat) (h : 1 ≤ nb ∧ nb ≤ 256 ∧ 1 ≤ nw ∧ nw ≤ 256 ∧ f + names.length ≤ 256 ∧ sh ≤ 63 ∧ ¬ (f = 0 ∧ 0 < names.length)) : ACalls Try.prog 25 [vN, .int .i64 ((f : Nat) : Int), .int .i64 ((nb : Nat) : Int), .int .i64 ((nw : Nat) : Int), .int .i64 ((sh : Nat) : Int)] H0 (Rets (.bool (sortedK names nb)) H0) := by
  have hF : Wd Fence.wide := .inl rfl
  have hM : Try.prog.follows .mixedOrders = true := by kernel_rfl
  have s0 := St.begin H0
  refine acalls_st Try.func25 rfl Try.ntmps25 rfl ?_
  refine awp_seq ?_
  refine awp_regs hF ?_
  refine dv (gyes_none rfl) (q_as (v := .bool false) rfl) rfl (by decide) (cok1 (cconst rfl)) ?_
  refine ⟨_, Wk.refl _ _, ?_⟩
  show awp _ _ _ _ _ _ _
  refine awp_seq ?_
  refine awp_regs hF ?_
  refine dv (gyes_none rfl) (q_mv (v := vN) rfl) rfl (by decide) (cok1 trivial) ?_
  refine dv (gyes_none rfl) (q_len_sl (l := names) Try.underlying23 (s0.sl hN) rfl) rfl (by decide) (cok1 trivial) ?_
  refine dv (gyes_none rfl) (q_as (v := .int .i64 ((names.length : Nat) : Int)) rfl) rfl (by decide) (cok1 trivial) ?_
  refine ⟨_, Wk.refl _ _, ?_⟩
  show awp _ _ _ _ _ _ _
  refine awp_seq ?_
  refine awp_seq ?_
  refine awp_regs hF ?_
  refine dv (gyes_none rfl) (q_mv (v := .int .i64 ((names.length : Nat) : Int)) rfl) rfl (by decide) (cok1 trivial) ?_
  refine dv (gyes_none rfl) (OpQ.cast (v' := .bool false) (q_int rfl rfl rfl) (congrArg Value.bool (decide_eq_false (by omega)))) rfl (by decide) (cok2 trivial (cconst rfl)) ?_
  refine dv (gyes_none rfl) (q_mv (v := .bool false) rfl) rfl (by decide) (cok1 trivial) ?_
  refine dv (gyes_some rfl rfl) (q_mv (v := .int .i64 ((nb : Nat) : Int)) rfl) rfl (by decide) (cok1 trivial) ?_
  refine dv (gyes_some rfl rfl) (q_call0 Try.call41 rfl (ACalls.castV (v' := .bool true) (within_ok ((nb : Nat) : Int) 1 256) (congrArg Value.bool (decide_eq_true (by omega))))) rfl (by decide) (call_ok rfl) ?_
  refine dv (gyes_some rfl rfl) (q_not (b := true) rfl) rfl (by decide) (cok1 trivial) ?_
  refine dv (gyes_none rfl) (q_pf (v := .bool false) rfl rfl) rfl (by decide) (call_ok rfl) ?_
  refine dv (gyes_none rfl) (q_mv (v := .bool false) rfl) rfl (by decide) (cok1 trivial) ?_
  refine dv (gyes_some rfl rfl) (q_mv (v := .int .i64 ((nw : Nat) : Int)) rfl) rfl (by decide) (cok1 trivial) ?_
  refine dv (gyes_some rfl rfl) (q_call0 Try.call41 rfl (ACalls.castV (v' := .bool true) (within_ok ((nw : Nat) : Int) 1 256) (congrArg Value.bool (decide_eq_true (by omega))))) rfl (by decide) (call_ok rfl) ?_
  refine dv (gyes_some rfl rfl) (q_not (b := true) rfl) rfl (by decide) (cok1 trivial) ?_
  refine dv (gyes_none rfl) (q_pf (v := .bool false) rfl rfl) rfl (by decide) (call_ok rfl) ?_
  refine dv (gyes_none rfl) (q_mv (v := .bool false) rfl) rfl (by decide) (cok1 trivial) ?_
  refine dv (gyes_some rfl rfl) (q_mv (v := .int .i64 ((f : Nat) : Int)) rfl) rfl (by decide) (cok1 trivial) ?_
  refine dv (gyes_some rfl rfl) (q_mv (v := .int .i64 ((names.length : Nat) : Int)) rfl) rfl (by decide) (cok1 trivial) ?_
  refine dv (gyes_some rfl rfl) (OpQ.cast (v' := .int .i64 ((256 - names.length : Nat) : Int)) (q_int rfl rfl rfl) (congrArg _ ((i64_in (by omega)).trans (by omega)))) rfl (by decide) (cok2 (cconst rfl) trivial) ?_
  refine dv (gyes_some rfl rfl) (q_call0 Try.call41 rfl (ACalls.castV (v' := .bool true) (within_ok ((f : Nat) : Int) 0 ((256 - names.length : Nat) : Int)) (congrArg Value.bool (decide_eq_true (by omega))))) rfl (by decide) (call_ok rfl) ?_
  refine dv (gyes_some rfl rfl) (q_not (b := true) rfl) rfl (by decide) (cok1 trivial) ?_
  refine dv (gyes_none rfl) (q_pf (v := .bool false) rfl rfl) rfl (by decide) (call_ok rfl) ?_
  refine dv (gyes_none rfl) (q_mv (v := .bool false) rfl) rfl (by decide) (cok1 trivial) ?_
  refine dv (gyes_some rfl rfl) (q_mv (v := .int .i64 ((sh : Nat) : Int)) rfl) rfl (by decide) (cok1 trivial) ?_
  refine dv (gyes_some rfl rfl) (q_call0 Try.call41 rfl (ACalls.castV (v' := .bool true) (within_ok ((sh : Nat) : Int) 0 63) (congrArg Value.bool (decide_eq_true (by omega))))) rfl (by decide) (call_ok rfl) ?_
  refine dv (gyes_some rfl rfl) (q_not (b := true) rfl) rfl (by decide) (cok1 trivial) ?_
  refine dv (gyes_none rfl) (q_pf (v := .bool false) rfl rfl) rfl (by decide) (call_ok rfl) ?_
  refine dv (gyes_none rfl) (q_mv (v := .bool false) rfl) rfl (by decide) (cok1 trivial) ?_
  refine dv (gyes_some rfl rfl) (q_mv (v := .int .i64 ((f : Nat) : Int)) rfl) rfl (by decide) (cok1 trivial) ?_
  refine dvb (gyes_some rfl rfl) (q_int rfl rfl rfl) rfl (by decide) (cok2 trivial (cconst rfl)) (fun c1 => ?_) (fun c1 => ?_)
  ·
    replace c1 := eq_of_beq c1
    refine dv (gyes_some rfl rfl) (q_mv (v := .bool true) rfl) rfl (by decide) (cok1 trivial) ?_
    refine dv (gyes_some rfl rfl) (q_mv (v := .int .i64 ((names.length : Nat) : Int)) rfl) rfl (by decide) (cok1 trivial) ?_
    refine dvb (gyes_some rfl rfl) (q_int rfl rfl rfl) rfl (by decide) (cok2 trivial (cconst rfl)) (fun c2 => ?_) (fun c2 => ?_)
    ·
      replace c2 := of_decide_eq_true c2
      exfalso; omega
    ·
      replace c2 := of_decide_eq_false c2
      refine dv (gyes_some rfl rfl) (q_pt (v := .bool false) rfl rfl) rfl (by decide) (call_ok rfl) ?_
      refine dv (gyes_none rfl) (q_pf (v := .bool false) rfl rfl) rfl (by decide) (call_ok rfl) ?_
      refine ⟨_, Wk.refl _ _, ?_⟩
      show awp _ _ _ _ _ _ _
      refine awp_cond_f rfl ?_
      refine awp_skip_wk ?_
      refine ⟨_, Wk.refl _ _, ?_⟩
      show awp _ _ _ _ _ _ _
      refine awp_seq ?_
      refine awp_regs hF ?_
      refine dv (gyes_none rfl) (q_mv (v := vN) rfl) rfl (by decide) (cok1 trivial) ?_
      refine dv (gyes_none rfl) (q_mv (v := .int .i64 ((nb : Nat) : Int)) rfl) rfl (by decide) (cok1 trivial) ?_
      refine x_call [] hF (by kernel_rfl) (gyes_none rfl) Try.call8 rfl (args := [vN, .int .i64 ((nb : Nat) : Int)]) rfl (order_ok vN names (s0.sl hN) hsz hn40 nb (by omega) (by omega)) (show _ < _ by decide) (call_ok rfl) rfl rfl (fun _ _ _ _ hd => by cases hd) ?_
      rintro _ H3 ⟨b1, l2, hk4, hb5, rfl, ho6, hg7⟩
      have s8 := s0.callN hk4 hb5 hg7
      refine ⟨trivial, ?_⟩
      show dList _ _ _ _ _ _ _ _ _ _
      refine dv (gyes_none rfl) (q_call0 Try.call42 rfl (ACalls.castV (v' := .bool (sortedK names nb)) (issorted_ok _ l2 (s8.slj (j := 0) rfl ho6.len (Nat.le_refl _)) (by rw [ho6.len]; omega)) (congrArg Value.bool ho6.sorted))) rfl (by decide) (cok2 trivial trivial) ?_
      refine dv (gyes_none rfl) (q_as (v := .bool (sortedK names nb)) rfl) rfl (by decide) (cok1 trivial) ?_
      refine ⟨_, Wk.refl _ _, ?_⟩
      show awp _ _ _ _ _ _ _
      refine awp_ret_wk ?_
      refine ⟨_, Wk.refl _ _, ?_⟩
      repeat (with_reducible first | refine then_ret ?_ | refine blk_ret ?_ | refine then_exit ?_ | refine blk_exit ?_ | refine blk_exit' (by decide) ?_ | refine blk_normal ?_ | refine then_normal ?_ | refine retq_ret ?_ | refine retq_normal ?_ | refine ng_normal ?_ | refine ng_ret ?_ | refine ng_exit ?_)
      exact ret_none (v := .bool (sortedK names nb)) rfl s8.kp (.tmp rfl .nil) rfl rfl ⟨rfl, rfl⟩
  ·
    replace c1 := ne_of_beq_false c1
    refine dv (gyes_some rfl rfl) (q_mv (v := .bool false) rfl) rfl (by decide) (cok1 trivial) ?_
    refine dno rfl (.inl rfl) rfl (by decide) ?_
    refine dno rfl (.inl rfl) rfl (by decide) ?_
    refine dv (gyes_some rfl rfl) (q_pf (v := .bool false) rfl rfl) rfl (by decide) (call_ok rfl) ?_
    refine dv (gyes_none rfl) (q_pf (v := .bool false) rfl rfl) rfl (by decide) (call_ok rfl) ?_
    refine ⟨_, Wk.refl _ _, ?_⟩
    show awp _ _ _ _ _ _ _
    refine awp_cond_f rfl ?_
    refine awp_skip_wk ?_
    refine ⟨_, Wk.refl _ _, ?_⟩
    show awp _ _ _ _ _ _ _
    refine awp_seq ?_
    refine awp_regs hF ?_
    refine dv (gyes_none rfl) (q_mv (v := vN) rfl) rfl (by decide) (cok1 trivial) ?_
    refine dv (gyes_none rfl) (q_mv (v := .int .i64 ((nb : Nat) : Int)) rfl) rfl (by decide) (cok1 trivial) ?_
    refine x_call [] hF (by kernel_rfl) (gyes_none rfl) Try.call8 rfl (args := [vN, .int .i64 ((nb : Nat) : Int)]) rfl (order_ok vN names (s0.sl hN) hsz hn40 nb (by omega) (by omega)) (show _ < _ by decide) (call_ok rfl) rfl rfl (fun _ _ _ _ hd => by cases hd) ?_
    rintro _ H11 ⟨b9, l10, hk12, hb13, rfl, ho14, hg15⟩
    have s16 := s0.callN hk12 hb13 hg15
    refine ⟨trivial, ?_⟩
    show dList _ _ _ _ _ _ _ _ _ _
    refine dv (gyes_none rfl) (q_call0 Try.call42 rfl (ACalls.castV (v' := .bool (sortedK names nb)) (issorted_ok _ l10 (s16.slj (j := 0) rfl ho14.len (Nat.le_refl _)) (by rw [ho14.len]; omega)) (congrArg Value.bool ho14.sorted))) rfl (by decide) (cok2 trivial trivial) ?_
    refine dv (gyes_none rfl) (q_as (v := .bool (sortedK names nb)) rfl) rfl (by decide) (cok1 trivial) ?_
    refine ⟨_, Wk.refl _ _, ?_⟩
    show awp _ _ _ _ _ _ _
    refine awp_ret_wk ?_
    refine ⟨_, Wk.refl _ _, ?_⟩
    repeat (with_reducible first | refine then_ret ?_ | refine blk_ret ?_ | refine then_exit ?_ | refine blk_exit ?_ | refine blk_exit' (by decide) ?_ | refine blk_normal ?_ | refine then_normal ?_ | refine retq_ret ?_ | refine retq_normal ?_ | refine ng_normal ?_ | refine ng_ret ?_ | refine ng_exit ?_)
    exact ret_none (v := .bool (sortedK names nb)) rfl s16.kp (.tmp rfl .nil) rfl rfl ⟨rfl, rfl⟩

end Go.Proofs.YtponfeigjmjbmaaA


/-
  Ends whose results hold what the caller had: nothing is changed, what is new is dropped.
-/
namespace Go.Proofs.YtponfeigjmjbmaaA
set_option linter.unusedVariables false
open Go Go.RowKit Go.Proofs
section
variable {P : Program} {N0 H : AHeap} {nt : Nat} {T : Nat → Value} {fn : Func} {Q : Value → AHeap → Prop} {vs : List Value} {v : Value} {s : ASt}
end
theorem Sl.vsubG {α : Type} {f : α → Value} {H : AHeap} {v : Value} {l : List α} {φ : Nat → Option Nat} (h : Sl f H v l) (hφ : ∀ b, b < H.length → φ b = some b) : VSub φ v v := by
  rcases h with ⟨rfl, _⟩ | ⟨b, o, c, vs, rfl, hR, _⟩
  · exact .scalar rfl
  · exact .slice (hφ _ hR.lt)
def keep2 (n b0 c0 : Nat) : Nat → Option Nat := fun b => if b < n then some b else if b = n then some b0 else if b = n + 1 then some c0 else none
theorem gc_two {N0 H : AHeap} (k : K0 N0 H) {b0 c0 : Nat} (hb : N0.length ≤ b0) (hc : N0.length ≤ c0) (hne : b0 ≠ c0) {o p : AObj} (ho : H[b0]? = some o) (hp : H[c0]? = some p) (hO : OSub (keep2 N0.length b0 c0) o o) (hP : OSub (keep2 N0.length b0 c0) p p) (hg : ∀ vs sz, o ≠ .glob vs sz) (hg2 : ∀ vs sz, p ≠ .glob vs sz) : Gc N0 (keep2 N0.length b0 c0) H (N0 ++ [o, p]) := by
  have e1 : ∀ b c, keep2 N0.length b0 c0 b = some c → (b < N0.length ∧ c = b) ∨ (b = N0.length ∧ c = b0) ∨ (b = N0.length + 1 ∧ c = c0) := fun b c h => by
    unfold keep2 at h
    split at h
    · rename_i hb; cases h; exact .inl ⟨hb, rfl⟩
    · split at h
      · rename_i hb; cases h; exact .inr (.inl ⟨hb, rfl⟩)
      · split at h
        · rename_i hb; cases h; exact .inr (.inr ⟨hb, rfl⟩)
        · cases h
  refine ⟨fun b hb => if_pos hb, by simp, fun b c d hb' hc' => ?_, fun b hb' => ?_, fun b c hb' => ?_, fun g vs sz hg' => ?_⟩
  · rcases e1 _ _ hb' with ⟨h1, h1'⟩ | ⟨h1, h1'⟩ | ⟨h1, h1'⟩ <;> rcases e1 _ _ hc' with ⟨h2, h3⟩ | ⟨h2, h3⟩ | ⟨h2, h3⟩ <;> omega
  · simp only [List.length_append, List.length_cons, List.length_nil] at hb'
    unfold keep2; rw [if_neg (by omega), if_neg (by omega), if_neg (by omega)]
  · rcases e1 _ _ hb' with ⟨h1, rfl⟩ | ⟨rfl, rfl⟩ | ⟨rfl, rfl⟩
    · exact .inl ⟨h1, (k.get _ h1 fun h => h).symm, by rw [List.getElem?_append_left h1]; exact (k.get _ h1 fun h => h).symm⟩
    · exact .inr ⟨o, o, by simp, ho, hO⟩
    · exact .inr ⟨p, p, by simp, hp, hP⟩
  · by_cases hl : g < N0.length
    · rw [List.getElem?_append_left hl] at hg'
      exact ⟨if_pos hl, by rw [k.get _ hl fun h => h]; exact hg'⟩
    · rw [List.getElem?_append_right (by omega)] at hg'
      have := List.mem_of_getElem? hg'
      simp at this
      rcases this with e | e
      · exact absurd e.symm (hg vs sz)
      · exact absurd e.symm (hg2 vs sz)
theorem acalls_new2 {P : Program} {g : FuncId} {args : List Value} {H : AHeap} {V : Nat → Nat → Value} {o1 o2 : AObj} (hV : ∀ b c, VSub (keep2 H.length b c) (V H.length (H.length + 1)) (V b c)) (h1 : ∀ b c, OSub (keep2 H.length b c) o1 o1) (h2 : ∀ b c, OSub (keep2 H.length b c) o2 o2) (hg : ∀ vs sz, o1 ≠ .glob vs sz) (hg2 : ∀ vs sz, o2 ≠ .glob vs sz)
    (h : ACalls P g args H (fun v H' => ∃ c b, v = V b c ∧ NewL H H' [(c, o2), (b, o1)])) : ACalls P g args H (Rets (V H.length (H.length + 1)) (H ++ [o1, o2])) := by
  intro ρ w args' hh ha
  refine (h ρ w args' hh ha).mono ?_
  rintro e w' ⟨v, v', H', ρ', rfl, ⟨c, b, rfl, k, hnd, hl, hat⟩, h2', h3, h4, h5⟩
  have hc := hl (c, o2) (by simp)
  have hb := hl (b, o1) (by simp)
  have hne : b ≠ c := by intro e; subst e; simp at hnd
  have hgc := gc_two k hb hc hne hat.2.1 hat.1 (h1 b c) (h2 b c) hg hg2
  exact ⟨_, v', _, comp (keep2 H.length b c) ρ', rfl, ⟨rfl, rfl⟩, hV b c ρ' v' h2', hgc.heap h3 (entry_of hh h4), h4.trans (hgc.fr ρ' w'), by simp⟩
theorem keep2_lt {n b c x : Nat} (h : x < n) : keep2 n b c x = some x := if_pos h
theorem keep2_0 {n b c : Nat} : keep2 n b c n = some b := by unfold keep2; rw [if_neg (Nat.lt_irrefl _), if_pos rfl]
theorem keep2_1 {n b c : Nat} : keep2 n b c (n + 1) = some c := by unfold keep2; rw [if_neg (by omega), if_neg (by omega), if_pos rfl]
theorem vsub_fn2 {φ : Nat → Option Nat} {f b2 c2 b c : Nat} (h1 : φ b2 = some b) (h2 : φ c2 = some c) : VSub φ (.func (.func f) #[] #[.pointer (some ⟨b2, 0, none⟩), .pointer (some ⟨c2, 0, none⟩)]) (.func (.func f) #[] #[.pointer (some ⟨b, 0, none⟩), .pointer (some ⟨c, 0, none⟩)]) :=
  .func rfl fun i hi => by
    match i, hi with
    | 0, _ => exact .ptr h1
    | 1, _ => exact .ptr h2
end Go.Proofs.YtponfeigjmjbmaaA


/-
  Walks of functions of the given program, and what they compute.
-/
namespace Go.Proofs.YtponfeigjmjbmaaA
set_option linter.unusedVariables false
open Go Go.RowKit Go.Shelf Go.Proofs
theorem one_shl {k : Nat} (h : k < 64) : 1 * 2 ^ k < 18446744073709551616 := by rw [Nat.one_mul]; exact Nat.pow_lt_pow_right (by decide) h
def bitV (h sh : Nat) : Nat := 1 * 2 ^ (h % 64) ||| 1 * 2 ^ ((h / 2 ^ sh) % 64)
theorem bitV_lt (h sh : Nat) : bitV h sh < 18446744073709551616 := Nat.or_lt_two_pow (n := 64) (one_shl (Nat.mod_lt _ (by decide))) (one_shl (Nat.mod_lt _ (by decide)))
def mayV (lb : List Nat) (sh h : Nat) : Bool := if lb.length = 0 then false else decide (nth lb (h / 64 % lb.length) &&& bitV h sh = bitV h sh)
theorem beq_cast (a b : Nat) : (((a : Nat) : Int) == ((b : Nat) : Int)) = decide (a = b) := by
  rw [Bool.eq_iff_iff, beq_iff_eq, decide_eq_true_iff]; omega
theorem and_even {a : Nat} (h : a < 4294967296) : a &&& 4294967294 = a / 2 * 2 := by
  refine Nat.eq_of_testBit_eq fun i => ?_
  cases i with
  | zero => rw [Nat.testBit_zero, Nat.testBit_zero]; simp [Nat.mul_mod_left]
  | succ i =>
    rw [Nat.testBit_succ, Nat.testBit_succ, Nat.mul_div_cancel _ (by decide), Nat.and_div_two]
    show ((a / 2) &&& 2147483647).testBit i = _
    rw [show (2147483647 : Nat) = 2 ^ 31 - 1 from rfl, Nat.and_two_pow_sub_one_eq_mod, Nat.mod_eq_of_lt (by omega)]
theorem q_andNot1 {P : Program} {T : Nat → Value} {H : AHeap} {dst : Option Tmp} {ty : TypeId} {pos : String} {af : Array Edge} {g : Option (Nat × Bool)} {t u : TypeId} {x y : Operand} {a : Nat} (hx : ev T x = .int .u32 (a : Int)) (hy : ev T y = .int .u32 1) (ha : a < 4294967296) :
    OpQ P ⟨dst, .binOp .andNot t x y u, ty, pos, af, g⟩ T H (.int .u32 ((a / 2 * 2 : Nat) : Int)) [] := by
  refine (q_int hx hy rfl).cast (congrArg _ ?_)
  have e : (BitVec.ofInt IntKind.u32.bits (a : Int) &&& ~~~BitVec.ofInt IntKind.u32.bits 1).toNat = a / 2 * 2 := by
    rw [BitVec.toNat_and, ofInt_nat (n := IntKind.u32.bits) ha]
    exact and_even ha
  rw [e]
  exact wrapU_in .u32 rfl (by show _ < 4294967296; omega)
theorem or1 (k : Nat) : k / 2 * 2 ||| 1 = k / 2 * 2 + 1 := by
  have h := Nat.shiftLeft_add_eq_or_of_lt (i := 1) (b := 1) (by decide) (k / 2)
  rw [Nat.shiftLeft_eq] at h
  exact h.symm
theorem or1_div (a : Nat) : (a ||| 1) / 2 = a / 2 := by rw [Nat.or_div_two]; simp
theorem or1_mod (a : Nat) : (a ||| 1) % 2 = 1 := by rw [← Nat.and_one_is_mod, Nat.and_or_distrib_right]; rw [Nat.and_one_is_mod]; rcases Nat.mod_two_eq_zero_or_one a with h | h <;> rw [h] <;> rfl
theorem or1_eq {a b : Nat} : a ||| 1 = b ||| 1 ↔ a / 2 = b / 2 := by
  constructor
  · intro h; rw [← or1_div a, h, or1_div]
  · intro h
    have h1 := or1_div a; have h2 := or1_div b; have h3 := or1_mod a; have h4 := or1_mod b
    omega
theorem or_set {ch : List Nat} {i h : Nat} (hi : i < ch.length) : (((nth (ch.set i (h / 2 * 2)) i ||| 1 : Nat)) : Int) = ((h / 2 * 2 + 1 : Nat) : Int) := by
  rw [nth_setN, if_pos ⟨rfl, hi⟩, or1]
def blN (names : List ByteArray) (nw sh : Nat) : Nat → List Nat
  | 0 => List.replicate nw 0
  | i + 1 => (blN names nw sh i).set (gh (nth names i) / 64 % nw) (nth (blN names nw sh i) (gh (nth names i) / 64 % nw) ||| bitV (gh (nth names i)) sh)
def bkN (names : List ByteArray) (nb f : Nat) : Nat → List Nat
  | 0 => List.replicate nb 0
  | i + 1 => if nth (bkN names nb f i) (gkey names nb i) = 0 then (bkN names nb f i).set (gkey names nb i) (f + i) else bkN names nb f i
def lastB (names : List ByteArray) (nb i : Nat) : Prop := i + 1 = names.length ∨ gkey names nb (i + 1) ≠ gkey names nb i
instance (names : List ByteArray) (nb i : Nat) : Decidable (lastB names nb i) := inferInstanceAs (Decidable (_ ∨ _))
def chV (names : List ByteArray) (nb i : Nat) : Nat := gh (nth names i) / 2 * 2 + if lastB names nb i then 1 else 0
def chN (names : List ByteArray) (nb : Nat) : Nat → List Nat
  | 0 => List.replicate names.length 0
  | i + 1 => (chN names nb i).set i (chV names nb i)
section
variable {names : List ByteArray} {nw sh nb f i : Nat}
theorem blN_len : ∀ i, (blN names nw sh i).length = nw
  | 0 => List.length_replicate
  | i + 1 => by rw [blN, List.length_set, blN_len i]
theorem bkN_len : ∀ i, (bkN names nb f i).length = nb
  | 0 => List.length_replicate
  | i + 1 => by rw [bkN]; split; rw [List.length_set, bkN_len i]; exact bkN_len i
theorem chN_len : ∀ i, (chN names nb i).length = names.length
  | 0 => List.length_replicate
  | i + 1 => by rw [chN, List.length_set, chN_len i]
theorem nth_lt_of {l : List Nat} {M i : Nat} (h : ∀ x ∈ l, x < M) (hM : 0 < M) : nth l i < M := by
  by_cases e : i < l.length
  · exact h _ (nthS_mem e)
  · unfold nth; rw [List.getD_eq_getElem?_getD, List.getElem?_eq_none (by omega)]; exact hM
theorem blN_w : ∀ i, ∀ x ∈ blN names nw sh i, x < 18446744073709551616
  | 0, x, hx => by rw [List.eq_of_mem_replicate (show x ∈ List.replicate nw 0 from hx)]; decide
  | i + 1, x, hx => by
    rcases List.mem_or_eq_of_mem_set (show x ∈ (blN names nw sh i).set _ _ from hx) with hx | rfl
    · exact blN_w i x hx
    · exact Nat.or_lt_two_pow (n := 64) (nth_lt_of (blN_w i) (by decide)) (bitV_lt _ _)
theorem bkN_w (h : f + i ≤ 1000) : ∀ x ∈ bkN names nb f i, x < 1000 := by
  induction i with
  | zero => intro x hx; rw [List.eq_of_mem_replicate (show x ∈ List.replicate nb 0 from hx)]; decide
  | succ i ih =>
    intro x hx
    rw [bkN] at hx
    split at hx
    · rcases List.mem_or_eq_of_mem_set hx with hx | rfl
      · exact ih (by omega) x hx
      · omega
    · exact ih (by omega) x hx
theorem chV_lt : chV names nb i < 4294967296 := by have := gh_lt (nth names i); unfold chV; split <;> omega
theorem chN_w : ∀ i, ∀ x ∈ chN names nb i, x < 4294967296
  | 0, x, hx => by rw [List.eq_of_mem_replicate (show x ∈ List.replicate names.length 0 from hx)]; decide
  | i + 1, x, hx => by
    rcases List.mem_or_eq_of_mem_set (show x ∈ (chN names nb i).set _ _ from hx) with hx | rfl
    · exact chN_w i x hx
    · exact chV_lt
theorem bl_step {bl : List Nat} (hb : bl = blN names nw sh i) (hl : bl.length = nw) : bl.set (gh (nth names i) / 64 % bl.length) (nth bl (gh (nth names i) / 64 % bl.length) ||| bitV (gh (nth names i)) sh) = blN names nw sh (i + 1) := by rw [hl]; subst hb; rfl
theorem bk_y {bk : List Nat} (hb : bk = bkN names nb f i) (h0 : nth bk (gh (nth names i) % nb) = 0) : bk.set (gh (nth names i) % nb) (f + i) = bkN names nb f (i + 1) := by subst hb; exact (if_pos (c := nth (bkN names nb f i) (gkey names nb i) = 0) h0).symm
theorem bk_n {bk : List Nat} (hb : bk = bkN names nb f i) (h0 : ¬ nth bk (gh (nth names i) % nb) = 0) : bk = bkN names nb f (i + 1) := by subst hb; exact (if_neg (c := nth (bkN names nb f i) (gkey names nb i) = 0) h0).symm
theorem ch_1 {ch : List Nat} (hb : ch = chN names nb i) (h : lastB names nb i) : (ch.set i (gh (nth names i) / 2 * 2)).set i (gh (nth names i) / 2 * 2 + 1) = chN names nb (i + 1) := by subst hb; rw [List.set_set, chN, chV, if_pos h]
theorem ch_0 {ch : List Nat} (hb : ch = chN names nb i) (h : ¬ lastB names nb i) : ch.set i (gh (nth names i) / 2 * 2) = chN names nb (i + 1) := by subst hb; rw [chN, chV, if_neg h]; rfl
end
set_option maxRecDepth 100000 in
set_option maxHeartbeats 4000000 in
theorem word_ok {H0 : AHeap} (f sh : Nat) (vb vk vc : Value) (lb lk lc : List Nat) (hb : Sl u64v H0 vb lb) (hk : Sl u32v H0 vk lk) (hc : Sl u32v H0 vc lc) (h : Nat) (hh : h < 4294967296) (h0 : 0 < lb.length) (hl : lb.length < 4294967296) : ACalls Try.prog 26 [.agg #[.int .u32 ((f : Nat) : Int), .int .u32 ((sh : Nat) : Int), vb, vk, vc], .int .u32 ((h : Nat) : Int)] H0 (Rets (.tuple #[.int .i64 ((h / 64 % lb.length : Nat) : Int), .int .u64 ((bitV h sh : Nat) : Int)]) H0) := by
  have hF : Wd Fence.wide := .inl rfl
  have hM : Try.prog.follows .mixedOrders = true := by kernel_rfl
  have hm := Nat.mod_lt (h / 64) h0
  have s0 := St.begin H0
  refine acalls_st Try.func26 rfl Try.ntmps26 rfl ?_
  refine awp_seq ?_
  refine awp_regs hF ?_
  refine x_new (fun b => .pointer (some ⟨b, 0, none⟩)) s0 (gyes_none rfl) (q_box (v := .agg #[.int .u32 ((f : Nat) : Int), .int .u32 ((sh : Nat) : Int), vb, vk, vc]) (vs := [.int .u32 ((f : Nat) : Int), .int .u32 ((sh : Nat) : Int), vb, vk, vc]) 5 rfl (by exact trivial) rfl) rfl (by decide) (cok1 trivial) (fun b1 H2 hb4 s3 => ?_)
  refine dv (gyes_none rfl) (q_as (v := .int .i64 0) rfl) rfl (by decide) (cok1 (cconst rfl)) ?_
  refine dv (gyes_none rfl) (q_as (v := .int .u64 0) rfl) rfl (by decide) (cok1 (cconst rfl)) ?_
  refine ⟨_, Wk.refl _ _, ?_⟩
  show awp _ _ _ _ _ _ _
  refine awp_seq ?_
  refine awp_regt hF hM (by kernel_rfl) (by kernel_rfl) ?_
  refine dv (gyes_none rfl) (q_mv (v := .int .u32 ((h : Nat) : Int)) rfl) rfl (by decide) (cok1 trivial) ?_
  refine dv (gyes_none rfl) (q_quoM (a := h) (b := 64) rfl rfl (by first | decide | omega) (u32_in (by have := div_le_of (a := h) (b := 64) (M := 4294967295) (by omega); omega))) rfl (by decide) (cok2 trivial (cconst rfl)) ?_
  refine dv (gyes_none rfl) (q_field Try.underlying31 rfl Try.sizeOf28 rfl (s3.rd (j := 0) rfl)) rfl (by decide) (cok1 trivial) ?_
  refine dv (gyes_none rfl) (q_load (v := vb) Try.isAgg28 rfl (s3.rd (j := 0) rfl) rfl) rfl (by decide) (cok1 trivial) ?_
  refine dv (gyes_none rfl) (q_len_sl (l := lb) Try.underlying28 (s3.sl hb) rfl) rfl (by decide) (cok1 trivial) ?_
  refine dv (gyes_none rfl) (q_convin (a := ((lb.length : Nat) : Int)) Try.underlying3 Try.underlying27 rfl (u32_in (by omega))) rfl (by decide) (cok1 trivial) ?_
  refine dv (gyes_none rfl) (q_remM (a := (h / 64)) (b := lb.length) rfl rfl h0) rfl (by decide) (cok2 trivial trivial) ?_
  refine dv (gyes_none rfl) (q_convin (a := (((h / 64) % lb.length : Nat) : Int)) Try.underlying27 Try.underlying3 rfl (i64_in (by omega))) rfl (by decide) (cok1 trivial) ?_
  refine dv (gyes_none rfl) (q_mv (v := .int .u32 ((h : Nat) : Int)) rfl) rfl (by decide) (cok1 trivial) ?_
  refine dv (gyes_none rfl) (q_remM (a := h) (b := 64) rfl rfl (by first | decide | omega)) rfl (by decide) (cok2 trivial (cconst rfl)) ?_
  refine dv (gyes_none rfl) (q_shlN (a := 1) (c := (h % 64)) rfl rfl rfl (by show _ ≤ 64; omega) (one_shl (by omega))) rfl (by decide) (cok2 (cconst rfl) trivial) ?_
  refine dv (gyes_none rfl) (q_mv (v := .int .u32 ((h : Nat) : Int)) rfl) rfl (by decide) (cok1 trivial) ?_
  refine dv (gyes_none rfl) (q_field Try.underlying31 rfl Try.sizeOf27 rfl (s3.rd (j := 0) rfl)) rfl (by decide) (cok1 trivial) ?_
  refine dv (gyes_none rfl) (q_load (v := .int .u32 ((sh : Nat) : Int)) Try.isAgg27 rfl (s3.rd (j := 0) rfl) rfl) rfl (by decide) (cok1 trivial) ?_
  refine dv (gyes_none rfl) (q_shrN (a := h) (c := sh) rfl rfl hh) rfl (by decide) (cok2 trivial trivial) ?_
  refine dv (gyes_none rfl) (q_remM (a := (h / 2 ^ sh)) (b := 64) rfl rfl (by first | decide | omega)) rfl (by decide) (cok2 trivial (cconst rfl)) ?_
  refine dv (gyes_none rfl) (q_shlN (a := 1) (c := ((h / 2 ^ sh) % 64)) rfl rfl rfl (by show _ ≤ 64; omega) (one_shl (by omega))) rfl (by decide) (cok2 (cconst rfl) trivial) ?_
  refine dv (gyes_none rfl) (q_orN (a := (1 * 2 ^ (h % 64))) (b := (1 * 2 ^ ((h / 2 ^ sh) % 64))) rfl rfl rfl (one_shl (by omega)) (one_shl (by omega))) rfl (by decide) (cok2 trivial trivial) ?_
  refine dv (gyes_none rfl) (q_as (v := .int .i64 (((h / 64) % lb.length : Nat) : Int)) rfl) rfl (by decide) (cok1 trivial) ?_
  refine dv (gyes_none rfl) (q_as (v := .int .u64 (((1 * 2 ^ (h % 64)) ||| (1 * 2 ^ ((h / 2 ^ sh) % 64)) : Nat) : Int)) rfl) rfl (by decide) (cok1 trivial) ?_
  refine ⟨_, Wk.refl _ _, ?_⟩
  show awp _ _ _ _ _ _ _
  refine awp_ret_wk ?_
  refine ⟨_, Wk.refl _ _, ?_⟩
  repeat (with_reducible first | refine then_ret ?_ | refine blk_ret ?_ | refine then_exit ?_ | refine blk_exit ?_ | refine blk_exit' (by decide) ?_ | refine blk_normal ?_ | refine then_normal ?_ | refine retq_ret ?_ | refine retq_normal ?_ | refine ng_normal ?_ | refine ng_ret ?_ | refine ng_exit ?_)
  exact ret_none (v := .tuple #[.int .i64 (((h / 64) % lb.length : Nat) : Int), .int .u64 (((1 * 2 ^ (h % 64)) ||| (1 * 2 ^ ((h / 2 ^ sh) % 64)) : Nat) : Int)]) rfl s3.kp (.tmp rfl (.tmp rfl .nil)) rfl rfl ⟨rfl, rfl⟩
set_option maxRecDepth 100000 in
set_option maxHeartbeats 4000000 in
theorem may_ok {H0 : AHeap} (f sh : Nat) (vb vk vc : Value) (lb lk lc : List Nat) (hb : Sl u64v H0 vb lb) (hk : Sl u32v H0 vk lk) (hc : Sl u32v H0 vc lc) (s : ByteArray) (hs : s.size ≤ 140737488355328) (hl : lb.length < 4294967296) (hw : ∀ x ∈ lb, x < 18446744073709551616) : ACalls Try.prog 12 [.agg #[.int .u32 ((f : Nat) : Int), .int .u32 ((sh : Nat) : Int), vb, vk, vc], .string s] H0 (Rets (.bool (mayV lb sh (gh s))) H0) := by
  have hF : Wd Fence.wide := .inl rfl
  have hM : Try.prog.follows .mixedOrders = true := by kernel_rfl
  have s0 := St.begin H0
  refine acalls_st Try.func12 rfl Try.ntmps12 rfl ?_
  refine awp_seq ?_
  refine awp_regs hF ?_
  refine x_new (fun b => .pointer (some ⟨b, 0, none⟩)) s0 (gyes_none rfl) (q_box (v := .agg #[.int .u32 ((f : Nat) : Int), .int .u32 ((sh : Nat) : Int), vb, vk, vc]) (vs := [.int .u32 ((f : Nat) : Int), .int .u32 ((sh : Nat) : Int), vb, vk, vc]) 5 rfl (by exact trivial) rfl) rfl (by decide) (cok1 trivial) (fun b1 H2 hb4 s3 => ?_)
  refine dv (gyes_none rfl) (q_as (v := .bool false) rfl) rfl (by decide) (cok1 (cconst rfl)) ?_
  refine ⟨_, Wk.refl _ _, ?_⟩
  show awp _ _ _ _ _ _ _
  refine awp_seq ?_
  refine awp_seq ?_
  refine awp_regs hF ?_
  refine dv (gyes_none rfl) (q_field Try.underlying31 rfl Try.sizeOf28 rfl (s3.rd (j := 0) rfl)) rfl (by decide) (cok1 trivial) ?_
  refine dv (gyes_none rfl) (q_load (v := vb) Try.isAgg28 rfl (s3.rd (j := 0) rfl) rfl) rfl (by decide) (cok1 trivial) ?_
  refine dv (gyes_none rfl) (q_len_sl (l := lb) Try.underlying28 (s3.sl hb) rfl) rfl (by decide) (cok1 trivial) ?_
  refine dvb (gyes_none rfl) (q_int rfl rfl rfl) rfl (by decide) (cok2 trivial (cconst rfl)) (fun c1 => ?_) (fun c1 => ?_)
  ·
    replace c1 := eq_of_beq c1
    refine ⟨_, Wk.refl _ _, ?_⟩
    show awp _ _ _ _ _ _ _
    refine awp_cond_t rfl ?_
    refine awp_seq ?_
    refine awp_regs hF ?_
    refine dv (gyes_none rfl) (q_as (v := .bool false) rfl) rfl (by decide) (cok1 (cconst rfl)) ?_
    refine ⟨_, Wk.refl _ _, ?_⟩
    show awp _ _ _ _ _ _ _
    refine awp_ret_wk ?_
    refine ⟨_, Wk.refl _ _, ?_⟩
    repeat (with_reducible first | refine then_ret ?_ | refine blk_ret ?_ | refine then_exit ?_ | refine blk_exit ?_ | refine blk_exit' (by decide) ?_ | refine blk_normal ?_ | refine then_normal ?_ | refine retq_ret ?_ | refine retq_normal ?_ | refine ng_normal ?_ | refine ng_ret ?_ | refine ng_exit ?_)
    exact ret_none (v := .bool false) rfl s3.kp (.tmp rfl .nil) rfl rfl ⟨congrArg _ (by unfold mayV; rw [if_pos (by omega)]), rfl⟩
  ·
    replace c1 := ne_of_beq_false c1
    refine ⟨_, Wk.refl _ _, ?_⟩
    show awp _ _ _ _ _ _ _
    refine awp_cond_f rfl ?_
    refine awp_skip_wk ?_
    refine ⟨_, Wk.refl _ _, ?_⟩
    show awp _ _ _ _ _ _ _
    refine awp_seq ?_
    refine awp_regt hF hM (by kernel_rfl) (by kernel_rfl) ?_
    refine dv (gyes_none rfl) (q_loadAgg Try.isAgg31 Try.sizeOf31 rfl (s3.rd (j := 0) rfl) (Nat.le_of_ble_eq_true rfl) rfl) rfl (by decide) (cok1 trivial) ?_
    refine dv (gyes_none rfl) (q_mv (v := .string s) rfl) rfl (by decide) (cok1 trivial) ?_
    refine dv (gyes_none rfl) (q_call0 Try.call19 rfl (hash_ok s hs)) rfl (by decide) (cok2 trivial trivial) ?_
    refine dv (gyes_none rfl) (q_call0 Try.call26 rfl (word_ok f sh _ _ _ lb lk lc (s3.sl hb) (s3.sl hk) (s3.sl hc) (gh s) (by first | assumption | exact gh_lt _) (by omega) (by omega))) rfl (by decide) (call_ok rfl) ?_
    refine dv (gyes_none rfl) (q_mv (v := .tuple #[.int .i64 (((gh s) / 64 % lb.length : Nat) : Int), .int .u64 ((bitV (gh s) sh : Nat) : Int)]) rfl) rfl (by decide) (cok1 trivial) ?_
    refine dv (gyes_none rfl) (q_extract (v := .int .i64 (((gh s) / 64 % lb.length : Nat) : Int)) rfl rfl) rfl (by decide) (cok1 trivial) ?_
    refine dv (gyes_none rfl) (q_extract (v := .int .u64 ((bitV (gh s) sh : Nat) : Int)) rfl rfl) rfl (by decide) (cok1 trivial) ?_
    refine dv (gyes_none rfl) (q_as (v := .int .i64 (((gh s) / 64 % lb.length : Nat) : Int)) rfl) rfl (by decide) (cok1 trivial) ?_
    refine dv (gyes_none rfl) (q_as (v := .int .u64 ((bitV (gh s) sh : Nat) : Int)) rfl) rfl (by decide) (cok1 trivial) ?_
    refine ⟨_, Wk.refl _ _, ?_⟩
    show awp _ _ _ _ _ _ _
    refine awp_seq ?_
    have hm := Nat.mod_lt (gh s / 64) (show 0 < lb.length by omega)
    refine awp_regs hF ?_
    refine dv (gyes_none rfl) (q_field Try.underlying31 rfl Try.sizeOf28 rfl (s3.rd (j := 0) rfl)) rfl (by decide) (cok1 trivial) ?_
    refine dv (gyes_none rfl) (q_load (v := vb) Try.isAgg28 rfl (s3.rd (j := 0) rfl) rfl) rfl (by decide) (cok1 trivial) ?_
    refine dv (gyes_none rfl) (q_mv (v := .int .i64 (((gh s) / 64 % lb.length : Nat) : Int)) rfl) rfl (by decide) (cok1 trivial) ?_
    refine dv (gyes_none rfl) (q_index_sl (l := lb) (i := ((gh s) / 64 % lb.length)) Try.underlying28 Try.sizeOf45 (s3.sl hb) rfl rfl (by omega)) rfl (by decide) (cok2 trivial trivial) ?_
    refine dv (gyes_none rfl) (q_load_sl (l := lb) (i := ((gh s) / 64 % lb.length)) Try.isAgg45 (s3.sl hb) rfl (by omega)) rfl (by decide) (cok1 trivial) ?_
    refine dv (gyes_none rfl) (q_mv (v := .int .u64 ((bitV (gh s) sh : Nat) : Int)) rfl) rfl (by decide) (cok1 trivial) ?_
    refine dv (gyes_none rfl) (q_andN (a := (nth lb ((gh s) / 64 % lb.length))) (b := (bitV (gh s) sh)) rfl rfl rfl (hw _ (nthS_mem hm)) (bitV_lt _ _)) rfl (by decide) (cok2 trivial trivial) ?_
    refine dv (gyes_none rfl) (q_mv (v := .int .u64 ((bitV (gh s) sh : Nat) : Int)) rfl) rfl (by decide) (cok1 trivial) ?_
    refine dv (gyes_none rfl) (q_int rfl rfl rfl) rfl (by decide) (cok2 trivial trivial) ?_
    refine dv (gyes_none rfl) (q_as (v := .bool (((((nth lb ((gh s) / 64 % lb.length)) &&& (bitV (gh s) sh) : Nat) : Int) : Int) == ((bitV (gh s) sh : Nat) : Int))) rfl) rfl (by decide) (cok1 trivial) ?_
    refine ⟨_, Wk.refl _ _, ?_⟩
    show awp _ _ _ _ _ _ _
    refine awp_ret_wk ?_
    refine ⟨_, Wk.refl _ _, ?_⟩
    repeat (with_reducible first | refine then_ret ?_ | refine blk_ret ?_ | refine then_exit ?_ | refine blk_exit ?_ | refine blk_exit' (by decide) ?_ | refine blk_normal ?_ | refine then_normal ?_ | refine retq_ret ?_ | refine retq_normal ?_ | refine ng_normal ?_ | refine ng_ret ?_ | refine ng_exit ?_)
    exact ret_none (v := .bool (((((nth lb ((gh s) / 64 % lb.length)) &&& (bitV (gh s) sh) : Nat) : Int) : Int) == ((bitV (gh s) sh : Nat) : Int))) rfl s3.kp (.tmp rfl .nil) rfl rfl ⟨congrArg _ (by unfold mayV; rw [if_neg (by omega)]; exact beq_cast _ _), rfl⟩
set_option maxRecDepth 100000 in
set_option maxHeartbeats 4000000 in
theorem symbols_ok {H0 : AHeap} (f sh : Nat) (vb vk vc : Value) (lb lk lc : List Nat) (hb : Sl u64v H0 vb lb) (hk : Sl u32v H0 vk lk) (hc : Sl u32v H0 vc lc) (hf : f ≤ 1000) (hl : lc.length ≤ 1000000) : ACalls Try.prog 18 [.agg #[.int .u32 ((f : Nat) : Int), .int .u32 ((sh : Nat) : Int), vb, vk, vc]] H0 (Rets (.int .i64 ((f + lc.length : Nat) : Int)) H0) := by
  have hF : Wd Fence.wide := .inl rfl
  have hM : Try.prog.follows .mixedOrders = true := by kernel_rfl
  have s0 := St.begin H0
  refine acalls_st Try.func18 rfl Try.ntmps18 rfl ?_
  refine awp_seq ?_
  refine awp_regs hF ?_
  refine x_new (fun b => .pointer (some ⟨b, 0, none⟩)) s0 (gyes_none rfl) (q_box (v := .agg #[.int .u32 ((f : Nat) : Int), .int .u32 ((sh : Nat) : Int), vb, vk, vc]) (vs := [.int .u32 ((f : Nat) : Int), .int .u32 ((sh : Nat) : Int), vb, vk, vc]) 5 rfl (by exact trivial) rfl) rfl (by decide) (cok1 trivial) (fun b1 H2 hb4 s3 => ?_)
  refine dv (gyes_none rfl) (q_as (v := .int .i64 0) rfl) rfl (by decide) (cok1 (cconst rfl)) ?_
  refine ⟨_, Wk.refl _ _, ?_⟩
  show awp _ _ _ _ _ _ _
  refine awp_seq ?_
  refine awp_regs hF ?_
  refine dv (gyes_none rfl) (q_field Try.underlying31 rfl Try.sizeOf27 rfl (s3.rd (j := 0) rfl)) rfl (by decide) (cok1 trivial) ?_
  refine dv (gyes_none rfl) (q_load (v := .int .u32 ((f : Nat) : Int)) Try.isAgg27 rfl (s3.rd (j := 0) rfl) rfl) rfl (by decide) (cok1 trivial) ?_
  refine dv (gyes_none rfl) (q_convin (a := ((f : Nat) : Int)) Try.underlying27 Try.underlying3 rfl (i64_in (by omega))) rfl (by decide) (cok1 trivial) ?_
  refine dv (gyes_none rfl) (q_field Try.underlying31 rfl Try.sizeOf29 rfl (s3.rd (j := 0) rfl)) rfl (by decide) (cok1 trivial) ?_
  refine dv (gyes_none rfl) (q_load (v := vc) Try.isAgg29 rfl (s3.rd (j := 0) rfl) rfl) rfl (by decide) (cok1 trivial) ?_
  refine dv (gyes_none rfl) (q_len_sl (l := lc) Try.underlying29 (s3.sl hc) rfl) rfl (by decide) (cok1 trivial) ?_
  refine dv (gyes_none rfl) (OpQ.cast (v' := .int .i64 ((f + lc.length : Nat) : Int)) (q_int rfl rfl rfl) (congrArg _ ((i64_in (by omega)).trans (by first | rfl | omega | (push_cast; rfl))))) rfl (by decide) (cok2 trivial trivial) ?_
  refine dv (gyes_none rfl) (q_as (v := .int .i64 ((f + lc.length : Nat) : Int)) rfl) rfl (by decide) (cok1 trivial) ?_
  refine ⟨_, Wk.refl _ _, ?_⟩
  show awp _ _ _ _ _ _ _
  refine awp_ret_wk ?_
  refine ⟨_, Wk.refl _ _, ?_⟩
  repeat (with_reducible first | refine then_ret ?_ | refine blk_ret ?_ | refine then_exit ?_ | refine blk_exit ?_ | refine blk_exit' (by decide) ?_ | refine blk_normal ?_ | refine then_normal ?_ | refine retq_ret ?_ | refine retq_normal ?_ | refine ng_normal ?_ | refine ng_ret ?_ | refine ng_exit ?_)
  exact ret_none (v := .int .i64 ((f + lc.length : Nat) : Int)) rfl s3.kp (.tmp rfl .nil) rfl rfl ⟨rfl, rfl⟩
end Go.Proofs.YtponfeigjmjbmaaA


/-
  Walks of functions of the given program, and what they compute.
-/
namespace Go.Proofs.YtponfeigjmjbmaaA
set_option linter.unusedVariables false
open Go Go.RowKit Go.Shelf Go.Proofs
set_option maxRecDepth 100000 in
set_option maxHeartbeats 4000000 in
theorem build_yes {H0 : AHeap} (vN : Value) (names : List ByteArray) (hN : Sl strv H0 vN names) (hsz : ∀ x ∈ names, x.size ≤ 140737488355328) (hn40 : names.length ≤ 40) (f nb nw sh : Nat) (h : 1 ≤ nb ∧ nb ≤ 256 ∧ 1 ≤ nw ∧ nw ≤ 256 ∧ f + names.length ≤ 256 ∧ sh ≤ 63 ∧ ¬ (f = 0 ∧ 0 < names.length)) (hk : sortedK names nb = true) : ACalls Try.prog 9 [vN, .int .i64 ((f : Nat) : Int), .int .i64 ((nb : Nat) : Int), .int .i64 ((nw : Nat) : Int), .int .i64 ((sh : Nat) : Int)] H0 (fun v H' => ∃ b1 b2 b3, v = .tuple #[.agg #[.int .u32 ((f : Nat) : Int), .int .u32 ((sh : Nat) : Int), .slice (some ⟨b1, 0, none⟩) nw nw, .slice (some ⟨b2, 0, none⟩) nb nb, .slice (some ⟨b3, 0, none⟩) names.length names.length], .bool true] ∧ NewL H0 H' [(b3, .cells true ((chN names nb names.length).map u32v) 1), (b2, .cells true ((bkN names nb f names.length).map u32v) 1), (b1, .cells true ((blN names nw sh names.length).map u64v) 1)]) := by
  have hF : Wd Fence.wide := .inl rfl
  have hM : Try.prog.follows .mixedOrders = true := by kernel_rfl
  have s0 := St.begin H0
  refine acalls_st Try.func9 rfl Try.ntmps9 rfl ?_
  refine awp_seq ?_
  refine awp_regs hF ?_
  refine x_new (fun b => .pointer (some ⟨b, 0, none⟩)) s0 (gyes_none rfl) (q_alloc (vs := [.int .u32 0, .int .u32 0, .slice none 0 0, .slice none 0 0, .slice none 0 0]) 5 Try.zeroValue31 (by first | exact flat_scalar rfl | exact flat_agg rfl) rfl) rfl (by decide) (by simp [Op.operands, Call.operands]) (fun b1 H2 hb4 s3 => ?_)
  refine dv (gyes_none rfl) (q_as (v := .bool false) rfl) rfl (by decide) (cok1 (cconst rfl)) ?_
  refine ⟨_, Wk.refl _ _, ?_⟩
  show awp _ _ _ _ _ _ _
  refine awp_seq ?_
  refine awp_seq ?_
  refine awp_regs hF ?_
  refine dv (gyes_none rfl) (q_mv (v := vN) rfl) rfl (by decide) (cok1 trivial) ?_
  refine dv (gyes_none rfl) (q_mv (v := .int .i64 ((f : Nat) : Int)) rfl) rfl (by decide) (cok1 trivial) ?_
  refine dv (gyes_none rfl) (q_mv (v := .int .i64 ((nb : Nat) : Int)) rfl) rfl (by decide) (cok1 trivial) ?_
  refine dv (gyes_none rfl) (q_mv (v := .int .i64 ((nw : Nat) : Int)) rfl) rfl (by decide) (cok1 trivial) ?_
  refine dv (gyes_none rfl) (q_mv (v := .int .i64 ((sh : Nat) : Int)) rfl) rfl (by decide) (cok1 trivial) ?_
  refine dv (gyes_none rfl) (q_call0 Try.call25 rfl (ACalls.castV (v' := .bool true) (right_good vN names (s3.sl hN) hsz hn40 f nb nw sh h) (congrArg Value.bool hk))) rfl (by decide) (call_ok rfl) ?_
  refine dv (gyes_none rfl) (q_not (b := true) rfl) rfl (by decide) (cok1 trivial) ?_
  refine ⟨_, Wk.refl _ _, ?_⟩
  show awp _ _ _ _ _ _ _
  refine awp_cond_f rfl ?_
  refine awp_skip_wk ?_
  refine ⟨_, Wk.refl _ _, ?_⟩
  show awp _ _ _ _ _ _ _
  refine awp_seq ?_
  refine awp_regt hF hM (by kernel_rfl) (by kernel_rfl) ?_
  refine dv (gyes_none rfl) (q_mv (v := .int .i64 ((f : Nat) : Int)) rfl) rfl (by decide) (cok1 trivial) ?_
  refine dv (gyes_none rfl) (q_convin (a := ((f : Nat) : Int)) Try.underlying3 Try.underlying27 rfl (u32_in (by omega))) rfl (by decide) (cok1 trivial) ?_
  refine dv (gyes_none rfl) (q_mv (v := .int .i64 ((sh : Nat) : Int)) rfl) rfl (by decide) (cok1 trivial) ?_
  refine dv (gyes_none rfl) (q_convin (a := ((sh : Nat) : Int)) Try.underlying3 Try.underlying27 rfl (u32_in (by omega))) rfl (by decide) (cok1 trivial) ?_
  refine dv (gyes_none rfl) (q_mv (v := .int .i64 ((nw : Nat) : Int)) rfl) rfl (by decide) (cok1 trivial) ?_
  refine x_new (fun b => .slice (some ⟨b, 0, none⟩) nw nw) s3 (gyes_none rfl) (q_makeSlice1 (len := nw) (m := nw) rfl Try.underlying28 Try.typeInfo45 rfl Try.zeroValue45 rfl rfl rfl rfl (by omega) (by omega) (by show 8 * _ ≤ _; omega) (vs := (List.replicate nw (0 : Nat)).map u64v) (by simp [u64v])) rfl (by decide) (cok2 trivial trivial) (fun b5 H6 hb8 s7 => ?_)
  refine dv (gyes_none rfl) (q_mv (v := .int .i64 ((nb : Nat) : Int)) rfl) rfl (by decide) (cok1 trivial) ?_
  refine x_new (fun b => .slice (some ⟨b, 0, none⟩) nb nb) s7 (gyes_none rfl) (q_makeSlice1 (len := nb) (m := nb) rfl Try.underlying29 Try.typeInfo27 rfl Try.zeroValue27 rfl rfl rfl rfl (by omega) (by omega) (by show 4 * _ ≤ _; omega) (vs := (List.replicate nb (0 : Nat)).map u32v) (by simp [u32v])) rfl (by decide) (cok2 trivial trivial) (fun b9 H10 hb12 s11 => ?_)
  refine dv (gyes_none rfl) (q_mv (v := vN) rfl) rfl (by decide) (cok1 trivial) ?_
  refine dv (gyes_none rfl) (q_len_sl (l := names) Try.underlying23 (s11.sl hN) rfl) rfl (by decide) (cok1 trivial) ?_
  refine x_new (fun b => .slice (some ⟨b, 0, none⟩) names.length names.length) s11 (gyes_none rfl) (q_makeSlice1 (len := names.length) (m := names.length) rfl Try.underlying29 Try.typeInfo27 rfl Try.zeroValue27 rfl rfl rfl rfl (by omega) (by omega) (by show 4 * _ ≤ _; omega) (vs := (List.replicate names.length (0 : Nat)).map u32v) (by simp [u32v])) rfl (by decide) (cok2 trivial trivial) (fun b13 H14 hb16 s15 => ?_)
  refine dv (gyes_none rfl) (q_buildL (ds := [.int .u32 ((f : Nat) : Int), .int .u32 ((sh : Nat) : Int), .slice (some ⟨b5, 0, none⟩) nw nw, .slice (some ⟨b9, 0, none⟩) nb nb, .slice (some ⟨b13, 0, none⟩) names.length names.length]) [(0, 1), (1, 1), (2, 1), (3, 1), (4, 1)] [.int .u32 ((f : Nat) : Int), .int .u32 ((sh : Nat) : Int), .slice (some ⟨b5, 0, none⟩) nw nw, .slice (some ⟨b9, 0, none⟩) nb nb, .slice (some ⟨b13, 0, none⟩) names.length names.length] Try.underlying31 Try.zeroValue31 (by first | exact flat_agg rfl | exact flat_scalar rfl) (by kernel_rfl) ⟨rfl, rfl, rfl, rfl, rfl, trivial⟩ (lvsC (by exact trivial) (lvsC (by exact trivial) (lvsC (s15.live (j := 2) rfl) (lvsC (s15.live (j := 1) rfl) (lvsC (s15.live (j := 0) rfl) lvs0))))) rfl) rfl (by decide) (call_ok rfl) ?_
  refine x_new (fun b => .pointer (some ⟨b, 0, none⟩)) s15 (gyes_none rfl) (q_alloc (vs := [.int .u32 0, .int .u32 0, .slice none 0 0, .slice none 0 0, .slice none 0 0]) 5 Try.zeroValue31 (by first | exact flat_scalar rfl | exact flat_agg rfl) rfl) rfl (by decide) (by simp [Op.operands, Call.operands]) (fun b17 H18 hb20 s19 => ?_)
  refine x_store [] hF s19 (by kernel_rfl) (gyes_none rfl) (j := 0) (v := .agg #[.int .u32 ((f : Nat) : Int), .int .u32 ((sh : Nat) : Int), .slice (some ⟨b5, 0, none⟩) nw nw, .slice (some ⟨b9, 0, none⟩) nb nb, .slice (some ⟨b13, 0, none⟩) names.length names.length]) rfl Try.sizeOf31 rfl rfl rfl rfl rfl trivial (lcsA ⟨(lc_scalar rfl), (lc_scalar rfl), (lc_slice (s19.live (j := 3) rfl)), (lc_slice (s19.live (j := 2) rfl)), (lc_slice (s19.live (j := 1) rfl)), trivial⟩) (Nat.le_of_ble_eq_true rfl) trivial trivial rfl rfl (F' := [(b17, .cells true [.int .u32 ((f : Nat) : Int), .int .u32 ((sh : Nat) : Int), .slice (some ⟨b5, 0, none⟩) nw nw, .slice (some ⟨b9, 0, none⟩) nb nb, .slice (some ⟨b13, 0, none⟩) names.length names.length] 5), (b13, .cells true ((List.replicate names.length (0 : Nat)).map u32v) 1), (b9, .cells true ((List.replicate nb (0 : Nat)).map u32v) 1), (b5, .cells true ((List.replicate nw (0 : Nat)).map u64v) 1), (b1, .cells true [.int .u32 0, .int .u32 0, .slice none 0 0, .slice none 0 0, .slice none 0 0] 5)]) rfl (fun H21 s22 => ⟨?_, ?_⟩)
  · exact trivial
  refine ⟨_, Wk.refl _ _, ?_⟩
  show awp _ _ _ _ _ _ _
  refine awp_seq ?_
  refine awp_seq ?_
  refine awp_regs hF ?_
  refine dv (gyes_none rfl) (q_mv (v := vN) rfl) rfl (by decide) (cok1 trivial) ?_
  refine dv (gyes_none rfl) (q_len_sl (l := names) Try.underlying23 (s22.sl hN) rfl) rfl (by decide) (cok1 trivial) ?_
  refine dv (gyes_none rfl) (q_mv (v := .int .i64 0) rfl) rfl (by decide) (cok1 (cconst rfl)) ?_
  refine ⟨_, Wk.refl _ _, ?_⟩
  show awp _ _ _ _ _ _ _
  refine awp_block ?_
  refine awp_wk (Wk.U [(0, vN), (1, .int .i64 ((f : Nat) : Int)), (2, .int .i64 ((nb : Nat) : Int)), (10, .pointer (some ⟨b1, 0, none⟩)), (12, .pointer (some ⟨b17, 0, none⟩)), (39, vN), (40, .int .i64 ((names.length : Nat) : Int)), (41, .int .i64 0)] ⟨rfl, rfl, rfl, rfl, rfl, rfl, rfl, rfl, trivial⟩) ?_
  refine awp_loop (fun ((i, bl, bk, ch) : Nat × (List Nat) × (List Nat) × (List Nat)) st => ∃ (H23 : AHeap), st = ⟨113, U [(0, vN), (1, .int .i64 ((f : Nat) : Int)), (2, .int .i64 ((nb : Nat) : Int)), (10, .pointer (some ⟨b1, 0, none⟩)), (12, .pointer (some ⟨b17, 0, none⟩)), (39, vN), (40, .int .i64 ((names.length : Nat) : Int)), (41, .int .i64 ((i : Nat) : Int))], [], H23⟩ ∧ St H0 (none0) (Rd H0) H23 [(b17, .cells true [.int .u32 ((f : Nat) : Int), .int .u32 ((sh : Nat) : Int), .slice (some ⟨b5, 0, none⟩) nw nw, .slice (some ⟨b9, 0, none⟩) nb nb, .slice (some ⟨b13, 0, none⟩) names.length names.length] 5), (b13, .cells true (ch.map u32v) 1), (b9, .cells true (bk.map u32v) 1), (b5, .cells true (bl.map u64v) 1), (b1, .cells true [.int .u32 0, .int .u32 0, .slice none 0 0, .slice none 0 0, .slice none 0 0] 5)] ∧ (i ≤ names.length ∧ bl = blN names nw sh i ∧ bk = bkN names nb f i ∧ ch = chN names nb i)) (fun ((i, bl, bk, ch) : Nat × (List Nat) × (List Nat) × (List Nat)) => names.length - i) (x0 := (0, (List.replicate nw 0), (List.replicate nb 0), (List.replicate names.length 0))) ?h0 ?round
  case h0 =>
    exact ⟨_, rfl, s22, ⟨Nat.zero_le _, rfl, rfl, rfl⟩⟩
  case round =>
    rintro ⟨i, bl, bk, ch⟩ _ ⟨H23, rfl, s24, hB⟩
    dsimp only at *
    have hbl : bl.length = nw := by rw [hB.2.1]; exact blN_len i
    have hkl : bk.length = nb := by rw [hB.2.2.1]; exact bkN_len i
    have hcl : ch.length = names.length := by rw [hB.2.2.2]; exact chN_len i
    have hbw : ∀ x ∈ bl, x < 18446744073709551616 := by rw [hB.2.1]; exact blN_w i
    have hkw : ∀ x ∈ bk, x < 1000 := by rw [hB.2.2.1]; exact bkN_w (by omega)
    refine awp_seq ?_
    refine awp_regs hF ?_
    refine dvb (gyes_none rfl) (q_int rfl rfl rfl) rfl (by decide) (cok2 trivial trivial) (fun c1 => ?_) (fun c1 => ?_)
    ·
      replace c1 := of_decide_eq_true c1
      refine ⟨_, Wk.refl _ _, ?_⟩
      show awp _ _ _ _ _ _ _
      refine awp_seq ?_
      refine awp_cond_t rfl ?_
      refine awp_skip_wk ?_
      refine ⟨_, Wk.refl _ _, ?_⟩
      show awp _ _ _ _ _ _ _
      refine awp_seq ?_
      refine awp_block ?_
      refine awp_seq ?_
      refine awp_regs hF ?_
      refine dv (gyes_none rfl) (q_mv (v := .int .i64 ((i : Nat) : Int)) rfl) rfl (by decide) (cok1 trivial) ?_
      refine dv (gyes_none rfl) (q_index_sl (l := names) (i := i) Try.underlying23 Try.sizeOf9 (s24.sl hN) rfl rfl (by omega)) rfl (by decide) (cok2 trivial trivial) ?_
      refine dv (gyes_none rfl) (q_load_sl (l := names) (i := i) Try.isAgg9 (s24.sl hN) rfl (by omega)) rfl (by decide) (cok1 trivial) ?_
      refine dv (gyes_none rfl) (q_as (v := .int .i64 ((i : Nat) : Int)) rfl) rfl (by decide) (cok1 trivial) ?_
      refine dv (gyes_none rfl) (q_as (v := .string (nth names i)) rfl) rfl (by decide) (cok1 trivial) ?_
      refine ⟨_, Wk.refl _ _, ?_⟩
      show awp _ _ _ _ _ _ _
      refine awp_seq ?_
      refine awp_regs hF ?_
      refine dv (gyes_none rfl) (q_mv (v := .string (nth names i)) rfl) rfl (by decide) (cok1 trivial) ?_
      refine dv (gyes_none rfl) (q_call0 Try.call19 rfl (hash_ok (nth names i) (hsz _ (nthS_mem (by omega))))) rfl (by decide) (cok2 trivial trivial) ?_
      refine dv (gyes_none rfl) (q_as (v := .int .u32 ((gh (nth names i) : Nat) : Int)) rfl) rfl (by decide) (cok1 trivial) ?_
      refine ⟨_, Wk.refl _ _, ?_⟩
      show awp _ _ _ _ _ _ _
      refine awp_seq ?_
      refine awp_regs hF ?_
      refine dv (gyes_none rfl) (q_loadAgg Try.isAgg31 Try.sizeOf31 rfl (s24.rd (j := 0) rfl) (Nat.le_of_ble_eq_true rfl) rfl) rfl (by decide) (cok1 trivial) ?_
      refine dv (gyes_none rfl) (q_mv (v := .int .u32 ((gh (nth names i) : Nat) : Int)) rfl) rfl (by decide) (cok1 trivial) ?_
      refine dv (gyes_none rfl) (q_call0 Try.call26 rfl (word_ok f sh _ _ _ bl bk ch (s24.slj (j := 3) rfl (by first | rfl | (simp; done) | omega) (by first | exact Nat.le_refl _ | omega)) (s24.slj (j := 2) rfl (by first | rfl | (simp; done) | omega) (by first | exact Nat.le_refl _ | omega)) (s24.slj (j := 1) rfl (by first | rfl | (simp; done) | omega) (by first | exact Nat.le_refl _ | omega)) (gh (nth names i)) (by first | assumption | exact gh_lt _) (by omega) (by omega))) rfl (by decide) (call_ok rfl) ?_
      refine dv (gyes_none rfl) (q_mv (v := .tuple #[.int .i64 (((gh (nth names i)) / 64 % bl.length : Nat) : Int), .int .u64 ((bitV (gh (nth names i)) sh : Nat) : Int)]) rfl) rfl (by decide) (cok1 trivial) ?_
      refine dv (gyes_none rfl) (q_extract (v := .int .i64 (((gh (nth names i)) / 64 % bl.length : Nat) : Int)) rfl rfl) rfl (by decide) (cok1 trivial) ?_
      refine dv (gyes_none rfl) (q_extract (v := .int .u64 ((bitV (gh (nth names i)) sh : Nat) : Int)) rfl rfl) rfl (by decide) (cok1 trivial) ?_
      refine dv (gyes_none rfl) (q_as (v := .int .i64 (((gh (nth names i)) / 64 % bl.length : Nat) : Int)) rfl) rfl (by decide) (cok1 trivial) ?_
      refine dv (gyes_none rfl) (q_as (v := .int .u64 ((bitV (gh (nth names i)) sh : Nat) : Int)) rfl) rfl (by decide) (cok1 trivial) ?_
      refine ⟨_, Wk.refl _ _, ?_⟩
      show awp _ _ _ _ _ _ _
      refine awp_seq ?_
      have hm := Nat.mod_lt (gh (nth names i) / 64) (show 0 < bl.length by omega)
      have hg1 := gh_lt (nth names i)
      have hm2 := Nat.mod_lt (gh (nth names i)) (show 0 < nb by omega)
      have hkx := hkw _ (nthS_mem (show gh (nth names i) % nb < bk.length by omega))
      refine awp_regs hF ?_
      refine dv (gyes_none rfl) (q_field Try.underlying31 rfl Try.sizeOf28 rfl (s24.rd (j := 0) rfl)) rfl (by decide) (cok1 trivial) ?_
      refine dv (gyes_none rfl) (q_load (v := .slice (some ⟨b5, 0, none⟩) nw nw) Try.isAgg28 rfl (s24.rd (j := 0) rfl) rfl) rfl (by decide) (cok1 trivial) ?_
      refine dv (gyes_none rfl) (q_mv (v := .int .i64 (((gh (nth names i)) / 64 % bl.length : Nat) : Int)) rfl) rfl (by decide) (cok1 trivial) ?_
      refine dv (gyes_none rfl) (OpQ.cast (v' := .pointer (some ⟨b5, (gh (nth names i)) / 64 % bl.length, none⟩)) (q_index1 (i := ((gh (nth names i)) / 64 % bl.length)) Try.underlying28 Try.sizeOf45 rfl rfl (by omega) (s24.rd (j := 3) rfl)) (by rw [Nat.zero_add])) rfl (by decide) (cok2 trivial trivial) ?_
      refine dv (gyes_none rfl) (q_load (v := u64v (nth bl ((gh (nth names i)) / 64 % bl.length))) Try.isAgg45 rfl (s24.rd (j := 3) rfl) (get_nth (w := 0) (by omega))) rfl (by decide) (cok1 trivial) ?_
      refine dv (gyes_none rfl) (q_mv (v := .int .u64 ((bitV (gh (nth names i)) sh : Nat) : Int)) rfl) rfl (by decide) (cok1 trivial) ?_
      refine dv (gyes_none rfl) (q_orN (a := (nth bl ((gh (nth names i)) / 64 % bl.length))) (b := (bitV (gh (nth names i)) sh)) rfl rfl rfl (hbw _ (nthS_mem hm)) (bitV_lt _ _)) rfl (by decide) (cok2 trivial trivial) ?_
      refine dv (gyes_none rfl) (OpQ.cast (v' := .pointer (some ⟨b5, (gh (nth names i)) / 64 % bl.length, none⟩)) (q_index1 (i := ((gh (nth names i)) / 64 % bl.length)) Try.underlying28 Try.sizeOf45 rfl rfl (by omega) (s24.rd (j := 3) rfl)) (by rw [Nat.zero_add])) rfl (by decide) (cok2 trivial trivial) ?_
      refine x_store1 [] hF s24 (by kernel_rfl) (gyes_none rfl) (j := 3) (v := u64v ((nth bl ((gh (nth names i)) / 64 % bl.length)) ||| (bitV (gh (nth names i)) sh))) rfl Try.sizeOf45 rfl rfl rfl (lc_scalar rfl) (by rw [List.length_map]; omega) trivial trivial rfl rfl (F' := [(b17, .cells true [.int .u32 ((f : Nat) : Int), .int .u32 ((sh : Nat) : Int), .slice (some ⟨b5, 0, none⟩) nw nw, .slice (some ⟨b9, 0, none⟩) nb nb, .slice (some ⟨b13, 0, none⟩) names.length names.length] 5), (b13, .cells true (ch.map u32v) 1), (b9, .cells true (bk.map u32v) 1), (b5, .cells true ((bl.set ((gh (nth names i)) / 64 % bl.length) ((nth bl ((gh (nth names i)) / 64 % bl.length)) ||| (bitV (gh (nth names i)) sh))).map u64v) 1), (b1, .cells true [.int .u32 0, .int .u32 0, .slice none 0 0, .slice none 0 0, .slice none 0 0] 5)]) (by simp only [set_map1]; rfl) (fun H25 s26 => ⟨?_, ?_⟩)
      · exact trivial
      refine ⟨_, Wk.refl _ _, ?_⟩
      show awp _ _ _ _ _ _ _
      refine awp_seq ?_
      refine awp_regs hF ?_
      refine dv (gyes_none rfl) (q_mv (v := .int .u32 ((gh (nth names i) : Nat) : Int)) rfl) rfl (by decide) (cok1 trivial) ?_
      refine dv (gyes_none rfl) (q_mv (v := .int .i64 ((nb : Nat) : Int)) rfl) rfl (by decide) (cok1 trivial) ?_
      refine dv (gyes_none rfl) (q_convin (a := ((nb : Nat) : Int)) Try.underlying3 Try.underlying27 rfl (u32_in (by omega))) rfl (by decide) (cok1 trivial) ?_
      refine dv (gyes_none rfl) (q_remM (a := (gh (nth names i))) (b := nb) rfl rfl (by first | decide | omega)) rfl (by decide) (cok2 trivial trivial) ?_
      refine dv (gyes_none rfl) (q_as (v := .int .u32 (((gh (nth names i)) % nb : Nat) : Int)) rfl) rfl (by decide) (cok1 trivial) ?_
      refine ⟨_, Wk.refl _ _, ?_⟩
      show awp _ _ _ _ _ _ _
      refine awp_seq ?_
      refine awp_seq ?_
      refine awp_regs hF ?_
      refine dv (gyes_none rfl) (q_field Try.underlying31 rfl Try.sizeOf29 rfl (s26.rd (j := 0) rfl)) rfl (by decide) (cok1 trivial) ?_
      refine dv (gyes_none rfl) (q_load (v := .slice (some ⟨b9, 0, none⟩) nb nb) Try.isAgg29 rfl (s26.rd (j := 0) rfl) rfl) rfl (by decide) (cok1 trivial) ?_
      refine dv (gyes_none rfl) (q_mv (v := .int .u32 (((gh (nth names i)) % nb : Nat) : Int)) rfl) rfl (by decide) (cok1 trivial) ?_
      refine dv (gyes_none rfl) (OpQ.cast (v' := .pointer (some ⟨b9, (gh (nth names i)) % nb, none⟩)) (q_index1 (i := ((gh (nth names i)) % nb)) Try.underlying29 Try.sizeOf27 rfl rfl (by omega) (s26.rd (j := 2) rfl)) (by rw [Nat.zero_add])) rfl (by decide) (cok2 trivial trivial) ?_
      refine dv (gyes_none rfl) (q_load (v := u32v (nth bk ((gh (nth names i)) % nb))) Try.isAgg27 rfl (s26.rd (j := 2) rfl) (get_nth (w := 0) (by omega))) rfl (by decide) (cok1 trivial) ?_
      refine dvb (gyes_none rfl) (q_int rfl rfl rfl) rfl (by decide) (cok2 trivial (cconst rfl)) (fun c2 => ?_) (fun c2 => ?_)
      ·
        replace c2 := eq_of_beq c2
        refine ⟨_, Wk.refl _ _, ?_⟩
        show awp _ _ _ _ _ _ _
        refine awp_cond_t rfl ?_
        refine awp_regs hF ?_
        refine dv (gyes_none rfl) (q_field Try.underlying31 rfl Try.sizeOf29 rfl (s26.rd (j := 0) rfl)) rfl (by decide) (cok1 trivial) ?_
        refine dv (gyes_none rfl) (q_load (v := .slice (some ⟨b9, 0, none⟩) nb nb) Try.isAgg29 rfl (s26.rd (j := 0) rfl) rfl) rfl (by decide) (cok1 trivial) ?_
        refine dv (gyes_none rfl) (q_mv (v := .int .u32 (((gh (nth names i)) % nb : Nat) : Int)) rfl) rfl (by decide) (cok1 trivial) ?_
        refine dv (gyes_none rfl) (q_mv (v := .int .i64 ((f : Nat) : Int)) rfl) rfl (by decide) (cok1 trivial) ?_
        refine dv (gyes_none rfl) (q_mv (v := .int .i64 ((i : Nat) : Int)) rfl) rfl (by decide) (cok1 trivial) ?_
        refine dv (gyes_none rfl) (OpQ.cast (v' := .int .i64 ((f + i : Nat) : Int)) (q_int rfl rfl rfl) (congrArg _ ((i64_in (by omega)).trans (by first | rfl | omega | (push_cast; rfl))))) rfl (by decide) (cok2 trivial trivial) ?_
        refine dv (gyes_none rfl) (q_convin (a := ((f + i : Nat) : Int)) Try.underlying3 Try.underlying27 rfl (u32_in (by omega))) rfl (by decide) (cok1 trivial) ?_
        refine dv (gyes_none rfl) (OpQ.cast (v' := .pointer (some ⟨b9, (gh (nth names i)) % nb, none⟩)) (q_index1 (i := ((gh (nth names i)) % nb)) Try.underlying29 Try.sizeOf27 rfl rfl (by omega) (s26.rd (j := 2) rfl)) (by rw [Nat.zero_add])) rfl (by decide) (cok2 trivial trivial) ?_
        refine x_store1 [] hF s26 (by kernel_rfl) (gyes_none rfl) (j := 2) (v := u32v (f + i)) rfl Try.sizeOf27 rfl rfl rfl (lc_scalar rfl) (by rw [List.length_map]; omega) trivial trivial rfl rfl (F' := [(b17, .cells true [.int .u32 ((f : Nat) : Int), .int .u32 ((sh : Nat) : Int), .slice (some ⟨b5, 0, none⟩) nw nw, .slice (some ⟨b9, 0, none⟩) nb nb, .slice (some ⟨b13, 0, none⟩) names.length names.length] 5), (b13, .cells true (ch.map u32v) 1), (b9, .cells true ((bk.set ((gh (nth names i)) % nb) (f + i)).map u32v) 1), (b5, .cells true ((bl.set ((gh (nth names i)) / 64 % bl.length) ((nth bl ((gh (nth names i)) / 64 % bl.length)) ||| (bitV (gh (nth names i)) sh))).map u64v) 1), (b1, .cells true [.int .u32 0, .int .u32 0, .slice none 0 0, .slice none 0 0, .slice none 0 0] 5)]) (by simp only [set_map1]; rfl) (fun H27 s28 => ⟨?_, ?_⟩)
        · exact trivial
        refine ⟨_, Wk.refl _ _, ?_⟩
        show awp _ _ _ _ _ _ _
        refine awp_seq ?_
        refine awp_regs hF ?_
        refine dv (gyes_none rfl) (q_field Try.underlying31 rfl Try.sizeOf29 rfl (s28.rd (j := 0) rfl)) rfl (by decide) (cok1 trivial) ?_
        refine dv (gyes_none rfl) (q_load (v := .slice (some ⟨b13, 0, none⟩) names.length names.length) Try.isAgg29 rfl (s28.rd (j := 0) rfl) rfl) rfl (by decide) (cok1 trivial) ?_
        refine dv (gyes_none rfl) (q_mv (v := .int .i64 ((i : Nat) : Int)) rfl) rfl (by decide) (cok1 trivial) ?_
        refine dv (gyes_none rfl) (q_mv (v := .int .u32 ((gh (nth names i) : Nat) : Int)) rfl) rfl (by decide) (cok1 trivial) ?_
        refine dv (gyes_none rfl) (q_andNot1 (a := gh (nth names i)) rfl rfl hg1) rfl (by decide) (cok2 trivial (cconst rfl)) ?_
        refine dv (gyes_none rfl) (OpQ.cast (v' := .pointer (some ⟨b13, i, none⟩)) (q_index1 (i := i) Try.underlying29 Try.sizeOf27 rfl rfl (by omega) (s28.rd (j := 1) rfl)) (by rw [Nat.zero_add])) rfl (by decide) (cok2 trivial trivial) ?_
        refine x_store1 [] hF s28 (by kernel_rfl) (gyes_none rfl) (j := 1) (v := u32v (gh (nth names i) / 2 * 2)) rfl Try.sizeOf27 rfl rfl rfl (lc_scalar rfl) (by rw [List.length_map]; omega) trivial trivial rfl rfl (F' := [(b17, .cells true [.int .u32 ((f : Nat) : Int), .int .u32 ((sh : Nat) : Int), .slice (some ⟨b5, 0, none⟩) nw nw, .slice (some ⟨b9, 0, none⟩) nb nb, .slice (some ⟨b13, 0, none⟩) names.length names.length] 5), (b13, .cells true ((ch.set i (gh (nth names i) / 2 * 2)).map u32v) 1), (b9, .cells true ((bk.set ((gh (nth names i)) % nb) (f + i)).map u32v) 1), (b5, .cells true ((bl.set ((gh (nth names i)) / 64 % bl.length) ((nth bl ((gh (nth names i)) / 64 % bl.length)) ||| (bitV (gh (nth names i)) sh))).map u64v) 1), (b1, .cells true [.int .u32 0, .int .u32 0, .slice none 0 0, .slice none 0 0, .slice none 0 0] 5)]) (by simp only [set_map1]; rfl) (fun H29 s30 => ⟨?_, ?_⟩)
        · exact trivial
        refine ⟨_, Wk.refl _ _, ?_⟩
        show awp _ _ _ _ _ _ _
        refine awp_seq ?_
        have hg2 := gh_lt (nth names (i + 1))
        have hm3 := Nat.mod_lt (gh (nth names (i + 1))) (show 0 < nb by omega)
        refine awp_regs hF ?_
        refine dv (gyes_none rfl) (q_mv (v := .int .i64 ((i : Nat) : Int)) rfl) rfl (by decide) (cok1 trivial) ?_
        refine dv (gyes_none rfl) (OpQ.cast (v' := .int .i64 ((i + 1 : Nat) : Int)) (q_int rfl rfl rfl) (congrArg _ ((i64_in (by omega)).trans (by first | rfl | omega | (push_cast; rfl))))) rfl (by decide) (cok2 trivial (cconst rfl)) ?_
        refine dv (gyes_none rfl) (q_mv (v := vN) rfl) rfl (by decide) (cok1 trivial) ?_
        refine dv (gyes_none rfl) (q_len_sl (l := names) Try.underlying23 (s30.sl hN) rfl) rfl (by decide) (cok1 trivial) ?_
        refine dvb (gyes_none rfl) (q_int rfl rfl rfl) rfl (by decide) (cok2 trivial trivial) (fun c3 => ?_) (fun c3 => ?_)
        ·
          replace c3 := eq_of_beq c3
          refine dv (gyes_none rfl) (q_mv (v := .bool true) rfl) rfl (by decide) (cok1 trivial) ?_
          refine dno rfl (.inl rfl) rfl (by decide) ?_
          refine dno rfl (.inl rfl) rfl (by decide) ?_
          refine dno rfl (.inl rfl) rfl (by decide) ?_
          refine dno rfl (.inl rfl) rfl (by decide) ?_
          refine dno rfl (.inl rfl) rfl (by decide) ?_
          refine dno rfl (.inl rfl) rfl (by decide) ?_
          refine dno rfl (.inl rfl) rfl (by decide) ?_
          refine dno rfl (.inl rfl) rfl (by decide) ?_
          refine dno rfl (.inl rfl) rfl (by decide) ?_
          refine dno rfl (.inl rfl) rfl (by decide) ?_
          refine dno rfl (.inl rfl) rfl (by decide) ?_
          refine dv (gyes_none rfl) (q_pt (v := .bool true) rfl rfl) rfl (by decide) (call_ok rfl) ?_
          refine ⟨_, Wk.refl _ _, ?_⟩
          show awp _ _ _ _ _ _ _
          refine awp_cond_t rfl ?_
          refine awp_regs hF ?_
          refine dv (gyes_none rfl) (q_field Try.underlying31 rfl Try.sizeOf29 rfl (s30.rd (j := 0) rfl)) rfl (by decide) (cok1 trivial) ?_
          refine dv (gyes_none rfl) (q_load (v := .slice (some ⟨b13, 0, none⟩) names.length names.length) Try.isAgg29 rfl (s30.rd (j := 0) rfl) rfl) rfl (by decide) (cok1 trivial) ?_
          refine dv (gyes_none rfl) (q_mv (v := .int .i64 ((i : Nat) : Int)) rfl) rfl (by decide) (cok1 trivial) ?_
          refine dv (gyes_none rfl) (OpQ.cast (v' := .pointer (some ⟨b13, i, none⟩)) (q_index1 (i := i) Try.underlying29 Try.sizeOf27 rfl rfl (by omega) (s30.rd (j := 1) rfl)) (by rw [Nat.zero_add])) rfl (by decide) (cok2 trivial trivial) ?_
          refine dv (gyes_none rfl) (q_load (v := u32v (nth (ch.set i (gh (nth names i) / 2 * 2)) i)) Try.isAgg27 rfl (s30.rd (j := 1) rfl) (get_nth (w := 0) (by rw [List.length_set]; omega))) rfl (by decide) (cok1 trivial) ?_
          refine dv (gyes_none rfl) (OpQ.cast (v' := .int .u32 ((gh (nth names i) / 2 * 2 + 1 : Nat) : Int)) (q_orN (a := nth (ch.set i (gh (nth names i) / 2 * 2)) i) (b := 1) rfl rfl rfl (by rw [nth_setN, if_pos ⟨rfl, by omega⟩]; show _ < 4294967296; omega) (by decide)) (congrArg _ (or_set (by omega)))) rfl (by decide) (cok2 trivial (cconst rfl)) ?_
          refine dv (gyes_none rfl) (OpQ.cast (v' := .pointer (some ⟨b13, i, none⟩)) (q_index1 (i := i) Try.underlying29 Try.sizeOf27 rfl rfl (by omega) (s30.rd (j := 1) rfl)) (by rw [Nat.zero_add])) rfl (by decide) (cok2 trivial trivial) ?_
          refine x_store1 [] hF s30 (by kernel_rfl) (gyes_none rfl) (j := 1) (v := u32v (gh (nth names i) / 2 * 2 + 1)) rfl Try.sizeOf27 rfl rfl rfl (lc_scalar rfl) (by rw [List.length_map, List.length_set]; omega) trivial trivial rfl rfl (F' := [(b17, .cells true [.int .u32 ((f : Nat) : Int), .int .u32 ((sh : Nat) : Int), .slice (some ⟨b5, 0, none⟩) nw nw, .slice (some ⟨b9, 0, none⟩) nb nb, .slice (some ⟨b13, 0, none⟩) names.length names.length] 5), (b13, .cells true (((ch.set i (gh (nth names i) / 2 * 2)).set i (gh (nth names i) / 2 * 2 + 1)).map u32v) 1), (b9, .cells true ((bk.set ((gh (nth names i)) % nb) (f + i)).map u32v) 1), (b5, .cells true ((bl.set ((gh (nth names i)) / 64 % bl.length) ((nth bl ((gh (nth names i)) / 64 % bl.length)) ||| (bitV (gh (nth names i)) sh))).map u64v) 1), (b1, .cells true [.int .u32 0, .int .u32 0, .slice none 0 0, .slice none 0 0, .slice none 0 0] 5)]) (by simp only [set_map1]; rfl) (fun H31 s32 => ⟨?_, ?_⟩)
          · exact trivial
          refine ⟨_, Wk.refl _ _, ?_⟩
          show awp _ _ _ _ _ _ _
          refine awp_regs hF ?_
          refine dv (gyes_none rfl) (OpQ.cast (v' := .int .i64 ((i + 1 : Nat) : Int)) (q_int rfl rfl rfl) (congrArg _ ((i64_in (by omega)).trans (by first | rfl | omega | (push_cast; rfl))))) rfl (by decide) (cok2 trivial (cconst rfl)) ?_
          refine dv (gyes_none rfl) (q_mv (v := .int .i64 ((i + 1 : Nat) : Int)) rfl) rfl (by decide) (cok1 trivial) ?_
          refine ⟨_, Wk.U [(0, vN), (1, .int .i64 ((f : Nat) : Int)), (2, .int .i64 ((nb : Nat) : Int)), (10, .pointer (some ⟨b1, 0, none⟩)), (12, .pointer (some ⟨b17, 0, none⟩)), (39, vN), (40, .int .i64 ((names.length : Nat) : Int)), (41, .int .i64 (((i + 1) : Nat) : Int))] ⟨rfl, rfl, rfl, rfl, rfl, rfl, rfl, rfl, trivial⟩, ((i + 1), (bl.set ((gh (nth names i)) / 64 % bl.length) ((nth bl ((gh (nth names i)) / 64 % bl.length)) ||| (bitV (gh (nth names i)) sh))), (bk.set ((gh (nth names i)) % nb) (f + i)), ((ch.set i (gh (nth names i) / 2 * 2)).set i (gh (nth names i) / 2 * 2 + 1))), ⟨_, rfl, s32, ⟨by dsimp only; omega, bl_step hB.2.1 hbl, by dsimp only; exact bk_y hB.2.2.1 (by omega), by dsimp only; exact ch_1 hB.2.2.2 (by first | exact .inl (by omega) | (refine .inr ?_; unfold gkey; omega))⟩⟩, (by omega)⟩
        ·
          replace c3 := ne_of_beq_false c3
          refine dv (gyes_none rfl) (q_mv (v := .bool false) rfl) rfl (by decide) (cok1 trivial) ?_
          refine dv (gyes_some rfl rfl) (q_mv (v := vN) rfl) rfl (by decide) (cok1 trivial) ?_
          refine dv (gyes_some rfl rfl) (q_mv (v := .int .i64 ((i : Nat) : Int)) rfl) rfl (by decide) (cok1 trivial) ?_
          refine dv (gyes_some rfl rfl) (OpQ.cast (v' := .int .i64 ((i + 1 : Nat) : Int)) (q_int rfl rfl rfl) (congrArg _ ((i64_in (by omega)).trans (by first | rfl | omega | (push_cast; rfl))))) rfl (by decide) (cok2 trivial (cconst rfl)) ?_
          refine dv (gyes_some rfl rfl) (q_index_sl (l := names) (i := (i + 1)) Try.underlying23 Try.sizeOf9 (s30.sl hN) rfl rfl (by omega)) rfl (by decide) (cok2 trivial trivial) ?_
          refine dv (gyes_some rfl rfl) (q_load_sl (l := names) (i := (i + 1)) Try.isAgg9 (s30.sl hN) rfl (by omega)) rfl (by decide) (cok1 trivial) ?_
          refine dv (gyes_some rfl rfl) (q_call0 Try.call19 rfl (hash_ok (nth names (i + 1)) (hsz _ (nthS_mem (by omega))))) rfl (by decide) (cok2 trivial trivial) ?_
          refine dv (gyes_some rfl rfl) (q_mv (v := .int .i64 ((nb : Nat) : Int)) rfl) rfl (by decide) (cok1 trivial) ?_
          refine dv (gyes_some rfl rfl) (q_convin (a := ((nb : Nat) : Int)) Try.underlying3 Try.underlying27 rfl (u32_in (by omega))) rfl (by decide) (cok1 trivial) ?_
          refine dv (gyes_some rfl rfl) (q_remM (a := (gh (nth names (i + 1)))) (b := nb) rfl rfl (by first | decide | omega)) rfl (by decide) (cok2 trivial trivial) ?_
          refine dv (gyes_some rfl rfl) (q_mv (v := .int .u32 (((gh (nth names i)) % nb : Nat) : Int)) rfl) rfl (by decide) (cok1 trivial) ?_
          refine dvb (gyes_some rfl rfl) (q_int rfl rfl rfl) rfl (by decide) (cok2 trivial trivial) (fun c4 => ?_) (fun c4 => ?_)
          ·
            replace c4 := bne_iff_ne.1 c4
            refine dv (gyes_none rfl) (q_pf (v := .bool true) rfl rfl) rfl (by decide) (call_ok rfl) ?_
            refine ⟨_, Wk.refl _ _, ?_⟩
            show awp _ _ _ _ _ _ _
            refine awp_cond_t rfl ?_
            refine awp_regs hF ?_
            refine dv (gyes_none rfl) (q_field Try.underlying31 rfl Try.sizeOf29 rfl (s30.rd (j := 0) rfl)) rfl (by decide) (cok1 trivial) ?_
            refine dv (gyes_none rfl) (q_load (v := .slice (some ⟨b13, 0, none⟩) names.length names.length) Try.isAgg29 rfl (s30.rd (j := 0) rfl) rfl) rfl (by decide) (cok1 trivial) ?_
            refine dv (gyes_none rfl) (q_mv (v := .int .i64 ((i : Nat) : Int)) rfl) rfl (by decide) (cok1 trivial) ?_
            refine dv (gyes_none rfl) (OpQ.cast (v' := .pointer (some ⟨b13, i, none⟩)) (q_index1 (i := i) Try.underlying29 Try.sizeOf27 rfl rfl (by omega) (s30.rd (j := 1) rfl)) (by rw [Nat.zero_add])) rfl (by decide) (cok2 trivial trivial) ?_
            refine dv (gyes_none rfl) (q_load (v := u32v (nth (ch.set i (gh (nth names i) / 2 * 2)) i)) Try.isAgg27 rfl (s30.rd (j := 1) rfl) (get_nth (w := 0) (by rw [List.length_set]; omega))) rfl (by decide) (cok1 trivial) ?_
            refine dv (gyes_none rfl) (OpQ.cast (v' := .int .u32 ((gh (nth names i) / 2 * 2 + 1 : Nat) : Int)) (q_orN (a := nth (ch.set i (gh (nth names i) / 2 * 2)) i) (b := 1) rfl rfl rfl (by rw [nth_setN, if_pos ⟨rfl, by omega⟩]; show _ < 4294967296; omega) (by decide)) (congrArg _ (or_set (by omega)))) rfl (by decide) (cok2 trivial (cconst rfl)) ?_
            refine dv (gyes_none rfl) (OpQ.cast (v' := .pointer (some ⟨b13, i, none⟩)) (q_index1 (i := i) Try.underlying29 Try.sizeOf27 rfl rfl (by omega) (s30.rd (j := 1) rfl)) (by rw [Nat.zero_add])) rfl (by decide) (cok2 trivial trivial) ?_
            refine x_store1 [] hF s30 (by kernel_rfl) (gyes_none rfl) (j := 1) (v := u32v (gh (nth names i) / 2 * 2 + 1)) rfl Try.sizeOf27 rfl rfl rfl (lc_scalar rfl) (by rw [List.length_map, List.length_set]; omega) trivial trivial rfl rfl (F' := [(b17, .cells true [.int .u32 ((f : Nat) : Int), .int .u32 ((sh : Nat) : Int), .slice (some ⟨b5, 0, none⟩) nw nw, .slice (some ⟨b9, 0, none⟩) nb nb, .slice (some ⟨b13, 0, none⟩) names.length names.length] 5), (b13, .cells true (((ch.set i (gh (nth names i) / 2 * 2)).set i (gh (nth names i) / 2 * 2 + 1)).map u32v) 1), (b9, .cells true ((bk.set ((gh (nth names i)) % nb) (f + i)).map u32v) 1), (b5, .cells true ((bl.set ((gh (nth names i)) / 64 % bl.length) ((nth bl ((gh (nth names i)) / 64 % bl.length)) ||| (bitV (gh (nth names i)) sh))).map u64v) 1), (b1, .cells true [.int .u32 0, .int .u32 0, .slice none 0 0, .slice none 0 0, .slice none 0 0] 5)]) (by simp only [set_map1]; rfl) (fun H33 s34 => ⟨?_, ?_⟩)
            · exact trivial
            refine ⟨_, Wk.refl _ _, ?_⟩
            show awp _ _ _ _ _ _ _
            refine awp_regs hF ?_
            refine dv (gyes_none rfl) (OpQ.cast (v' := .int .i64 ((i + 1 : Nat) : Int)) (q_int rfl rfl rfl) (congrArg _ ((i64_in (by omega)).trans (by first | rfl | omega | (push_cast; rfl))))) rfl (by decide) (cok2 trivial (cconst rfl)) ?_
            refine dv (gyes_none rfl) (q_mv (v := .int .i64 ((i + 1 : Nat) : Int)) rfl) rfl (by decide) (cok1 trivial) ?_
            refine ⟨_, Wk.U [(0, vN), (1, .int .i64 ((f : Nat) : Int)), (2, .int .i64 ((nb : Nat) : Int)), (10, .pointer (some ⟨b1, 0, none⟩)), (12, .pointer (some ⟨b17, 0, none⟩)), (39, vN), (40, .int .i64 ((names.length : Nat) : Int)), (41, .int .i64 (((i + 1) : Nat) : Int))] ⟨rfl, rfl, rfl, rfl, rfl, rfl, rfl, rfl, trivial⟩, ((i + 1), (bl.set ((gh (nth names i)) / 64 % bl.length) ((nth bl ((gh (nth names i)) / 64 % bl.length)) ||| (bitV (gh (nth names i)) sh))), (bk.set ((gh (nth names i)) % nb) (f + i)), ((ch.set i (gh (nth names i) / 2 * 2)).set i (gh (nth names i) / 2 * 2 + 1))), ⟨_, rfl, s34, ⟨by dsimp only; omega, bl_step hB.2.1 hbl, by dsimp only; exact bk_y hB.2.2.1 (by omega), by dsimp only; exact ch_1 hB.2.2.2 (by first | exact .inl (by omega) | (refine .inr ?_; unfold gkey; omega))⟩⟩, (by omega)⟩
          ·
            replace c4 := bne_eq_false_iff_eq.1 c4
            refine dv (gyes_none rfl) (q_pf (v := .bool false) rfl rfl) rfl (by decide) (call_ok rfl) ?_
            refine ⟨_, Wk.refl _ _, ?_⟩
            show awp _ _ _ _ _ _ _
            refine awp_cond_f rfl ?_
            refine awp_skip_wk ?_
            refine ⟨_, Wk.refl _ _, ?_⟩
            show awp _ _ _ _ _ _ _
            refine awp_regs hF ?_
            refine dv (gyes_none rfl) (OpQ.cast (v' := .int .i64 ((i + 1 : Nat) : Int)) (q_int rfl rfl rfl) (congrArg _ ((i64_in (by omega)).trans (by first | rfl | omega | (push_cast; rfl))))) rfl (by decide) (cok2 trivial (cconst rfl)) ?_
            refine dv (gyes_none rfl) (q_mv (v := .int .i64 ((i + 1 : Nat) : Int)) rfl) rfl (by decide) (cok1 trivial) ?_
            refine ⟨_, Wk.U [(0, vN), (1, .int .i64 ((f : Nat) : Int)), (2, .int .i64 ((nb : Nat) : Int)), (10, .pointer (some ⟨b1, 0, none⟩)), (12, .pointer (some ⟨b17, 0, none⟩)), (39, vN), (40, .int .i64 ((names.length : Nat) : Int)), (41, .int .i64 (((i + 1) : Nat) : Int))] ⟨rfl, rfl, rfl, rfl, rfl, rfl, rfl, rfl, trivial⟩, ((i + 1), (bl.set ((gh (nth names i)) / 64 % bl.length) ((nth bl ((gh (nth names i)) / 64 % bl.length)) ||| (bitV (gh (nth names i)) sh))), (bk.set ((gh (nth names i)) % nb) (f + i)), (ch.set i (gh (nth names i) / 2 * 2))), ⟨_, rfl, s30, ⟨by dsimp only; omega, bl_step hB.2.1 hbl, by dsimp only; exact bk_y hB.2.2.1 (by omega), by dsimp only; exact ch_0 hB.2.2.2 (by unfold lastB; rintro (h9 | h9); omega; exact h9 (by unfold gkey; omega))⟩⟩, (by omega)⟩
      ·
        replace c2 := ne_of_beq_false c2
        refine ⟨_, Wk.refl _ _, ?_⟩
        show awp _ _ _ _ _ _ _
        refine awp_cond_f rfl ?_
        refine awp_skip_wk ?_
        refine ⟨_, Wk.refl _ _, ?_⟩
        show awp _ _ _ _ _ _ _
        refine awp_seq ?_
        refine awp_regs hF ?_
        refine dv (gyes_none rfl) (q_field Try.underlying31 rfl Try.sizeOf29 rfl (s26.rd (j := 0) rfl)) rfl (by decide) (cok1 trivial) ?_
        refine dv (gyes_none rfl) (q_load (v := .slice (some ⟨b13, 0, none⟩) names.length names.length) Try.isAgg29 rfl (s26.rd (j := 0) rfl) rfl) rfl (by decide) (cok1 trivial) ?_
        refine dv (gyes_none rfl) (q_mv (v := .int .i64 ((i : Nat) : Int)) rfl) rfl (by decide) (cok1 trivial) ?_
        refine dv (gyes_none rfl) (q_mv (v := .int .u32 ((gh (nth names i) : Nat) : Int)) rfl) rfl (by decide) (cok1 trivial) ?_
        refine dv (gyes_none rfl) (q_andNot1 (a := gh (nth names i)) rfl rfl hg1) rfl (by decide) (cok2 trivial (cconst rfl)) ?_
        refine dv (gyes_none rfl) (OpQ.cast (v' := .pointer (some ⟨b13, i, none⟩)) (q_index1 (i := i) Try.underlying29 Try.sizeOf27 rfl rfl (by omega) (s26.rd (j := 1) rfl)) (by rw [Nat.zero_add])) rfl (by decide) (cok2 trivial trivial) ?_
        refine x_store1 [] hF s26 (by kernel_rfl) (gyes_none rfl) (j := 1) (v := u32v (gh (nth names i) / 2 * 2)) rfl Try.sizeOf27 rfl rfl rfl (lc_scalar rfl) (by rw [List.length_map]; omega) trivial trivial rfl rfl (F' := [(b17, .cells true [.int .u32 ((f : Nat) : Int), .int .u32 ((sh : Nat) : Int), .slice (some ⟨b5, 0, none⟩) nw nw, .slice (some ⟨b9, 0, none⟩) nb nb, .slice (some ⟨b13, 0, none⟩) names.length names.length] 5), (b13, .cells true ((ch.set i (gh (nth names i) / 2 * 2)).map u32v) 1), (b9, .cells true (bk.map u32v) 1), (b5, .cells true ((bl.set ((gh (nth names i)) / 64 % bl.length) ((nth bl ((gh (nth names i)) / 64 % bl.length)) ||| (bitV (gh (nth names i)) sh))).map u64v) 1), (b1, .cells true [.int .u32 0, .int .u32 0, .slice none 0 0, .slice none 0 0, .slice none 0 0] 5)]) (by simp only [set_map1]; rfl) (fun H35 s36 => ⟨?_, ?_⟩)
        · exact trivial
        refine ⟨_, Wk.refl _ _, ?_⟩
        show awp _ _ _ _ _ _ _
        refine awp_seq ?_
        have hg2 := gh_lt (nth names (i + 1))
        have hm3 := Nat.mod_lt (gh (nth names (i + 1))) (show 0 < nb by omega)
        refine awp_regs hF ?_
        refine dv (gyes_none rfl) (q_mv (v := .int .i64 ((i : Nat) : Int)) rfl) rfl (by decide) (cok1 trivial) ?_
        refine dv (gyes_none rfl) (OpQ.cast (v' := .int .i64 ((i + 1 : Nat) : Int)) (q_int rfl rfl rfl) (congrArg _ ((i64_in (by omega)).trans (by first | rfl | omega | (push_cast; rfl))))) rfl (by decide) (cok2 trivial (cconst rfl)) ?_
        refine dv (gyes_none rfl) (q_mv (v := vN) rfl) rfl (by decide) (cok1 trivial) ?_
        refine dv (gyes_none rfl) (q_len_sl (l := names) Try.underlying23 (s36.sl hN) rfl) rfl (by decide) (cok1 trivial) ?_
        refine dvb (gyes_none rfl) (q_int rfl rfl rfl) rfl (by decide) (cok2 trivial trivial) (fun c5 => ?_) (fun c5 => ?_)
        ·
          replace c5 := eq_of_beq c5
          refine dv (gyes_none rfl) (q_mv (v := .bool true) rfl) rfl (by decide) (cok1 trivial) ?_
          refine dno rfl (.inl rfl) rfl (by decide) ?_
          refine dno rfl (.inl rfl) rfl (by decide) ?_
          refine dno rfl (.inl rfl) rfl (by decide) ?_
          refine dno rfl (.inl rfl) rfl (by decide) ?_
          refine dno rfl (.inl rfl) rfl (by decide) ?_
          refine dno rfl (.inl rfl) rfl (by decide) ?_
          refine dno rfl (.inl rfl) rfl (by decide) ?_
          refine dno rfl (.inl rfl) rfl (by decide) ?_
          refine dno rfl (.inl rfl) rfl (by decide) ?_
          refine dno rfl (.inl rfl) rfl (by decide) ?_
          refine dno rfl (.inl rfl) rfl (by decide) ?_
          refine dv (gyes_none rfl) (q_pt (v := .bool true) rfl rfl) rfl (by decide) (call_ok rfl) ?_
          refine ⟨_, Wk.refl _ _, ?_⟩
          show awp _ _ _ _ _ _ _
          refine awp_cond_t rfl ?_
          refine awp_regs hF ?_
          refine dv (gyes_none rfl) (q_field Try.underlying31 rfl Try.sizeOf29 rfl (s36.rd (j := 0) rfl)) rfl (by decide) (cok1 trivial) ?_
          refine dv (gyes_none rfl) (q_load (v := .slice (some ⟨b13, 0, none⟩) names.length names.length) Try.isAgg29 rfl (s36.rd (j := 0) rfl) rfl) rfl (by decide) (cok1 trivial) ?_
          refine dv (gyes_none rfl) (q_mv (v := .int .i64 ((i : Nat) : Int)) rfl) rfl (by decide) (cok1 trivial) ?_
          refine dv (gyes_none rfl) (OpQ.cast (v' := .pointer (some ⟨b13, i, none⟩)) (q_index1 (i := i) Try.underlying29 Try.sizeOf27 rfl rfl (by omega) (s36.rd (j := 1) rfl)) (by rw [Nat.zero_add])) rfl (by decide) (cok2 trivial trivial) ?_
          refine dv (gyes_none rfl) (q_load (v := u32v (nth (ch.set i (gh (nth names i) / 2 * 2)) i)) Try.isAgg27 rfl (s36.rd (j := 1) rfl) (get_nth (w := 0) (by rw [List.length_set]; omega))) rfl (by decide) (cok1 trivial) ?_
          refine dv (gyes_none rfl) (OpQ.cast (v' := .int .u32 ((gh (nth names i) / 2 * 2 + 1 : Nat) : Int)) (q_orN (a := nth (ch.set i (gh (nth names i) / 2 * 2)) i) (b := 1) rfl rfl rfl (by rw [nth_setN, if_pos ⟨rfl, by omega⟩]; show _ < 4294967296; omega) (by decide)) (congrArg _ (or_set (by omega)))) rfl (by decide) (cok2 trivial (cconst rfl)) ?_
          refine dv (gyes_none rfl) (OpQ.cast (v' := .pointer (some ⟨b13, i, none⟩)) (q_index1 (i := i) Try.underlying29 Try.sizeOf27 rfl rfl (by omega) (s36.rd (j := 1) rfl)) (by rw [Nat.zero_add])) rfl (by decide) (cok2 trivial trivial) ?_
          refine x_store1 [] hF s36 (by kernel_rfl) (gyes_none rfl) (j := 1) (v := u32v (gh (nth names i) / 2 * 2 + 1)) rfl Try.sizeOf27 rfl rfl rfl (lc_scalar rfl) (by rw [List.length_map, List.length_set]; omega) trivial trivial rfl rfl (F' := [(b17, .cells true [.int .u32 ((f : Nat) : Int), .int .u32 ((sh : Nat) : Int), .slice (some ⟨b5, 0, none⟩) nw nw, .slice (some ⟨b9, 0, none⟩) nb nb, .slice (some ⟨b13, 0, none⟩) names.length names.length] 5), (b13, .cells true (((ch.set i (gh (nth names i) / 2 * 2)).set i (gh (nth names i) / 2 * 2 + 1)).map u32v) 1), (b9, .cells true (bk.map u32v) 1), (b5, .cells true ((bl.set ((gh (nth names i)) / 64 % bl.length) ((nth bl ((gh (nth names i)) / 64 % bl.length)) ||| (bitV (gh (nth names i)) sh))).map u64v) 1), (b1, .cells true [.int .u32 0, .int .u32 0, .slice none 0 0, .slice none 0 0, .slice none 0 0] 5)]) (by simp only [set_map1]; rfl) (fun H37 s38 => ⟨?_, ?_⟩)
          · exact trivial
          refine ⟨_, Wk.refl _ _, ?_⟩
          show awp _ _ _ _ _ _ _
          refine awp_regs hF ?_
          refine dv (gyes_none rfl) (OpQ.cast (v' := .int .i64 ((i + 1 : Nat) : Int)) (q_int rfl rfl rfl) (congrArg _ ((i64_in (by omega)).trans (by first | rfl | omega | (push_cast; rfl))))) rfl (by decide) (cok2 trivial (cconst rfl)) ?_
          refine dv (gyes_none rfl) (q_mv (v := .int .i64 ((i + 1 : Nat) : Int)) rfl) rfl (by decide) (cok1 trivial) ?_
          refine ⟨_, Wk.U [(0, vN), (1, .int .i64 ((f : Nat) : Int)), (2, .int .i64 ((nb : Nat) : Int)), (10, .pointer (some ⟨b1, 0, none⟩)), (12, .pointer (some ⟨b17, 0, none⟩)), (39, vN), (40, .int .i64 ((names.length : Nat) : Int)), (41, .int .i64 (((i + 1) : Nat) : Int))] ⟨rfl, rfl, rfl, rfl, rfl, rfl, rfl, rfl, trivial⟩, ((i + 1), (bl.set ((gh (nth names i)) / 64 % bl.length) ((nth bl ((gh (nth names i)) / 64 % bl.length)) ||| (bitV (gh (nth names i)) sh))), bk, ((ch.set i (gh (nth names i) / 2 * 2)).set i (gh (nth names i) / 2 * 2 + 1))), ⟨_, rfl, s38, ⟨by dsimp only; omega, bl_step hB.2.1 hbl, by dsimp only; exact bk_n hB.2.2.1 (by omega), by dsimp only; exact ch_1 hB.2.2.2 (by first | exact .inl (by omega) | (refine .inr ?_; unfold gkey; omega))⟩⟩, (by omega)⟩
        ·
          replace c5 := ne_of_beq_false c5
          refine dv (gyes_none rfl) (q_mv (v := .bool false) rfl) rfl (by decide) (cok1 trivial) ?_
          refine dv (gyes_some rfl rfl) (q_mv (v := vN) rfl) rfl (by decide) (cok1 trivial) ?_
          refine dv (gyes_some rfl rfl) (q_mv (v := .int .i64 ((i : Nat) : Int)) rfl) rfl (by decide) (cok1 trivial) ?_
          refine dv (gyes_some rfl rfl) (OpQ.cast (v' := .int .i64 ((i + 1 : Nat) : Int)) (q_int rfl rfl rfl) (congrArg _ ((i64_in (by omega)).trans (by first | rfl | omega | (push_cast; rfl))))) rfl (by decide) (cok2 trivial (cconst rfl)) ?_
          refine dv (gyes_some rfl rfl) (q_index_sl (l := names) (i := (i + 1)) Try.underlying23 Try.sizeOf9 (s36.sl hN) rfl rfl (by omega)) rfl (by decide) (cok2 trivial trivial) ?_
          refine dv (gyes_some rfl rfl) (q_load_sl (l := names) (i := (i + 1)) Try.isAgg9 (s36.sl hN) rfl (by omega)) rfl (by decide) (cok1 trivial) ?_
          refine dv (gyes_some rfl rfl) (q_call0 Try.call19 rfl (hash_ok (nth names (i + 1)) (hsz _ (nthS_mem (by omega))))) rfl (by decide) (cok2 trivial trivial) ?_
          refine dv (gyes_some rfl rfl) (q_mv (v := .int .i64 ((nb : Nat) : Int)) rfl) rfl (by decide) (cok1 trivial) ?_
          refine dv (gyes_some rfl rfl) (q_convin (a := ((nb : Nat) : Int)) Try.underlying3 Try.underlying27 rfl (u32_in (by omega))) rfl (by decide) (cok1 trivial) ?_
          refine dv (gyes_some rfl rfl) (q_remM (a := (gh (nth names (i + 1)))) (b := nb) rfl rfl (by first | decide | omega)) rfl (by decide) (cok2 trivial trivial) ?_
          refine dv (gyes_some rfl rfl) (q_mv (v := .int .u32 (((gh (nth names i)) % nb : Nat) : Int)) rfl) rfl (by decide) (cok1 trivial) ?_
          refine dvb (gyes_some rfl rfl) (q_int rfl rfl rfl) rfl (by decide) (cok2 trivial trivial) (fun c6 => ?_) (fun c6 => ?_)
          ·
            replace c6 := bne_iff_ne.1 c6
            refine dv (gyes_none rfl) (q_pf (v := .bool true) rfl rfl) rfl (by decide) (call_ok rfl) ?_
            refine ⟨_, Wk.refl _ _, ?_⟩
            show awp _ _ _ _ _ _ _
            refine awp_cond_t rfl ?_
            refine awp_regs hF ?_
            refine dv (gyes_none rfl) (q_field Try.underlying31 rfl Try.sizeOf29 rfl (s36.rd (j := 0) rfl)) rfl (by decide) (cok1 trivial) ?_
            refine dv (gyes_none rfl) (q_load (v := .slice (some ⟨b13, 0, none⟩) names.length names.length) Try.isAgg29 rfl (s36.rd (j := 0) rfl) rfl) rfl (by decide) (cok1 trivial) ?_
            refine dv (gyes_none rfl) (q_mv (v := .int .i64 ((i : Nat) : Int)) rfl) rfl (by decide) (cok1 trivial) ?_
            refine dv (gyes_none rfl) (OpQ.cast (v' := .pointer (some ⟨b13, i, none⟩)) (q_index1 (i := i) Try.underlying29 Try.sizeOf27 rfl rfl (by omega) (s36.rd (j := 1) rfl)) (by rw [Nat.zero_add])) rfl (by decide) (cok2 trivial trivial) ?_
            refine dv (gyes_none rfl) (q_load (v := u32v (nth (ch.set i (gh (nth names i) / 2 * 2)) i)) Try.isAgg27 rfl (s36.rd (j := 1) rfl) (get_nth (w := 0) (by rw [List.length_set]; omega))) rfl (by decide) (cok1 trivial) ?_
            refine dv (gyes_none rfl) (OpQ.cast (v' := .int .u32 ((gh (nth names i) / 2 * 2 + 1 : Nat) : Int)) (q_orN (a := nth (ch.set i (gh (nth names i) / 2 * 2)) i) (b := 1) rfl rfl rfl (by rw [nth_setN, if_pos ⟨rfl, by omega⟩]; show _ < 4294967296; omega) (by decide)) (congrArg _ (or_set (by omega)))) rfl (by decide) (cok2 trivial (cconst rfl)) ?_
            refine dv (gyes_none rfl) (OpQ.cast (v' := .pointer (some ⟨b13, i, none⟩)) (q_index1 (i := i) Try.underlying29 Try.sizeOf27 rfl rfl (by omega) (s36.rd (j := 1) rfl)) (by rw [Nat.zero_add])) rfl (by decide) (cok2 trivial trivial) ?_
            refine x_store1 [] hF s36 (by kernel_rfl) (gyes_none rfl) (j := 1) (v := u32v (gh (nth names i) / 2 * 2 + 1)) rfl Try.sizeOf27 rfl rfl rfl (lc_scalar rfl) (by rw [List.length_map, List.length_set]; omega) trivial trivial rfl rfl (F' := [(b17, .cells true [.int .u32 ((f : Nat) : Int), .int .u32 ((sh : Nat) : Int), .slice (some ⟨b5, 0, none⟩) nw nw, .slice (some ⟨b9, 0, none⟩) nb nb, .slice (some ⟨b13, 0, none⟩) names.length names.length] 5), (b13, .cells true (((ch.set i (gh (nth names i) / 2 * 2)).set i (gh (nth names i) / 2 * 2 + 1)).map u32v) 1), (b9, .cells true (bk.map u32v) 1), (b5, .cells true ((bl.set ((gh (nth names i)) / 64 % bl.length) ((nth bl ((gh (nth names i)) / 64 % bl.length)) ||| (bitV (gh (nth names i)) sh))).map u64v) 1), (b1, .cells true [.int .u32 0, .int .u32 0, .slice none 0 0, .slice none 0 0, .slice none 0 0] 5)]) (by simp only [set_map1]; rfl) (fun H39 s40 => ⟨?_, ?_⟩)
            · exact trivial
            refine ⟨_, Wk.refl _ _, ?_⟩
            show awp _ _ _ _ _ _ _
            refine awp_regs hF ?_
            refine dv (gyes_none rfl) (OpQ.cast (v' := .int .i64 ((i + 1 : Nat) : Int)) (q_int rfl rfl rfl) (congrArg _ ((i64_in (by omega)).trans (by first | rfl | omega | (push_cast; rfl))))) rfl (by decide) (cok2 trivial (cconst rfl)) ?_
            refine dv (gyes_none rfl) (q_mv (v := .int .i64 ((i + 1 : Nat) : Int)) rfl) rfl (by decide) (cok1 trivial) ?_
            refine ⟨_, Wk.U [(0, vN), (1, .int .i64 ((f : Nat) : Int)), (2, .int .i64 ((nb : Nat) : Int)), (10, .pointer (some ⟨b1, 0, none⟩)), (12, .pointer (some ⟨b17, 0, none⟩)), (39, vN), (40, .int .i64 ((names.length : Nat) : Int)), (41, .int .i64 (((i + 1) : Nat) : Int))] ⟨rfl, rfl, rfl, rfl, rfl, rfl, rfl, rfl, trivial⟩, ((i + 1), (bl.set ((gh (nth names i)) / 64 % bl.length) ((nth bl ((gh (nth names i)) / 64 % bl.length)) ||| (bitV (gh (nth names i)) sh))), bk, ((ch.set i (gh (nth names i) / 2 * 2)).set i (gh (nth names i) / 2 * 2 + 1))), ⟨_, rfl, s40, ⟨by dsimp only; omega, bl_step hB.2.1 hbl, by dsimp only; exact bk_n hB.2.2.1 (by omega), by dsimp only; exact ch_1 hB.2.2.2 (by first | exact .inl (by omega) | (refine .inr ?_; unfold gkey; omega))⟩⟩, (by omega)⟩
          ·
            replace c6 := bne_eq_false_iff_eq.1 c6
            refine dv (gyes_none rfl) (q_pf (v := .bool false) rfl rfl) rfl (by decide) (call_ok rfl) ?_
            refine ⟨_, Wk.refl _ _, ?_⟩
            show awp _ _ _ _ _ _ _
            refine awp_cond_f rfl ?_
            refine awp_skip_wk ?_
            refine ⟨_, Wk.refl _ _, ?_⟩
            show awp _ _ _ _ _ _ _
            refine awp_regs hF ?_
            refine dv (gyes_none rfl) (OpQ.cast (v' := .int .i64 ((i + 1 : Nat) : Int)) (q_int rfl rfl rfl) (congrArg _ ((i64_in (by omega)).trans (by first | rfl | omega | (push_cast; rfl))))) rfl (by decide) (cok2 trivial (cconst rfl)) ?_
            refine dv (gyes_none rfl) (q_mv (v := .int .i64 ((i + 1 : Nat) : Int)) rfl) rfl (by decide) (cok1 trivial) ?_
            refine ⟨_, Wk.U [(0, vN), (1, .int .i64 ((f : Nat) : Int)), (2, .int .i64 ((nb : Nat) : Int)), (10, .pointer (some ⟨b1, 0, none⟩)), (12, .pointer (some ⟨b17, 0, none⟩)), (39, vN), (40, .int .i64 ((names.length : Nat) : Int)), (41, .int .i64 (((i + 1) : Nat) : Int))] ⟨rfl, rfl, rfl, rfl, rfl, rfl, rfl, rfl, trivial⟩, ((i + 1), (bl.set ((gh (nth names i)) / 64 % bl.length) ((nth bl ((gh (nth names i)) / 64 % bl.length)) ||| (bitV (gh (nth names i)) sh))), bk, (ch.set i (gh (nth names i) / 2 * 2))), ⟨_, rfl, s36, ⟨by dsimp only; omega, bl_step hB.2.1 hbl, by dsimp only; exact bk_n hB.2.2.1 (by omega), by dsimp only; exact ch_0 hB.2.2.2 (by unfold lastB; rintro (h9 | h9); omega; exact h9 (by unfold gkey; omega))⟩⟩, (by omega)⟩
    ·
      replace c1 := of_decide_eq_false c1
      refine ⟨_, Wk.refl _ _, ?_⟩
      show awp _ _ _ _ _ _ _
      refine awp_seq ?_
      refine awp_cond_f rfl ?_
      refine awp_exit_wk ?_
      refine ⟨_, Wk.refl _ _, ?_⟩
      show awp _ _ _ _ _ _ _
      refine awp_seq ?_
      refine awp_regs hF ?_
      refine dv (gyes_none rfl) (q_loadAgg Try.isAgg31 Try.sizeOf31 rfl (s24.rd (j := 0) rfl) (Nat.le_of_ble_eq_true rfl) rfl) rfl (by decide) (cok1 trivial) ?_
      refine x_store [] hF s24 (by kernel_rfl) (gyes_none rfl) (j := 4) (v := .agg #[.int .u32 ((f : Nat) : Int), .int .u32 ((sh : Nat) : Int), .slice (some ⟨b5, 0, none⟩) nw nw, .slice (some ⟨b9, 0, none⟩) nb nb, .slice (some ⟨b13, 0, none⟩) names.length names.length]) rfl Try.sizeOf31 rfl rfl rfl rfl rfl trivial (lcsA ⟨(lc_scalar rfl), (lc_scalar rfl), (lc_slice (s24.live (j := 3) rfl)), (lc_slice (s24.live (j := 2) rfl)), (lc_slice (s24.live (j := 1) rfl)), trivial⟩) (Nat.le_of_ble_eq_true rfl) trivial trivial rfl rfl (F' := [(b17, .cells true [.int .u32 ((f : Nat) : Int), .int .u32 ((sh : Nat) : Int), .slice (some ⟨b5, 0, none⟩) nw nw, .slice (some ⟨b9, 0, none⟩) nb nb, .slice (some ⟨b13, 0, none⟩) names.length names.length] 5), (b13, .cells true (ch.map u32v) 1), (b9, .cells true (bk.map u32v) 1), (b5, .cells true (bl.map u64v) 1), (b1, .cells true [.int .u32 ((f : Nat) : Int), .int .u32 ((sh : Nat) : Int), .slice (some ⟨b5, 0, none⟩) nw nw, .slice (some ⟨b9, 0, none⟩) nb nb, .slice (some ⟨b13, 0, none⟩) names.length names.length] 5)]) rfl (fun H41 s42 => ⟨?_, ?_⟩)
      · exact trivial
      refine dv (gyes_none rfl) (q_as (v := .bool true) rfl) rfl (by decide) (cok1 (cconst rfl)) ?_
      refine ⟨_, Wk.refl _ _, ?_⟩
      show awp _ _ _ _ _ _ _
      refine awp_ret_wk ?_
      obtain ⟨hie, rfl, rfl, rfl⟩ := hB
      obtain rfl : i = names.length := by omega
      refine ⟨_, Wk.refl _ _, ?_⟩
      repeat (with_reducible first | refine then_ret ?_ | refine blk_ret ?_ | refine then_exit ?_ | refine blk_exit ?_ | refine blk_exit' (by decide) ?_ | refine blk_normal ?_ | refine then_normal ?_ | refine retq_ret ?_ | refine retq_normal ?_ | refine ng_normal ?_ | refine ng_ret ?_ | refine ng_exit ?_)
      refine ret_is (v := .tuple #[.agg #[.int .u32 ((f : Nat) : Int), .int .u32 ((sh : Nat) : Int), .slice (some ⟨b5, 0, none⟩) nw nw, .slice (some ⟨b9, 0, none⟩) nb nb, .slice (some ⟨b13, 0, none⟩) names.length names.length], .bool true]) rfl (.agg rfl Try.isAgg31 Try.sizeOf31 (s42.rd (j := 4) rfl) (Nat.le_of_ble_eq_true rfl) rfl (.tmp rfl .nil)) rfl ?_
      exact ⟨_, _, _, rfl, (s42.sub (.cons _ (.cons_cons _ (.cons_cons _ (.cons_cons _ (.cons _ (.refl _))))))).newL⟩

end Go.Proofs.YtponfeigjmjbmaaA

