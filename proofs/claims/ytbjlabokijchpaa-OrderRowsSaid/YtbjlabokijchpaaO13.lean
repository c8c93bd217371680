/-
  Walks of functions of the given program, and what they compute.
-/
import Derived.Test.YtbjlabokijchpaaO12
import Derived.Test.YtbjlabokijchpaaProg
import Derived.KernelRfl
namespace Go.Proofs.YtbjlabokijchpaaA
set_option linter.unusedVariables false
open Go Go.RowKit Go.Shelf Go.Proofs
def ixF (l : List Int) (p : Int → Bool) : Int := match l.findIdx? p with | some i => ((i : Nat) : Int) | none => -1
theorem ixF_yes {l : List Int} {p : Int → Bool} {i : Nat} (hi : i < l.length) (h : p (nth l i) = true) (hn : ∀ j, j < i → p (nth l j) = false) : ixF l p = (i : Nat) := by
  have : l.findIdx? p = some i := by
    rw [List.findIdx?_eq_some_iff_getElem]
    refine ⟨hi, by rw [← nth_eq hi]; exact h, fun j hj => ?_⟩
    rw [← nth_eq (by omega), hn j hj]; simp
  unfold ixF; rw [this]
theorem ixF_no {l : List Int} {p : Int → Bool} {i : Nat} (hi : ¬ i < l.length) (hn : ∀ j, j < i → p (nth l j) = false) : ixF l p = -1 := by
  have : l.findIdx? p = none := by
    rw [List.findIdx?_eq_none_iff]
    intro x hx
    obtain ⟨j, hj, rfl⟩ := nth_of_mem hx
    exact hn j (by omega)
  unfold ixF; rw [this]
theorem ixF_cases (l : List Int) (p : Int → Bool) : (ixF l p = -1 ∧ ∀ x ∈ l, p x = false) ∨ ∃ i : Nat, ixF l p = (i : Nat) ∧ i < l.length ∧ p (nth l i) = true ∧ ∀ j, j < i → p (nth l j) = false := by
  unfold ixF
  cases h : l.findIdx? p with
  | none => exact .inl ⟨rfl, List.findIdx?_eq_none_iff.1 h⟩
  | some i =>
    obtain ⟨h1, h2, h3⟩ := List.findIdx?_eq_some_iff_getElem.1 h
    refine .inr ⟨i, rfl, h1, by rw [nth_eq h1]; exact h2, fun j hj => ?_⟩
    rw [nth_eq (by omega)]; simpa using h3 j hj
structure DInv (L : List Int) (q : Int → Bool) (i j : Nat) (Lc : List Int) : Prop where
  len : Lc.length = L.length
  ij : i < j
  jl : j ≤ L.length
  tk : Lc.take i = (L.take j).filter q
  dr : Lc.drop j = L.drop j
theorem filter_all {l : List Int} {q : Int → Bool} (h : ∀ x ∈ l, q x = true) : l.filter q = l := List.filter_eq_self.2 h
theorem mem_take_nth {l : List Int} {i : Nat} (hi : i ≤ l.length) {x : Int} (h : x ∈ l.take i) : ∃ j, j < i ∧ x = nth l j := by
  obtain ⟨j, hj, rfl⟩ := nth_of_mem h
  rw [List.length_take] at hj
  refine ⟨j, by omega, ?_⟩
  rw [nth_eq (by rw [List.length_take]; omega), nth_eq (by omega), List.getElem_take]
theorem DInv.start {L : List Int} {p : Int → Bool} {i : Nat} (hi : i < L.length) (hp : p (nth L i) = true) (hn : ∀ j, j < i → p (nth L j) = false) : DInv L (fun x => !p x) i (i + 1) L := by
  refine ⟨rfl, by omega, by omega, ?_, rfl⟩
  have h1 : (L.take i).filter (fun x => !p x) = L.take i := filter_all fun x hx => by
    obtain ⟨j, hj, rfl⟩ := mem_take_nth (by omega) hx
    rw [hn j hj]; rfl
  rw [List.take_add_one, List.getElem?_eq_getElem hi, List.filter_append, h1]
  rw [nth_eq hi] at hp
  simp [hp]
theorem DInv.at' {L : List Int} {q : Int → Bool} {i j : Nat} {Lc : List Int} (h : DInv L q i j Lc) (hj : j < L.length) : nth Lc j = nth L j := by
  have hj' : j < Lc.length := by rw [h.len]; exact hj
  have h1 : (Lc.drop j)[0]? = (L.drop j)[0]? := by rw [h.dr]
  rw [List.getElem?_drop, List.getElem?_drop, Nat.add_zero, List.getElem?_eq_getElem hj, List.getElem?_eq_getElem hj'] at h1
  rw [nth_eq hj, nth_eq hj']; exact Option.some.inj h1
theorem DInv.drop {L : List Int} {q : Int → Bool} {i j : Nat} {Lc : List Int} (h : DInv L q i j Lc) : Lc.drop (j + 1) = L.drop (j + 1) := by
  rw [← List.drop_drop, ← List.drop_drop, h.dr]
theorem DInv.skip {L : List Int} {q : Int → Bool} {i j : Nat} {Lc : List Int} (h : DInv L q i j Lc) (hj : j < L.length) (hq : q (nth L j) = false) : DInv L q i (j + 1) Lc := by
  refine ⟨h.len, by have := h.ij; omega, by omega, ?_, h.drop⟩
  rw [h.tk, List.take_add_one, List.getElem?_eq_getElem hj, List.filter_append]
  rw [nth_eq hj] at hq
  simp [hq]
theorem DInv.put {L : List Int} {q : Int → Bool} {i j : Nat} {Lc : List Int} (h : DInv L q i j Lc) (hj : j < L.length) (hq : q (nth L j) = true) : DInv L q (i + 1) (j + 1) (Lc.set i (nth Lc j)) := by
  have hij := h.ij
  have hl := h.len
  refine ⟨by rw [List.length_set]; exact hl, by omega, by omega, ?_, ?_⟩
  · rw [List.take_add_one, List.getElem?_set, if_pos rfl, if_pos (by omega), List.take_set_of_le (Nat.le_refl _), h.tk, List.take_add_one, List.getElem?_eq_getElem hj, List.filter_append, h.at' hj]
    rw [nth_eq hj] at hq ⊢
    simp [hq]
  · rw [List.drop_set_of_lt (by omega)]; exact h.drop
theorem DInv.fin {L : List Int} {q : Int → Bool} {i j : Nat} {Lc : List Int} (h : DInv L q i j Lc) (hj : ¬ j < L.length) : Lc.take i = L.filter q ∧ i = (L.filter q).length := by
  have h1 : Lc.take i = L.filter q := by rw [h.tk, List.take_of_length_le (by omega)]
  refine ⟨h1, ?_⟩
  rw [← h1, List.length_take, h.len]
  have := h.ij; have := h.jl; omega
theorem splice_clr {L : List Int} {i n : Nat} {z : Value} (hn : n = L.length - i) (hi : i ≤ L.length) : splice (L.map intv) i (List.replicate n z) = (L.take i).map intv ++ List.replicate n z := by
  subst hn
  unfold splice
  rw [List.drop_of_length_le (by simp; omega), List.append_nil, List.map_take]
theorem shr_clr {L : List Int} {i n : Nat} {z : Value} (hi : i ≤ L.length) : ((L.take i).map intv ++ List.replicate n z).take i = (L.take i).map intv := by
  rw [List.take_append_of_le_length (by simp; omega), List.take_of_length_le (by simp; omega)]
set_option maxRecDepth 100000 in
set_option maxHeartbeats 4000000 in
theorem clos25_ok {H0 : AHeap} (k : Int) (bc : Nat) (vk : Value) (kept : List Bool) (hc : Rd H0 bc [vk] 1) (hk : Sl boolv H0 vk kept) (h1 : 0 ≤ k) (h2 : k.toNat < kept.length) : ACalls Try.prog 25 [.int .i64 k, .pointer (some ⟨bc, 0, none⟩)] H0 (Rets (.bool (nth kept k.toNat)) H0) := by
  have hF : Wd Fence.wide := .inl rfl
  have hM : Try.prog.follows .mixedOrders = true := by kernel_rfl
  have s0 := St.begin H0
  refine acalls_st Try.func25 rfl Try.ntmps25 rfl ?_
  refine awp_seq ?_
  refine awp_regs hF ?_
  refine dv (gyes_none rfl) (q_as (v := .bool false) rfl) rfl (by decide) (cok1 (cconst rfl)) ?_
  refine ⟨_, Wk.refl _ _, ?_⟩
  show awp _ _ _ _ _ _ _
  refine awp_seq ?_
  refine awp_regs hF ?_
  refine dv (gyes_none rfl) (q_load (v := vk) Try.isAgg32 rfl hc rfl) rfl (by decide) (cok1 trivial) ?_
  refine dv (gyes_none rfl) (q_mv (v := .int .i64 k) rfl) rfl (by decide) (cok1 trivial) ?_
  refine dv (gyes_none rfl) (q_index_slI (l := kept) (z := k) Try.underlying32 Try.sizeOf4 (s0.sl hk) rfl rfl (by omega) (by omega)) rfl (by decide) (cok2 trivial trivial) ?_
  refine dv (gyes_none rfl) (q_load_sl (l := kept) (i := k.toNat) Try.isAgg4 (s0.sl hk) rfl (by omega)) rfl (by decide) (cok1 trivial) ?_
  refine dv (gyes_none rfl) (q_as (v := .bool (nth kept k.toNat)) rfl) rfl (by decide) (cok1 trivial) ?_
  refine ⟨_, Wk.refl _ _, ?_⟩
  show awp _ _ _ _ _ _ _
  refine awp_ret_wk ?_
  refine ⟨_, Wk.refl _ _, ?_⟩
  repeat (with_reducible first | refine then_ret ?_ | refine blk_ret ?_ | refine then_exit ?_ | refine blk_exit ?_ | refine blk_exit' (by decide) ?_ | refine blk_normal ?_ | refine then_normal ?_ | refine retq_ret ?_ | refine retq_normal ?_ | refine ng_normal ?_ | refine ng_ret ?_ | refine ng_exit ?_)
  exact ret_none (v := .bool (nth kept k.toNat)) rfl s0.kp (.tmp rfl .nil) rfl rfl ⟨rfl, rfl⟩
set_option maxRecDepth 100000 in
set_option maxHeartbeats 4000000 in
theorem indexf_ok {H0 : AHeap} (l : List Int) (vL : Value) (hL : Sl intv H0 vL l) (hl : l.length ≤ 1000000) (bc : Nat) (vk : Value) (kept : List Bool) (hc : Rd H0 bc [vk] 1) (hk : Sl boolv H0 vk kept) (hv : ∀ x ∈ l, 0 ≤ x ∧ x.toNat < kept.length) : ACalls Try.prog 28 [vL, .func (.func 25) #[] #[.pointer (some ⟨bc, 0, none⟩)]] H0 (Rets (.int .i64 (ixF l (fun k => nth kept k.toNat))) H0) := by
  have hF : Wd Fence.wide := .inl rfl
  have hM : Try.prog.follows .mixedOrders = true := by kernel_rfl
  have s0 := St.begin H0
  refine acalls_st Try.func28 rfl Try.ntmps28 rfl ?_
  refine awp_seq ?_
  refine awp_regs hF ?_
  refine dv (gyes_none rfl) (q_as (v := .int .i64 0) rfl) rfl (by decide) (cok1 (cconst rfl)) ?_
  refine ⟨_, Wk.refl _ _, ?_⟩
  show awp _ _ _ _ _ _ _
  refine awp_seq ?_
  refine awp_seq ?_
  refine awp_regs hF ?_
  refine dv (gyes_none rfl) (q_mv (v := vL) rfl) rfl (by decide) (cok1 trivial) ?_
  refine dv (gyes_none rfl) (q_len_sl (l := l) Try.underlying23 (s0.sl hL) rfl) rfl (by decide) (cok1 trivial) ?_
  refine dv (gyes_none rfl) (q_mv (v := .int .i64 0) rfl) rfl (by decide) (cok1 (cconst rfl)) ?_
  refine ⟨_, Wk.refl _ _, ?_⟩
  show awp _ _ _ _ _ _ _
  refine awp_block ?_
  refine awp_wk (Wk.U [(0, vL), (1, .func (.func 25) #[] #[.pointer (some ⟨bc, 0, none⟩)]), (7, .int .i64 ((l.length : Nat) : Int)), (8, .int .i64 0)] ⟨rfl, rfl, rfl, rfl, trivial⟩) ?_
  refine awp_loop (fun (i : Nat) st => ∃ (H1 : AHeap), st = ⟨19, U [(0, vL), (1, .func (.func 25) #[] #[.pointer (some ⟨bc, 0, none⟩)]), (7, .int .i64 ((l.length : Nat) : Int)), (8, .int .i64 ((i : Nat) : Int))], [], H1⟩ ∧ St H0 (none0) (Rd H0) H1 [] ∧ (∀ j, j < i → nth kept (nth l j).toNat = false)) (fun (i : Nat) => l.length - i) (x0 := (0)) ?h0 ?round
  case h0 =>
    exact ⟨_, rfl, s0, fun j h => absurd h (Nat.not_lt_zero _)⟩
  case round =>
    rintro i _ ⟨H1, rfl, s2, hi⟩
    refine awp_seq ?_
    refine awp_regs hF ?_
    refine dvb (gyes_none rfl) (q_int rfl rfl rfl) rfl (by decide) (cok2 trivial trivial) (fun c1 => ?_) (fun c1 => ?_)
    ·
      replace c1 := of_decide_eq_true c1
      have hil : i < l.length := by omega
      have hvi := hv _ (nthI_mem hil)
      refine ⟨_, Wk.refl _ _, ?_⟩
      show awp _ _ _ _ _ _ _
      refine awp_seq ?_
      refine awp_cond_t rfl ?_
      refine awp_skip_wk ?_
      refine ⟨_, Wk.refl _ _, ?_⟩
      show awp _ _ _ _ _ _ _
      refine awp_seq ?_
      refine awp_block ?_
      refine awp_seq ?_
      refine awp_regs hF ?_
      refine dv (gyes_none rfl) (q_mv (v := .int .i64 ((i : Nat) : Int)) rfl) rfl (by decide) (cok1 trivial) ?_
      refine dv (gyes_none rfl) (q_as (v := .int .i64 ((i : Nat) : Int)) rfl) rfl (by decide) (cok1 trivial) ?_
      refine ⟨_, Wk.refl _ _, ?_⟩
      show awp _ _ _ _ _ _ _
      refine awp_seq ?_
      refine awp_regs hF ?_
      refine dv (gyes_none rfl) (q_mv (v := .func (.func 25) #[] #[.pointer (some ⟨bc, 0, none⟩)]) rfl) rfl (by decide) (cok1 trivial) ?_
      refine dv (gyes_none rfl) (q_mv (v := vL) rfl) rfl (by decide) (cok1 trivial) ?_
      refine dv (gyes_none rfl) (q_mv (v := .int .i64 ((i : Nat) : Int)) rfl) rfl (by decide) (cok1 trivial) ?_
      refine dv (gyes_none rfl) (q_index_sl (l := l) (i := i) Try.underlying23 Try.sizeOf3 (s2.sl hL) rfl rfl (by omega)) rfl (by decide) (cok2 trivial trivial) ?_
      refine dv (gyes_none rfl) (q_load_sl (l := l) (i := i) Try.isAgg3 (s2.sl hL) rfl (by omega)) rfl (by decide) (cok1 trivial) ?_
      refine dvb (gyes_none rfl) (q_callv0 Try.call25 rfl rfl (clos25_ok (nth l i) bc vk kept (s2.zrd hc) (s2.sl hk) hvi.1 hvi.2)) rfl (by decide) (cok2 trivial trivial) (fun c2 => ?_) (fun c2 => ?_)
      ·
        refine ⟨_, Wk.refl _ _, ?_⟩
        show awp _ _ _ _ _ _ _
        refine awp_cond_t rfl ?_
        refine awp_seq ?_
        refine awp_regs hF ?_
        refine dv (gyes_none rfl) (q_mv (v := .int .i64 ((i : Nat) : Int)) rfl) rfl (by decide) (cok1 trivial) ?_
        refine dv (gyes_none rfl) (q_as (v := .int .i64 ((i : Nat) : Int)) rfl) rfl (by decide) (cok1 trivial) ?_
        refine ⟨_, Wk.refl _ _, ?_⟩
        show awp _ _ _ _ _ _ _
        refine awp_ret_wk ?_
        refine ⟨_, Wk.refl _ _, ?_⟩
        repeat (with_reducible first | refine then_ret ?_ | refine blk_ret ?_ | refine then_exit ?_ | refine blk_exit ?_ | refine blk_exit' (by decide) ?_ | refine blk_normal ?_ | refine then_normal ?_ | refine retq_ret ?_ | refine retq_normal ?_ | refine ng_normal ?_ | refine ng_ret ?_ | refine ng_exit ?_)
        exact ret_none (v := .int .i64 ((i : Nat) : Int)) rfl s2.kp (.tmp rfl .nil) rfl rfl ⟨by rw [ixF_yes (i := i) (by omega) (by assumption) hi], rfl⟩
      ·
        refine ⟨_, Wk.refl _ _, ?_⟩
        show awp _ _ _ _ _ _ _
        refine awp_cond_f rfl ?_
        refine awp_skip_wk ?_
        refine ⟨_, Wk.refl _ _, ?_⟩
        show awp _ _ _ _ _ _ _
        refine awp_regs hF ?_
        refine dv (gyes_none rfl) (OpQ.cast (v' := .int .i64 ((i + 1 : Nat) : Int)) (q_int rfl rfl rfl) (congrArg _ ((i64_in (by omega)).trans (by first | rfl | omega | (push_cast; rfl))))) rfl (by decide) (cok2 trivial (cconst rfl)) ?_
        refine dv (gyes_none rfl) (q_mv (v := .int .i64 ((i + 1 : Nat) : Int)) rfl) rfl (by decide) (cok1 trivial) ?_
        refine ⟨_, Wk.U [(0, vL), (1, .func (.func 25) #[] #[.pointer (some ⟨bc, 0, none⟩)]), (7, .int .i64 ((l.length : Nat) : Int)), (8, .int .i64 (((i + 1) : Nat) : Int))] ⟨rfl, rfl, rfl, rfl, trivial⟩, (i + 1), ⟨_, rfl, s2, lt_succ_cases hi (by assumption)⟩, (by omega)⟩
    ·
      replace c1 := of_decide_eq_false c1
      refine ⟨_, Wk.refl _ _, ?_⟩
      show awp _ _ _ _ _ _ _
      refine awp_seq ?_
      refine awp_cond_f rfl ?_
      refine awp_exit_wk ?_
      refine ⟨_, Wk.refl _ _, ?_⟩
      show awp _ _ _ _ _ _ _
      refine awp_seq ?_
      refine awp_regs hF ?_
      refine dv (gyes_none rfl) (q_as (v := .int .i64 (-1)) rfl) rfl (by decide) (cok1 (cconst rfl)) ?_
      refine ⟨_, Wk.refl _ _, ?_⟩
      show awp _ _ _ _ _ _ _
      refine awp_ret_wk ?_
      refine ⟨_, Wk.refl _ _, ?_⟩
      repeat (with_reducible first | refine then_ret ?_ | refine blk_ret ?_ | refine then_exit ?_ | refine blk_exit ?_ | refine blk_exit' (by decide) ?_ | refine blk_normal ?_ | refine then_normal ?_ | refine retq_ret ?_ | refine retq_normal ?_ | refine ng_normal ?_ | refine ng_ret ?_ | refine ng_exit ?_)
      exact ret_none (v := .int .i64 (-1)) rfl s2.kp (.tmp rfl .nil) rfl rfl ⟨by rw [ixF_no (i := i) (by omega) hi], rfl⟩
set_option maxRecDepth 100000 in
set_option maxHeartbeats 4000000 in
theorem delf0_ok {H0 : AHeap} (L : List Int) (b bc : Nat) (vk : Value) (kept : List Bool) (hb : H0[b]? = some (.cells true (L.map intv) 1)) (hL : L.length ≤ 1000000) (hc : Rd H0 bc [vk] 1) (hcb : bc ≠ b) (hk : SlZ boolv (fun c vs sz => Rd H0 c vs sz ∧ c ≠ b) vk kept) (hv : ∀ x ∈ L, 0 ≤ x ∧ x.toNat < kept.length) : ACalls Try.prog 24 [.slice (some ⟨b, 0, none⟩) L.length L.length, .func (.func 25) #[] #[.pointer (some ⟨bc, 0, none⟩)]] H0 (fun v H' => v = .slice (some ⟨b, 0, none⟩) (L.filter (fun x => !nth kept x.toNat)).length L.length ∧ Kp (· = b) H0 H' ∧ H'[b]? = some (.cells true ((L.filter (fun x => !nth kept x.toNat)).map intv) 1)) := by
  have hF : Wd Fence.wide := .inl rfl
  have hM : Try.prog.follows .mixedOrders = true := by kernel_rfl
  have s0 := St.begin1 hb
  refine acalls_st Try.func24 rfl Try.ntmps24 rfl ?_
  refine awp_seq ?_
  refine awp_regs hF ?_
  refine dv (gyes_none rfl) (q_as (v := .slice none 0 0) rfl) rfl (by decide) (cok1 (cconst rfl)) ?_
  refine ⟨_, Wk.refl _ _, ?_⟩
  show awp _ _ _ _ _ _ _
  refine awp_seq ?_
  refine awp_regs hF ?_
  refine dv (gyes_none rfl) (q_mv (v := .slice (some ⟨b, 0, none⟩) L.length L.length) rfl) rfl (by decide) (cok1 trivial) ?_
  refine dv (gyes_none rfl) (q_mv (v := .func (.func 25) #[] #[.pointer (some ⟨bc, 0, none⟩)]) rfl) rfl (by decide) (cok1 trivial) ?_
  refine dv (gyes_none rfl) (q_call0 Try.call28 rfl (indexf_ok L _ (s0.slj (j := 0) rfl (by first | rfl | (simp; done) | omega) (by first | exact Nat.le_refl _ | omega)) hL bc vk kept (s0.zrd ⟨hc, hcb⟩) (s0.sl hk) hv)) rfl (by decide) (call_ok rfl) ?_
  refine dv (gyes_none rfl) (q_as (v := .int .i64 (ixF L (fun k => nth kept k.toNat))) rfl) rfl (by decide) (cok1 trivial) ?_
  refine ⟨_, Wk.refl _ _, ?_⟩
  show awp _ _ _ _ _ _ _
  refine awp_seq ?_
  refine awp_seq ?_
  refine awp_regs hF ?_
  refine dv (gyes_none rfl) (q_mv (v := .int .i64 (ixF L (fun k => nth kept k.toNat))) rfl) rfl (by decide) (cok1 trivial) ?_
  refine dvb (gyes_none rfl) (q_int rfl rfl rfl) rfl (by decide) (cok2 trivial (cconst rfl)) (fun c1 => ?_) (fun c1 => ?_)
  ·
    replace c1 := eq_of_beq c1
    have hall : ∀ x ∈ L, nth kept x.toNat = false := by
      rcases ixF_cases L (fun k => nth kept k.toNat) with ⟨_, h⟩ | ⟨i0, h, _⟩
      · exact h
      · omega
    refine ⟨_, Wk.refl _ _, ?_⟩
    show awp _ _ _ _ _ _ _
    refine awp_cond_t rfl ?_
    refine awp_seq ?_
    refine awp_regs hF ?_
    refine dv (gyes_none rfl) (q_mv (v := .slice (some ⟨b, 0, none⟩) L.length L.length) rfl) rfl (by decide) (cok1 trivial) ?_
    refine dv (gyes_none rfl) (q_as (v := .slice (some ⟨b, 0, none⟩) L.length L.length) rfl) rfl (by decide) (cok1 trivial) ?_
    refine ⟨_, Wk.refl _ _, ?_⟩
    show awp _ _ _ _ _ _ _
    refine awp_ret_wk ?_
    refine ⟨_, Wk.refl _ _, ?_⟩
    repeat (with_reducible first | refine then_ret ?_ | refine blk_ret ?_ | refine then_exit ?_ | refine blk_exit ?_ | refine blk_exit' (by decide) ?_ | refine blk_normal ?_ | refine then_normal ?_ | refine retq_ret ?_ | refine retq_normal ?_ | refine ng_normal ?_ | refine ng_ret ?_ | refine ng_exit ?_)
    refine ret_is (v := .slice (some ⟨b, 0, none⟩) L.length L.length) rfl (.tmp rfl .nil) rfl ?_
    have he : L.filter (fun x => !nth kept x.toNat) = L := filter_all (fun x hx => by rw [hall x hx]; rfl)
    rw [he]
    exact ⟨rfl, s0.kp, s0.getj (j := 0) rfl⟩
  ·
    replace c1 := ne_of_beq_false c1
    obtain ⟨i0, hix, hi0l, hi0p, hi0n⟩ : ∃ i : Nat, ixF L (fun k => nth kept k.toNat) = (i : Nat) ∧ i < L.length ∧ (fun k => nth kept k.toNat) (nth L i) = true ∧ ∀ j, j < i → (fun k => nth kept k.toNat) (nth L j) = false := by
      rcases ixF_cases L (fun k => nth kept k.toNat) with ⟨h, _⟩ | h
      · omega
      · exact h
    rw [hix]
    refine ⟨_, Wk.refl _ _, ?_⟩
    show awp _ _ _ _ _ _ _
    refine awp_cond_f rfl ?_
    refine awp_skip_wk ?_
    refine ⟨_, Wk.refl _ _, ?_⟩
    show awp _ _ _ _ _ _ _
    refine awp_seq ?_
    refine awp_seq ?_
    refine awp_regs hF ?_
    refine dv (gyes_none rfl) (q_mv (v := .int .i64 ((i0 : Nat) : Int)) rfl) rfl (by decide) (cok1 trivial) ?_
    refine dv (gyes_none rfl) (OpQ.cast (v' := .int .i64 ((i0 + 1 : Nat) : Int)) (q_int rfl rfl rfl) (congrArg _ ((i64_in (by omega)).trans (by first | rfl | omega | (push_cast; rfl))))) rfl (by decide) (cok2 trivial (cconst rfl)) ?_
    refine dv (gyes_none rfl) (q_as (v := .int .i64 ((i0 + 1 : Nat) : Int)) rfl) rfl (by decide) (cok1 trivial) ?_
    refine ⟨_, Wk.refl _ _, ?_⟩
    show awp _ _ _ _ _ _ _
    refine awp_block ?_
    refine awp_wk (Wk.U [(0, .slice (some ⟨b, 0, none⟩) L.length L.length), (1, .func (.func 25) #[] #[.pointer (some ⟨bc, 0, none⟩)]), (5, .int .i64 ((i0 : Nat) : Int)), (6, .int .i64 (((i0 + 1) : Nat) : Int))] ⟨rfl, rfl, rfl, rfl, trivial⟩) ?_
    refine awp_loop (fun ((j, i, Lc) : Nat × Nat × (List Int)) st => ∃ (H1 : AHeap), st = ⟨42, U [(0, .slice (some ⟨b, 0, none⟩) L.length L.length), (1, .func (.func 25) #[] #[.pointer (some ⟨bc, 0, none⟩)]), (5, .int .i64 ((i : Nat) : Int)), (6, .int .i64 ((j : Nat) : Int))], [], H1⟩ ∧ St H0 ((· = b)) (fun c vs sz => Rd H0 c vs sz ∧ c ≠ b) H1 [(b, .cells true (Lc.map intv) 1)] ∧ (DInv L (fun x => !nth kept x.toNat) i j Lc)) (fun ((j, i, Lc) : Nat × Nat × (List Int)) => L.length - j) (x0 := ((i0 + 1), i0, L)) ?h0 ?round
    case h0 =>
      exact ⟨_, rfl, s0, DInv.start hi0l hi0p hi0n⟩
    case round =>
      rintro ⟨j, i, Lc⟩ _ ⟨H1, rfl, s2, hd⟩
      dsimp only at *
      refine awp_seq ?_
      refine awp_seq ?_
      refine awp_regs hF ?_
      refine dv (gyes_none rfl) (q_mv (v := .int .i64 ((j : Nat) : Int)) rfl) rfl (by decide) (cok1 trivial) ?_
      refine dv (gyes_none rfl) (q_mv (v := .slice (some ⟨b, 0, none⟩) L.length L.length) rfl) rfl (by decide) (cok1 trivial) ?_
      refine dv (gyes_none rfl) (q_len_slice Try.underlying23 rfl (s2.rd (j := 0) rfl)) rfl (by decide) (cok1 trivial) ?_
      refine dvb (gyes_none rfl) (q_int rfl rfl rfl) rfl (by decide) (cok2 trivial trivial) (fun c2 => ?_) (fun c2 => ?_)
      ·
        replace c2 := of_decide_eq_true c2
        have hjl : j < L.length := by omega
        have hjv := hd.at' hjl
        have hvj := hv _ (nthI_mem hjl)
        rw [← hjv] at hvj
        have hcl := hd.len
        have hij := hd.ij
        refine ⟨_, Wk.refl _ _, ?_⟩
        show awp _ _ _ _ _ _ _
        refine awp_cond_t rfl ?_
        refine awp_skip_wk ?_
        refine ⟨_, Wk.refl _ _, ?_⟩
        show awp _ _ _ _ _ _ _
        refine awp_seq ?_
        refine awp_block ?_
        refine awp_seq ?_
        refine awp_regs hF ?_
        refine dv (gyes_none rfl) (q_mv (v := .slice (some ⟨b, 0, none⟩) L.length L.length) rfl) rfl (by decide) (cok1 trivial) ?_
        refine dv (gyes_none rfl) (q_mv (v := .int .i64 ((j : Nat) : Int)) rfl) rfl (by decide) (cok1 trivial) ?_
        refine dv (gyes_none rfl) (OpQ.cast (v' := .pointer (some ⟨b, j, none⟩)) (q_index1 (i := j) Try.underlying23 Try.sizeOf3 rfl rfl (by omega) (s2.rd (j := 0) rfl)) (by rw [Nat.zero_add])) rfl (by decide) (cok2 trivial trivial) ?_
        refine dv (gyes_none rfl) (q_load (v := intv (nth Lc j)) Try.isAgg3 rfl (s2.rd (j := 0) rfl) (get_nth (w := 0) (by omega))) rfl (by decide) (cok1 trivial) ?_
        refine dv (gyes_none rfl) (q_as (v := .int .i64 (nth Lc j)) rfl) rfl (by decide) (cok1 trivial) ?_
        refine ⟨_, Wk.refl _ _, ?_⟩
        show awp _ _ _ _ _ _ _
        refine awp_seq ?_
        refine awp_regs hF ?_
        refine dv (gyes_none rfl) (q_mv (v := .func (.func 25) #[] #[.pointer (some ⟨bc, 0, none⟩)]) rfl) rfl (by decide) (cok1 trivial) ?_
        refine dv (gyes_none rfl) (q_mv (v := .int .i64 (nth Lc j)) rfl) rfl (by decide) (cok1 trivial) ?_
        refine dvb (gyes_none rfl) (q_callv0 Try.call25 rfl rfl (clos25_ok (nth Lc j) bc vk kept (s2.zrd ⟨hc, hcb⟩) (s2.sl hk) hvj.1 hvj.2)) rfl (by decide) (cok2 trivial trivial) (fun c3 => ?_) (fun c3 => ?_)
        ·
          have hqj : (fun x => !nth kept x.toNat) (nth L j) = false := by
            rw [← hjv]; exact congrArg (fun b => !b) c3
          refine dv (gyes_none rfl) (q_not (b := true) rfl) rfl (by decide) (cok1 trivial) ?_
          refine ⟨_, Wk.refl _ _, ?_⟩
          show awp _ _ _ _ _ _ _
          refine awp_cond_f rfl ?_
          refine awp_skip_wk ?_
          refine ⟨_, Wk.refl _ _, ?_⟩
          show awp _ _ _ _ _ _ _
          refine awp_regs hF ?_
          refine dv (gyes_none rfl) (q_mv (v := .int .i64 ((j : Nat) : Int)) rfl) rfl (by decide) (cok1 trivial) ?_
          refine dv (gyes_none rfl) (OpQ.cast (v' := .int .i64 ((j + 1 : Nat) : Int)) (q_int rfl rfl rfl) (congrArg _ ((i64_in (by omega)).trans (by first | rfl | omega | (push_cast; rfl))))) rfl (by decide) (cok2 trivial (cconst rfl)) ?_
          refine dv (gyes_none rfl) (q_as (v := .int .i64 ((j + 1 : Nat) : Int)) rfl) rfl (by decide) (cok1 trivial) ?_
          refine ⟨_, Wk.U [(0, .slice (some ⟨b, 0, none⟩) L.length L.length), (1, .func (.func 25) #[] #[.pointer (some ⟨bc, 0, none⟩)]), (5, .int .i64 ((i : Nat) : Int)), (6, .int .i64 (((j + 1) : Nat) : Int))] ⟨rfl, rfl, rfl, rfl, trivial⟩, ((j + 1), i, Lc), ⟨_, rfl, s2, hd.skip hjl hqj⟩, (by omega)⟩
        ·
          have hqj : (fun x => !nth kept x.toNat) (nth L j) = true := by
            rw [← hjv]; exact congrArg (fun b => !b) c3
          refine dv (gyes_none rfl) (q_not (b := false) rfl) rfl (by decide) (cok1 trivial) ?_
          refine ⟨_, Wk.refl _ _, ?_⟩
          show awp _ _ _ _ _ _ _
          refine awp_cond_t rfl ?_
          refine awp_seq ?_
          refine awp_regs hF ?_
          refine dv (gyes_none rfl) (q_mv (v := .slice (some ⟨b, 0, none⟩) L.length L.length) rfl) rfl (by decide) (cok1 trivial) ?_
          refine dv (gyes_none rfl) (q_mv (v := .int .i64 ((i : Nat) : Int)) rfl) rfl (by decide) (cok1 trivial) ?_
          refine dv (gyes_none rfl) (q_mv (v := .int .i64 (nth Lc j)) rfl) rfl (by decide) (cok1 trivial) ?_
          refine dv (gyes_none rfl) (OpQ.cast (v' := .pointer (some ⟨b, i, none⟩)) (q_index1 (i := i) Try.underlying23 Try.sizeOf3 rfl rfl (by omega) (s2.rd (j := 0) rfl)) (by rw [Nat.zero_add])) rfl (by decide) (cok2 trivial trivial) ?_
          refine x_store1 [] hF s2 (by kernel_rfl) (gyes_none rfl) (j := 0) (v := intv (nth Lc j)) rfl Try.sizeOf3 rfl rfl rfl (lc_scalar rfl) (by rw [List.length_map]; omega) trivial trivial rfl rfl (F' := [(b, .cells true ((Lc.set i (nth Lc j)).map intv) 1)]) (by simp only [set_map1]; rfl) (fun H3 s4 => ⟨?_, ?_⟩)
          · exact trivial
          refine ⟨_, Wk.refl _ _, ?_⟩
          show awp _ _ _ _ _ _ _
          refine awp_regs hF ?_
          refine dv (gyes_none rfl) (q_mv (v := .int .i64 ((i : Nat) : Int)) rfl) rfl (by decide) (cok1 trivial) ?_
          refine dv (gyes_none rfl) (OpQ.cast (v' := .int .i64 ((i + 1 : Nat) : Int)) (q_int rfl rfl rfl) (congrArg _ ((i64_in (by omega)).trans (by first | rfl | omega | (push_cast; rfl))))) rfl (by decide) (cok2 trivial (cconst rfl)) ?_
          refine dv (gyes_none rfl) (q_as (v := .int .i64 ((i + 1 : Nat) : Int)) rfl) rfl (by decide) (cok1 trivial) ?_
          refine ⟨_, Wk.refl _ _, ?_⟩
          show awp _ _ _ _ _ _ _
          refine awp_regs hF ?_
          refine dv (gyes_none rfl) (q_mv (v := .int .i64 ((j : Nat) : Int)) rfl) rfl (by decide) (cok1 trivial) ?_
          refine dv (gyes_none rfl) (OpQ.cast (v' := .int .i64 ((j + 1 : Nat) : Int)) (q_int rfl rfl rfl) (congrArg _ ((i64_in (by omega)).trans (by first | rfl | omega | (push_cast; rfl))))) rfl (by decide) (cok2 trivial (cconst rfl)) ?_
          refine dv (gyes_none rfl) (q_as (v := .int .i64 ((j + 1 : Nat) : Int)) rfl) rfl (by decide) (cok1 trivial) ?_
          refine ⟨_, Wk.U [(0, .slice (some ⟨b, 0, none⟩) L.length L.length), (1, .func (.func 25) #[] #[.pointer (some ⟨bc, 0, none⟩)]), (5, .int .i64 (((i + 1) : Nat) : Int)), (6, .int .i64 (((j + 1) : Nat) : Int))] ⟨rfl, rfl, rfl, rfl, trivial⟩, ((j + 1), (i + 1), (Lc.set i (nth Lc j))), ⟨_, rfl, s4, hd.put hjl hqj⟩, (by omega)⟩
      ·
        replace c2 := of_decide_eq_false c2
        have hcl := hd.len
        have hij := hd.ij
        have hil := hd.jl
        have hfin := hd.fin (by omega)
        refine ⟨_, Wk.refl _ _, ?_⟩
        show awp _ _ _ _ _ _ _
        refine awp_cond_f rfl ?_
        refine awp_exit_wk ?_
        refine ⟨_, Wk.refl _ _, ?_⟩
        show awp _ _ _ _ _ _ _
        refine awp_seq ?_
        refine awp_regs hF ?_
        refine dv (gyes_none rfl) (q_mv (v := .slice (some ⟨b, 0, none⟩) L.length L.length) rfl) rfl (by decide) (cok1 trivial) ?_
        refine dv (gyes_none rfl) (q_mv (v := .int .i64 ((i : Nat) : Int)) rfl) rfl (by decide) (cok1 trivial) ?_
        refine dv (gyes_none rfl) (OpQ.cast (v' := .slice (some ⟨b, i, none⟩) (L.length - i) (L.length - i)) (q_slice (i := i) (j := L.length) (m := L.length) Try.underlying23 Try.sizeOf3 rfl (s2.rd (j := 0) rfl) ⟨_, rfl⟩ ⟨rfl, rfl⟩ rfl (by omega) (by omega) (by omega)) (by simp)) rfl (by decide) (cok2 trivial trivial) ?_
        refine x_clear [] hF s2 (by kernel_rfl) (j := 0) (z := .int .i64 0) (gyes_none rfl) Try.underlying23 Try.zeroValue3 rfl rfl rfl (Nat.le_refl _) rfl (by rw [List.length_map]; omega) trivial rfl (vs' := (Lc.take i).map intv ++ List.replicate (L.length - i) (.int .i64 0)) (splice_clr (by omega) (by omega)) rfl (fun H5 s6 => ⟨?_, ?_⟩)
        · exact trivial
        refine ⟨_, Wk.refl _ _, ?_⟩
        show awp _ _ _ _ _ _ _
        refine awp_seq ?_
        refine awp_shrink s6 (j := 0) (vs2 := (Lc.take i).map intv) rfl i (shr_clr (by omega)) (fun H7 s8 => ?_)
        refine awp_regs hF ?_
        refine dv (gyes_none rfl) (q_mv (v := .slice (some ⟨b, 0, none⟩) L.length L.length) rfl) rfl (by decide) (cok1 trivial) ?_
        refine dv (gyes_none rfl) (q_mv (v := .int .i64 ((i : Nat) : Int)) rfl) rfl (by decide) (cok1 trivial) ?_
        refine dv (gyes_none rfl) (OpQ.cast (v' := .slice (some ⟨b, 0, none⟩) i L.length) (q_slice (i := 0) (j := i) (m := L.length) Try.underlying23 Try.sizeOf3 rfl (s8.rd (j := 0) rfl) rfl ⟨_, rfl⟩ rfl (by omega) (by omega) (by omega)) (by simp)) rfl (by decide) (cok2 trivial trivial) ?_
        refine dv (gyes_none rfl) (q_as (v := .slice (some ⟨b, 0, none⟩) i L.length) rfl) rfl (by decide) (cok1 trivial) ?_
        refine ⟨_, Wk.refl _ _, ?_⟩
        show awp _ _ _ _ _ _ _
        refine awp_ret_wk ?_
        refine ⟨_, Wk.refl _ _, ?_⟩
        repeat (with_reducible first | refine then_ret ?_ | refine blk_ret ?_ | refine then_exit ?_ | refine blk_exit ?_ | refine blk_exit' (by decide) ?_ | refine blk_normal ?_ | refine then_normal ?_ | refine retq_ret ?_ | refine retq_normal ?_ | refine ng_normal ?_ | refine ng_ret ?_ | refine ng_exit ?_)
        refine ret_is (v := .slice (some ⟨b, 0, none⟩) i L.length) rfl (.tmp rfl .nil) rfl ?_
        rw [← hfin.1]
        refine ⟨?_, s8.kp, s8.getj (j := 0) rfl⟩
        rw [hfin.1, ← hfin.2]
theorem delf_ok {H0 : AHeap} (L : List Int) (b bc : Nat) (vk : Value) (kept : List Bool) (hb : H0[b]? = some (.cells true (L.map intv) 1)) (hL : L.length ≤ 1000000) (hc : Rd H0 bc [vk] 1) (hcb : bc ≠ b) (hk : SlZ boolv (fun c vs sz => Rd H0 c vs sz ∧ c ≠ b) vk kept) (hv : ∀ x ∈ L, 0 ≤ x ∧ x.toNat < kept.length) (Lf : List Int) (hf : L.filter (fun x => !nth kept x.toNat) = Lf) :
    ACalls Try.prog 24 [.slice (some ⟨b, 0, none⟩) L.length L.length, .func (.func 25) #[] #[.pointer (some ⟨bc, 0, none⟩)]] H0 (fun v H' => v = .slice (some ⟨b, 0, none⟩) Lf.length Lf.length ∧ Kp (· = b) H0 H' ∧ H'[b]? = some (.cells true (Lf.map intv) 1)) := by
  subst hf
  exact acalls_cap (delf0_ok L b bc vk kept hb hL hc hcb hk hv) (Nat.le_refl _) (List.length_filter_le _ _)

end Go.Proofs.YtbjlabokijchpaaA
