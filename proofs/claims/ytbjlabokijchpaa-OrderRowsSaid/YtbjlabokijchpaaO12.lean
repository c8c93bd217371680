/-
  Walks of functions of the given program, and what they compute.
-/
import Derived.Test.YtbjlabokijchpaaO11
import Derived.Test.YtbjlabokijchpaaProg
import Derived.KernelRfl
namespace Go.Proofs.YtbjlabokijchpaaA
set_option linter.unusedVariables false
open Go Go.RowKit Go.Shelf Go.Proofs
structure P1 (e : List (List Int)) (roots : List Int) (i : Nat) (kept : List Bool) : Prop where
  len : kept.length = e.length
  snd : ∀ x, Valid e x → Mk' kept x → KR e roots x
  rt : ∀ x ∈ roots.take i, Valid e x → Mk' kept x
theorem P1.start (e : List (List Int)) (roots : List Int) : P1 e roots 0 (List.replicate e.length false) := ⟨by simp, fun x _ h => (not_mk_rep h).elim, by simp⟩
theorem take_cases {l : List Int} {i : Nat} (hi : i < l.length) {x : Int} (h : x ∈ l.take (i + 1)) : x ∈ l.take i ∨ x = nth l i := by
  rw [List.take_add_one, List.getElem?_eq_getElem hi] at h
  rw [nth_eq hi]
  exact (List.mem_append.1 h).imp_right fun h => by simpa using h
theorem P1.skip {e : List (List Int)} {roots : List Int} {i : Nat} {kept : List Bool} (h : P1 e roots i kept) (hi : i < roots.length) (hv : ¬ Valid e (nth roots i)) : P1 e roots (i + 1) kept :=
  ⟨h.len, h.snd, fun x hx hvx => (take_cases hi hx).elim (fun h1 => h.rt x h1 hvx) fun h1 => absurd (h1 ▸ hvx) hv⟩
theorem P1.add {e : List (List Int)} {roots : List Int} {i : Nat} {kept : List Bool} (h : P1 e roots i kept) (hi : i < roots.length) (hv : Valid e (nth roots i)) : P1 e roots (i + 1) (kept.set (nth roots i).toNat true) := by
  have hl : (nth roots i).toNat < kept.length := by have := hv.1; have := hv.2; rw [h.len]; omega
  refine ⟨by rw [List.length_set]; exact h.len, fun x hx hm => ?_, fun x hx hvx => (mk_set hv.1 hl hvx.1).2 ?_⟩
  · rcases (mk_set hv.1 hl hx.1).1 hm with rfl | h1
    · exact .root (nthI_mem hi) hv
    · exact h.snd x hx h1
  · rcases take_cases hi hx with h1 | h1
    · exact .inr (h.rt x h1 hvx)
    · exact .inl h1
structure RK (e : List (List Int)) (roots : List Int) (r : Nat) (kept : List Bool) : Prop where
  len : kept.length = e.length
  snd : ∀ x, Valid e x → Mk' kept x → KR e roots x
  rt : ∀ x ∈ roots, Valid e x → Mk' kept x
  cl : (∀ x, KR e roots x → Mk' kept x) ∨ r < kept.countP id
theorem mk_pos {kept : List Bool} {x : Int} (h : Mk' kept x) : 0 < kept.countP id := by
  unfold Mk' at h
  by_cases hl : x.toNat < kept.length
  · rw [nth_eq hl] at h
    exact List.countP_pos_iff.2 ⟨_, List.getElem_mem hl, h⟩
  · unfold nth at h
    rw [List.getD_eq_getElem?_getD, List.getElem?_eq_none (by omega)] at h
    cases h
theorem P1.fin {e : List (List Int)} {roots : List Int} {i : Nat} {kept : List Bool} (h : P1 e roots i kept) (hi : ¬ i < roots.length) : RK e roots 0 kept := by
  have hrt : ∀ x ∈ roots, Valid e x → Mk' kept x := fun x hx => h.rt x (by rw [List.take_of_length_le (by omega)]; exact hx)
  refine ⟨h.len, h.snd, hrt, ?_⟩
  by_cases h0 : 0 < kept.countP id
  · exact .inr h0
  · exact .inl fun x hx => hx.closed (S := fun z => Mk' kept z) hrt fun x _ hm => absurd (mk_pos hm) h0
structure K1 (e : List (List Int)) (roots : List Int) (k0 : List Bool) (i : Nat) (kept : List Bool) : Prop where
  le : Le' k0 kept
  len : kept.length = e.length
  snd : ∀ x, Valid e x → Mk' kept x → KR e roots x
  dn : ∀ i', i' < i → nth k0 i' = true → ∀ y ∈ nth e i', Valid e y → Mk' kept y
structure K2 (e : List (List Int)) (roots : List Int) (k0 : List Bool) (i j : Nat) (kept : List Bool) : Prop where
  one : K1 e roots k0 i kept
  now : ∀ y ∈ (nth e i).take j, Valid e y → Mk' kept y
theorem RK.begin {e : List (List Int)} {roots : List Int} {r : Nat} {kept : List Bool} (h : RK e roots r kept) : K1 e roots kept 0 kept := ⟨.refl _, h.len, h.snd, fun i' hi => absurd hi (Nat.not_lt_zero _)⟩
theorem K1.begin {e : List (List Int)} {roots : List Int} {k0 : List Bool} {i : Nat} {kept : List Bool} (h : K1 e roots k0 i kept) : K2 e roots k0 i 0 kept := ⟨h, by simp⟩
theorem K2.fin {e : List (List Int)} {roots : List Int} {k0 : List Bool} {i j : Nat} {kept : List Bool} (h : K2 e roots k0 i j kept) (hc : nth kept i = false ∨ ¬ j < (nth e i).length) : K1 e roots k0 (i + 1) kept := by
  refine ⟨h.one.le, h.one.len, h.one.snd, fun i' hi hx y hy hv => ?_⟩
  by_cases e1 : i' = i
  · subst e1
    rcases hc with h1 | h1
    · rw [h.one.le.le _ hx] at h1; cases h1
    · have := h.now
      rw [List.take_of_length_le (by omega)] at this
      exact this y hy hv
  · exact h.one.dn i' (by omega) hx y hy hv
theorem K2.skip {e : List (List Int)} {roots : List Int} {k0 : List Bool} {i j : Nat} {kept : List Bool} (h : K2 e roots k0 i j kept) (hj : j < (nth e i).length) (hn : ¬ Valid e (nth (nth e i) j)) : K2 e roots k0 i (j + 1) kept :=
  ⟨h.one, fun y hy hv => (take_cases hj hy).elim (fun h1 => h.now y h1 hv) fun h1 => absurd (h1 ▸ hv) hn⟩
theorem K2.add {e : List (List Int)} {roots : List Int} {k0 : List Bool} {i j : Nat} {kept : List Bool} (h : K2 e roots k0 i j kept) (hi : i < e.length) (hj : j < (nth e i).length) (hc : nth kept i = true) (hy : Valid e (nth (nth e i) j)) : K2 e roots k0 i (j + 1) (kept.set (nth (nth e i) j).toNat true) := by
  have hyl : (nth (nth e i) j).toNat < kept.length := by have := hy.1; have := hy.2; rw [h.one.len]; omega
  have up : ∀ y, Valid e y → Mk' kept y → Mk' (kept.set (nth (nth e i) j).toNat true) y := fun y hv hm => (mk_set hy.1 hyl hv.1).2 (.inr hm)
  refine ⟨⟨h.one.le.set hyl, by rw [List.length_set]; exact h.one.len, fun x hx hm => ?_, fun i' h1 h2 y h3 hv => up y hv (h.one.dn i' h1 h2 y h3 hv)⟩, fun y h1 hv => ?_⟩
  · rcases (mk_set hy.1 hyl hx.1).1 hm with h1 | h1
    · subst h1
      have hvi : Valid e ((i : Nat) : Int) := ⟨by omega, by omega⟩
      exact .step (h.one.snd _ hvi hc) (nthI_mem hj) hy
    · exact h.one.snd x hx h1
  · rcases take_cases hj h1 with h3 | h3
    · exact up y hv (h.now y h3 hv)
    · exact (mk_set hy.1 hyl hv.1).2 (.inl h3)
theorem RK.next {e : List (List Int)} {roots : List Int} {r i : Nat} {k0 kept : List Bool} (h : RK e roots r k0) (k : K1 e roots k0 i kept) (hi : ¬ i < e.length) : RK e roots (r + 1) kept := by
  refine ⟨k.len, k.snd, fun x hx hv => k.le.le _ (h.rt x hx hv), ?_⟩
  rcases h.cl with h1 | h1
  · exact .inl fun x hx => k.le.le _ (h1 x hx)
  · rcases k.le.cnt with h2 | h2
    · exact .inr (by omega)
    · subst h2
      exact .inl fun x hx => hx.closed (S := fun z => Mk' k0 z) h.rt fun x hv hm y hy hvy => k.dn x.toNat (by have := hv.1; have := hv.2; omega) hm y hy hvy
theorem RK.fin {e : List (List Int)} {roots : List Int} {r : Nat} {kept : List Bool} (h : RK e roots r kept) (hr : ¬ r < e.length) : kept = keptL e roots := keptL_of h.len h.snd (by
  rcases h.cl with h1 | h1
  · exact h1
  · have := cnt_le kept; rw [h.len] at this; omega)
set_option maxRecDepth 100000 in
set_option maxHeartbeats 4000000 in
theorem rkept_ok {H0 : AHeap} (e : List (List Int)) (vE : Value) (hE : Sl2Z intv (Rd H0) vE e) (hr : Sized e) (l : List Int) (vL : Value) (hL : Sl intv H0 vL l) (hl : l.length ≤ 1000000) : ACalls Try.prog 13 [vE, vL] H0 (Fresh boolv (keptL e l) H0) := by
  have hF : Wd Fence.wide := .inl rfl
  have hM : Try.prog.follows .mixedOrders = true := by kernel_rfl
  have hel := hr.1
  have s0 := St.begin H0
  refine acalls_st Try.func13 rfl Try.ntmps13 rfl ?_
  refine awp_seq ?_
  refine awp_regs hF ?_
  refine dv (gyes_none rfl) (q_as (v := .slice none 0 0) rfl) rfl (by decide) (cok1 (cconst rfl)) ?_
  refine ⟨_, Wk.refl _ _, ?_⟩
  show awp _ _ _ _ _ _ _
  refine awp_seq ?_
  refine awp_regs hF ?_
  refine dv (gyes_none rfl) (q_mv (v := vE) rfl) rfl (by decide) (cok1 trivial) ?_
  refine dv (gyes_none rfl) (q_len_sl2 s0 Try.underlying22 hE rfl) rfl (by decide) (cok1 trivial) ?_
  refine x_new (fun b => .slice (some ⟨b, 0, none⟩) e.length e.length) s0 (gyes_none rfl) (q_makeSlice1 (len := e.length) (m := e.length) rfl Try.underlying32 Try.typeInfo4 rfl Try.zeroValue4 rfl rfl rfl rfl (by omega) (by omega) (by show 1 * _ ≤ _; omega) (vs := (List.replicate e.length false).map boolv) (by simp [boolv])) rfl (by decide) (cok2 trivial trivial) (fun b1 H2 hb4 s3 => ?_)
  refine dv (gyes_none rfl) (q_as (v := .slice (some ⟨b1, 0, none⟩) e.length e.length) rfl) rfl (by decide) (cok1 trivial) ?_
  refine ⟨_, Wk.refl _ _, ?_⟩
  show awp _ _ _ _ _ _ _
  refine awp_seq ?_
  refine awp_seq ?_
  refine awp_regs hF ?_
  refine dv (gyes_none rfl) (q_as (v := .int .i64 0) rfl) rfl (by decide) (cok1 (cconst rfl)) ?_
  refine ⟨_, Wk.refl _ _, ?_⟩
  show awp _ _ _ _ _ _ _
  refine awp_block ?_
  refine awp_wk (Wk.U [(0, vE), (1, vL), (5, .slice (some ⟨b1, 0, none⟩) e.length e.length), (6, .int .i64 0)] ⟨rfl, rfl, rfl, rfl, trivial⟩) ?_
  refine awp_loop (fun ((i, kept) : Nat × (List Bool)) st => ∃ (H5 : AHeap) (bk : Nat), st = ⟨96, U [(0, vE), (1, vL), (5, .slice (some ⟨bk, 0, none⟩) e.length e.length), (6, .int .i64 ((i : Nat) : Int))], [], H5⟩ ∧ St H0 (none0) (Rd H0) H5 [(bk, .cells true (kept.map boolv) 1)] ∧ (P1 e l i kept)) (fun ((i, kept) : Nat × (List Bool)) => l.length - i) (x0 := (0, (List.replicate e.length false))) ?h0 ?round
  case h0 =>
    exact ⟨_, _, rfl, s3, P1.start e l⟩
  case round =>
    rintro ⟨i, kept⟩ _ ⟨H5, bk, rfl, s6, hp⟩
    dsimp only at *
    refine awp_seq ?_
    refine awp_seq ?_
    refine awp_regs hF ?_
    refine dv (gyes_none rfl) (q_mv (v := .int .i64 ((i : Nat) : Int)) rfl) rfl (by decide) (cok1 trivial) ?_
    refine dv (gyes_none rfl) (q_mv (v := vL) rfl) rfl (by decide) (cok1 trivial) ?_
    refine dv (gyes_none rfl) (q_len_sl (l := l) Try.underlying23 (s6.sl hL) rfl) rfl (by decide) (cok1 trivial) ?_
    refine dvb (gyes_none rfl) (q_int rfl rfl rfl) rfl (by decide) (cok2 trivial trivial) (fun c1 => ?_) (fun c1 => ?_)
    ·
      replace c1 := of_decide_eq_true c1
      have hkl := hp.len
      refine ⟨_, Wk.refl _ _, ?_⟩
      show awp _ _ _ _ _ _ _
      refine awp_cond_t rfl ?_
      refine awp_skip_wk ?_
      refine ⟨_, Wk.refl _ _, ?_⟩
      show awp _ _ _ _ _ _ _
      refine awp_seq ?_
      refine awp_block ?_
      refine awp_seq ?_
      refine awp_regs hF ?_
      refine dv (gyes_none rfl) (q_mv (v := vL) rfl) rfl (by decide) (cok1 trivial) ?_
      refine dv (gyes_none rfl) (q_mv (v := .int .i64 ((i : Nat) : Int)) rfl) rfl (by decide) (cok1 trivial) ?_
      refine dv (gyes_none rfl) (q_index_sl (l := l) (i := i) Try.underlying23 Try.sizeOf3 (s6.sl hL) rfl rfl (by omega)) rfl (by decide) (cok2 trivial trivial) ?_
      refine dv (gyes_none rfl) (q_load_sl (l := l) (i := i) Try.isAgg3 (s6.sl hL) rfl (by omega)) rfl (by decide) (cok1 trivial) ?_
      refine dvb (gyes_none rfl) (q_int rfl rfl rfl) rfl (by decide) (cok2 trivial (cconst rfl)) (fun c2 => ?_) (fun c2 => ?_)
      ·
        replace c2 := of_decide_eq_true c2
        refine dv (gyes_none rfl) (q_mv (v := .bool true) rfl) rfl (by decide) (cok1 trivial) ?_
        refine dv (gyes_some rfl rfl) (q_mv (v := vL) rfl) rfl (by decide) (cok1 trivial) ?_
        refine dv (gyes_some rfl rfl) (q_mv (v := .int .i64 ((i : Nat) : Int)) rfl) rfl (by decide) (cok1 trivial) ?_
        refine dv (gyes_some rfl rfl) (q_index_sl (l := l) (i := i) Try.underlying23 Try.sizeOf3 (s6.sl hL) rfl rfl (by omega)) rfl (by decide) (cok2 trivial trivial) ?_
        refine dv (gyes_some rfl rfl) (q_load_sl (l := l) (i := i) Try.isAgg3 (s6.sl hL) rfl (by omega)) rfl (by decide) (cok1 trivial) ?_
        refine dv (gyes_some rfl rfl) (q_mv (v := vE) rfl) rfl (by decide) (cok1 trivial) ?_
        refine dv (gyes_some rfl rfl) (q_len_sl2 s6 Try.underlying22 hE rfl) rfl (by decide) (cok1 trivial) ?_
        refine dvb (gyes_some rfl rfl) (q_int rfl rfl rfl) rfl (by decide) (cok2 trivial trivial) (fun c3 => ?_) (fun c3 => ?_)
        ·
          replace c3 := of_decide_eq_true c3
          have hva : Valid e (nth l i) := ⟨by omega, by omega⟩
          refine dv (gyes_none rfl) (q_pt (v := .bool true) rfl rfl) rfl (by decide) (call_ok rfl) ?_
          refine ⟨_, Wk.refl _ _, ?_⟩
          show awp _ _ _ _ _ _ _
          refine awp_cond_t rfl ?_
          refine awp_regs hF ?_
          refine dv (gyes_none rfl) (q_mv (v := .slice (some ⟨bk, 0, none⟩) e.length e.length) rfl) rfl (by decide) (cok1 trivial) ?_
          refine dv (gyes_none rfl) (q_mv (v := vL) rfl) rfl (by decide) (cok1 trivial) ?_
          refine dv (gyes_none rfl) (q_mv (v := .int .i64 ((i : Nat) : Int)) rfl) rfl (by decide) (cok1 trivial) ?_
          refine dv (gyes_none rfl) (q_index_sl (l := l) (i := i) Try.underlying23 Try.sizeOf3 (s6.sl hL) rfl rfl (by omega)) rfl (by decide) (cok2 trivial trivial) ?_
          refine dv (gyes_none rfl) (q_load_sl (l := l) (i := i) Try.isAgg3 (s6.sl hL) rfl (by omega)) rfl (by decide) (cok1 trivial) ?_
          refine dv (gyes_none rfl) (OpQ.cast (v' := .pointer (some ⟨bk, (nth l i).toNat, none⟩)) (q_indexI1 (z := (nth l i)) Try.underlying32 Try.sizeOf4 rfl rfl (by omega) (by omega) (s6.rd (j := 0) rfl)) (by rw [Nat.zero_add])) rfl (by decide) (cok2 trivial trivial) ?_
          refine x_store1 [] hF s6 (by kernel_rfl) (gyes_none rfl) (j := 0) (v := boolv true) rfl Try.sizeOf4 rfl rfl rfl (lc_scalar rfl) (by rw [List.length_map]; omega) trivial (cconst rfl) rfl rfl (F' := [(bk, .cells true ((kept.set ((nth l i).toNat) true).map boolv) 1)]) (by simp only [set_map1]; rfl) (fun H7 s8 => ⟨?_, ?_⟩)
          · exact trivial
          refine ⟨_, Wk.refl _ _, ?_⟩
          show awp _ _ _ _ _ _ _
          refine awp_regs hF ?_
          refine dv (gyes_none rfl) (q_mv (v := .int .i64 ((i : Nat) : Int)) rfl) rfl (by decide) (cok1 trivial) ?_
          refine dv (gyes_none rfl) (OpQ.cast (v' := .int .i64 ((i + 1 : Nat) : Int)) (q_int rfl rfl rfl) (congrArg _ ((i64_in (by omega)).trans (by first | rfl | omega | (push_cast; rfl))))) rfl (by decide) (cok2 trivial (cconst rfl)) ?_
          refine dv (gyes_none rfl) (q_as (v := .int .i64 ((i + 1 : Nat) : Int)) rfl) rfl (by decide) (cok1 trivial) ?_
          refine ⟨_, Wk.U [(0, vE), (1, vL), (5, .slice (some ⟨bk, 0, none⟩) e.length e.length), (6, .int .i64 (((i + 1) : Nat) : Int))] ⟨rfl, rfl, rfl, rfl, trivial⟩, ((i + 1), (kept.set (nth l i).toNat true)), ⟨_, _, rfl, s8, hp.add (by omega) hva⟩, (by omega)⟩
        ·
          replace c3 := of_decide_eq_false c3
          refine dv (gyes_none rfl) (q_pt (v := .bool false) rfl rfl) rfl (by decide) (call_ok rfl) ?_
          refine ⟨_, Wk.refl _ _, ?_⟩
          show awp _ _ _ _ _ _ _
          refine awp_cond_f rfl ?_
          refine awp_skip_wk ?_
          refine ⟨_, Wk.refl _ _, ?_⟩
          show awp _ _ _ _ _ _ _
          refine awp_regs hF ?_
          refine dv (gyes_none rfl) (q_mv (v := .int .i64 ((i : Nat) : Int)) rfl) rfl (by decide) (cok1 trivial) ?_
          refine dv (gyes_none rfl) (OpQ.cast (v' := .int .i64 ((i + 1 : Nat) : Int)) (q_int rfl rfl rfl) (congrArg _ ((i64_in (by omega)).trans (by first | rfl | omega | (push_cast; rfl))))) rfl (by decide) (cok2 trivial (cconst rfl)) ?_
          refine dv (gyes_none rfl) (q_as (v := .int .i64 ((i + 1 : Nat) : Int)) rfl) rfl (by decide) (cok1 trivial) ?_
          refine ⟨_, Wk.U [(0, vE), (1, vL), (5, .slice (some ⟨bk, 0, none⟩) e.length e.length), (6, .int .i64 (((i + 1) : Nat) : Int))] ⟨rfl, rfl, rfl, rfl, trivial⟩, ((i + 1), kept), ⟨_, _, rfl, s6, hp.skip (by omega) (fun h => by have := h.1; have := h.2; omega)⟩, (by omega)⟩
      ·
        replace c2 := of_decide_eq_false c2
        refine dv (gyes_none rfl) (q_mv (v := .bool false) rfl) rfl (by decide) (cok1 trivial) ?_
        refine dno rfl (.inl rfl) rfl (by decide) ?_
        refine dno rfl (.inl rfl) rfl (by decide) ?_
        refine dno rfl (.inl rfl) rfl (by decide) ?_
        refine dno rfl (.inl rfl) rfl (by decide) ?_
        refine dno rfl (.inl rfl) rfl (by decide) ?_
        refine dno rfl (.inl rfl) rfl (by decide) ?_
        refine dno rfl (.inl rfl) rfl (by decide) ?_
        refine dv (gyes_none rfl) (q_pf (v := .bool false) rfl rfl) rfl (by decide) (call_ok rfl) ?_
        refine ⟨_, Wk.refl _ _, ?_⟩
        show awp _ _ _ _ _ _ _
        refine awp_cond_f rfl ?_
        refine awp_skip_wk ?_
        refine ⟨_, Wk.refl _ _, ?_⟩
        show awp _ _ _ _ _ _ _
        refine awp_regs hF ?_
        refine dv (gyes_none rfl) (q_mv (v := .int .i64 ((i : Nat) : Int)) rfl) rfl (by decide) (cok1 trivial) ?_
        refine dv (gyes_none rfl) (OpQ.cast (v' := .int .i64 ((i + 1 : Nat) : Int)) (q_int rfl rfl rfl) (congrArg _ ((i64_in (by omega)).trans (by first | rfl | omega | (push_cast; rfl))))) rfl (by decide) (cok2 trivial (cconst rfl)) ?_
        refine dv (gyes_none rfl) (q_as (v := .int .i64 ((i + 1 : Nat) : Int)) rfl) rfl (by decide) (cok1 trivial) ?_
        refine ⟨_, Wk.U [(0, vE), (1, vL), (5, .slice (some ⟨bk, 0, none⟩) e.length e.length), (6, .int .i64 (((i + 1) : Nat) : Int))] ⟨rfl, rfl, rfl, rfl, trivial⟩, ((i + 1), kept), ⟨_, _, rfl, s6, hp.skip (by omega) (fun h => by have := h.1; have := h.2; omega)⟩, (by omega)⟩
    ·
      replace c1 := of_decide_eq_false c1
      refine ⟨_, Wk.refl _ _, ?_⟩
      show awp _ _ _ _ _ _ _
      refine awp_cond_f rfl ?_
      refine awp_exit_wk ?_
      refine ⟨_, Wk.refl _ _, ?_⟩
      show awp _ _ _ _ _ _ _
      refine awp_seq ?_
      refine awp_seq ?_
      refine awp_regs hF ?_
      refine dv (gyes_none rfl) (q_as (v := .int .i64 0) rfl) rfl (by decide) (cok1 (cconst rfl)) ?_
      refine ⟨_, Wk.refl _ _, ?_⟩
      show awp _ _ _ _ _ _ _
      refine awp_block ?_
      refine awp_wk (Wk.U [(0, vE), (5, .slice (some ⟨bk, 0, none⟩) e.length e.length), (7, .int .i64 0)] ⟨rfl, rfl, rfl, trivial⟩) ?_
      refine awp_loop (fun ((r, k1) : Nat × (List Bool)) st => ∃ (H9 : AHeap) (bk : Nat), st = ⟨96, U [(0, vE), (5, .slice (some ⟨bk, 0, none⟩) e.length e.length), (7, .int .i64 ((r : Nat) : Int))], [], H9⟩ ∧ St H0 (none0) (Rd H0) H9 [(bk, .cells true (k1.map boolv) 1)] ∧ (RK e l r k1)) (fun ((r, k1) : Nat × (List Bool)) => e.length - r) (x0 := (0, kept)) ?h0 ?round
      case h0 =>
        exact ⟨_, _, rfl, s6, hp.fin (by omega)⟩
      case round =>
        rintro ⟨r, k1⟩ _ ⟨H9, bk, rfl, s10, hk1⟩
        dsimp only at *
        refine awp_seq ?_
        refine awp_seq ?_
        refine awp_regs hF ?_
        refine dv (gyes_none rfl) (q_mv (v := .int .i64 ((r : Nat) : Int)) rfl) rfl (by decide) (cok1 trivial) ?_
        refine dv (gyes_none rfl) (q_mv (v := vE) rfl) rfl (by decide) (cok1 trivial) ?_
        refine dv (gyes_none rfl) (q_len_sl2 s10 Try.underlying22 hE rfl) rfl (by decide) (cok1 trivial) ?_
        refine dvb (gyes_none rfl) (q_int rfl rfl rfl) rfl (by decide) (cok2 trivial trivial) (fun c4 => ?_) (fun c4 => ?_)
        ·
          replace c4 := of_decide_eq_true c4
          refine ⟨_, Wk.refl _ _, ?_⟩
          show awp _ _ _ _ _ _ _
          refine awp_cond_t rfl ?_
          refine awp_skip_wk ?_
          refine ⟨_, Wk.refl _ _, ?_⟩
          show awp _ _ _ _ _ _ _
          refine awp_seq ?_
          refine awp_block ?_
          refine awp_seq ?_
          refine awp_regs hF ?_
          refine dv (gyes_none rfl) (q_as (v := .int .i64 0) rfl) rfl (by decide) (cok1 (cconst rfl)) ?_
          refine ⟨_, Wk.refl _ _, ?_⟩
          show awp _ _ _ _ _ _ _
          refine awp_block ?_
          refine awp_wk (Wk.U [(0, vE), (5, .slice (some ⟨bk, 0, none⟩) e.length e.length), (7, .int .i64 ((r : Nat) : Int)), (8, .int .i64 0)] ⟨rfl, rfl, rfl, rfl, trivial⟩) ?_
          refine awp_loop (fun ((i, k2) : Nat × (List Bool)) st => ∃ (H11 : AHeap) (bk : Nat), st = ⟨96, U [(0, vE), (5, .slice (some ⟨bk, 0, none⟩) e.length e.length), (7, .int .i64 ((r : Nat) : Int)), (8, .int .i64 ((i : Nat) : Int))], [], H11⟩ ∧ St H0 (none0) (Rd H0) H11 [(bk, .cells true (k2.map boolv) 1)] ∧ (K1 e l k1 i k2)) (fun ((i, k2) : Nat × (List Bool)) => e.length - i) (x0 := (0, k1)) ?h0 ?round
          case h0 =>
            exact ⟨_, _, rfl, s10, hk1.begin⟩
          case round =>
            rintro ⟨i, k2⟩ _ ⟨H11, bk, rfl, s12, hk2⟩
            dsimp only at *
            refine awp_seq ?_
            refine awp_seq ?_
            refine awp_regs hF ?_
            refine dv (gyes_none rfl) (q_mv (v := .int .i64 ((i : Nat) : Int)) rfl) rfl (by decide) (cok1 trivial) ?_
            refine dv (gyes_none rfl) (q_mv (v := vE) rfl) rfl (by decide) (cok1 trivial) ?_
            refine dv (gyes_none rfl) (q_len_sl2 s12 Try.underlying22 hE rfl) rfl (by decide) (cok1 trivial) ?_
            refine dvb (gyes_none rfl) (q_int rfl rfl rfl) rfl (by decide) (cok2 trivial trivial) (fun c5 => ?_) (fun c5 => ?_)
            ·
              replace c5 := of_decide_eq_true c5
              have hil : i < e.length := by omega
              have hrl : (nth e i).length ≤ 1000000 := hr.2 _ (nthI_mem hil)
              refine ⟨_, Wk.refl _ _, ?_⟩
              show awp _ _ _ _ _ _ _
              refine awp_cond_t rfl ?_
              refine awp_skip_wk ?_
              refine ⟨_, Wk.refl _ _, ?_⟩
              show awp _ _ _ _ _ _ _
              refine awp_seq ?_
              refine awp_block ?_
              refine awp_seq ?_
              refine awp_regs hF ?_
              refine dv (gyes_none rfl) (q_as (v := .int .i64 0) rfl) rfl (by decide) (cok1 (cconst rfl)) ?_
              refine ⟨_, Wk.refl _ _, ?_⟩
              show awp _ _ _ _ _ _ _
              refine awp_block ?_
              refine awp_wk (Wk.U [(0, vE), (5, .slice (some ⟨bk, 0, none⟩) e.length e.length), (7, .int .i64 ((r : Nat) : Int)), (8, .int .i64 ((i : Nat) : Int)), (9, .int .i64 0)] ⟨rfl, rfl, rfl, rfl, rfl, trivial⟩) ?_
              refine awp_loop (fun ((j, k3) : Nat × (List Bool)) st => ∃ (H13 : AHeap) (bk : Nat), st = ⟨96, U [(0, vE), (5, .slice (some ⟨bk, 0, none⟩) e.length e.length), (7, .int .i64 ((r : Nat) : Int)), (8, .int .i64 ((i : Nat) : Int)), (9, .int .i64 ((j : Nat) : Int))], [], H13⟩ ∧ St H0 (none0) (Rd H0) H13 [(bk, .cells true (k3.map boolv) 1)] ∧ (K2 e l k1 i j k3)) (fun ((j, k3) : Nat × (List Bool)) => (nth e i).length - j) (x0 := (0, k2)) ?h0 ?round
              case h0 =>
                exact ⟨_, _, rfl, s12, hk2.begin⟩
              case round =>
                rintro ⟨j, k3⟩ _ ⟨H13, bk, rfl, s14, hk3⟩
                dsimp only at *
                have hkl := hk3.one.len
                refine awp_seq ?_
                refine awp_seq ?_
                refine awp_regs hF ?_
                refine dv (gyes_none rfl) (q_mv (v := .slice (some ⟨bk, 0, none⟩) e.length e.length) rfl) rfl (by decide) (cok1 trivial) ?_
                refine dv (gyes_none rfl) (q_mv (v := .int .i64 ((i : Nat) : Int)) rfl) rfl (by decide) (cok1 trivial) ?_
                refine dv (gyes_none rfl) (OpQ.cast (v' := .pointer (some ⟨bk, i, none⟩)) (q_index1 (i := i) Try.underlying32 Try.sizeOf4 rfl rfl (by omega) (s14.rd (j := 0) rfl)) (by rw [Nat.zero_add])) rfl (by decide) (cok2 trivial trivial) ?_
                refine dvb (gyes_none rfl) (q_load (v := boolv (nth k3 i)) Try.isAgg4 rfl (s14.rd (j := 0) rfl) (get_nth (w := 0) (by omega))) rfl (by decide) (cok1 trivial) (fun c6 => ?_) (fun c6 => ?_)
                ·
                  refine dv (gyes_none rfl) (q_mv (v := .bool true) rfl) rfl (by decide) (cok1 trivial) ?_
                  refine dv (gyes_some rfl rfl) (q_mv (v := .int .i64 ((j : Nat) : Int)) rfl) rfl (by decide) (cok1 trivial) ?_
                  refine dv (gyes_some rfl rfl) (q_mv (v := vE) rfl) rfl (by decide) (cok1 trivial) ?_
                  refine dv (gyes_some rfl rfl) (q_mv (v := .int .i64 ((i : Nat) : Int)) rfl) rfl (by decide) (cok1 trivial) ?_
                  refine dv (gyes_some rfl rfl) (q_index_sl2 s14 Try.underlying22 Try.sizeOf23 hE rfl rfl (by omega)) rfl (by decide) (cok2 trivial trivial) ?_
                  obtain ⟨u15, hu15, qu15⟩ := Sl2Z.elem hE (i := i) (by omega)
                  refine dv (gyes_some rfl rfl) (qu15 s14 Try.isAgg23 rfl) rfl (by decide) (cok1 trivial) ?_
                  refine dv (gyes_some rfl rfl) (q_len_sl (l := nth e i) Try.underlying23 (s14.sl hu15) rfl) rfl (by decide) (cok1 trivial) ?_
                  refine dvb (gyes_some rfl rfl) (q_int rfl rfl rfl) rfl (by decide) (cok2 trivial trivial) (fun c7 => ?_) (fun c7 => ?_)
                  ·
                    replace c7 := of_decide_eq_true c7
                    refine dv (gyes_none rfl) (q_pt (v := .bool true) rfl rfl) rfl (by decide) (call_ok rfl) ?_
                    refine ⟨_, Wk.refl _ _, ?_⟩
                    show awp _ _ _ _ _ _ _
                    refine awp_cond_t rfl ?_
                    refine awp_skip_wk ?_
                    refine ⟨_, Wk.refl _ _, ?_⟩
                    show awp _ _ _ _ _ _ _
                    refine awp_seq ?_
                    refine awp_block ?_
                    refine awp_seq ?_
                    refine awp_regs hF ?_
                    refine dv (gyes_none rfl) (q_mv (v := vE) rfl) rfl (by decide) (cok1 trivial) ?_
                    refine dv (gyes_none rfl) (q_mv (v := .int .i64 ((i : Nat) : Int)) rfl) rfl (by decide) (cok1 trivial) ?_
                    refine dv (gyes_none rfl) (q_index_sl2 s14 Try.underlying22 Try.sizeOf23 hE rfl rfl (by omega)) rfl (by decide) (cok2 trivial trivial) ?_
                    obtain ⟨u16, hu16, qu16⟩ := Sl2Z.elem hE (i := i) (by omega)
                    refine dv (gyes_none rfl) (qu16 s14 Try.isAgg23 rfl) rfl (by decide) (cok1 trivial) ?_
                    refine dv (gyes_none rfl) (q_mv (v := .int .i64 ((j : Nat) : Int)) rfl) rfl (by decide) (cok1 trivial) ?_
                    refine dv (gyes_none rfl) (q_index_sl (l := nth e i) (i := j) Try.underlying23 Try.sizeOf3 (s14.sl hu16) rfl rfl (by omega)) rfl (by decide) (cok2 trivial trivial) ?_
                    refine dv (gyes_none rfl) (q_load_sl (l := nth e i) (i := j) Try.isAgg3 (s14.sl hu16) rfl (by omega)) rfl (by decide) (cok1 trivial) ?_
                    refine dvb (gyes_none rfl) (q_int rfl rfl rfl) rfl (by decide) (cok2 trivial (cconst rfl)) (fun c8 => ?_) (fun c8 => ?_)
                    ·
                      replace c8 := of_decide_eq_true c8
                      refine dv (gyes_none rfl) (q_mv (v := .bool true) rfl) rfl (by decide) (cok1 trivial) ?_
                      refine dv (gyes_some rfl rfl) (q_mv (v := vE) rfl) rfl (by decide) (cok1 trivial) ?_
                      refine dv (gyes_some rfl rfl) (q_mv (v := .int .i64 ((i : Nat) : Int)) rfl) rfl (by decide) (cok1 trivial) ?_
                      refine dv (gyes_some rfl rfl) (q_index_sl2 s14 Try.underlying22 Try.sizeOf23 hE rfl rfl (by omega)) rfl (by decide) (cok2 trivial trivial) ?_
                      obtain ⟨u17, hu17, qu17⟩ := Sl2Z.elem hE (i := i) (by omega)
                      refine dv (gyes_some rfl rfl) (qu17 s14 Try.isAgg23 rfl) rfl (by decide) (cok1 trivial) ?_
                      refine dv (gyes_some rfl rfl) (q_mv (v := .int .i64 ((j : Nat) : Int)) rfl) rfl (by decide) (cok1 trivial) ?_
                      refine dv (gyes_some rfl rfl) (q_index_sl (l := nth e i) (i := j) Try.underlying23 Try.sizeOf3 (s14.sl hu17) rfl rfl (by omega)) rfl (by decide) (cok2 trivial trivial) ?_
                      refine dv (gyes_some rfl rfl) (q_load_sl (l := nth e i) (i := j) Try.isAgg3 (s14.sl hu17) rfl (by omega)) rfl (by decide) (cok1 trivial) ?_
                      refine dv (gyes_some rfl rfl) (q_mv (v := vE) rfl) rfl (by decide) (cok1 trivial) ?_
                      refine dv (gyes_some rfl rfl) (q_len_sl2 s14 Try.underlying22 hE rfl) rfl (by decide) (cok1 trivial) ?_
                      refine dvb (gyes_some rfl rfl) (q_int rfl rfl rfl) rfl (by decide) (cok2 trivial trivial) (fun c9 => ?_) (fun c9 => ?_)
                      ·
                        replace c9 := of_decide_eq_true c9
                        have hva : Valid e (nth (nth e i) j) := ⟨by omega, by omega⟩
                        refine dv (gyes_none rfl) (q_pt (v := .bool true) rfl rfl) rfl (by decide) (call_ok rfl) ?_
                        refine ⟨_, Wk.refl _ _, ?_⟩
                        show awp _ _ _ _ _ _ _
                        refine awp_cond_t rfl ?_
                        refine awp_regs hF ?_
                        refine dv (gyes_none rfl) (q_mv (v := .slice (some ⟨bk, 0, none⟩) e.length e.length) rfl) rfl (by decide) (cok1 trivial) ?_
                        refine dv (gyes_none rfl) (q_mv (v := vE) rfl) rfl (by decide) (cok1 trivial) ?_
                        refine dv (gyes_none rfl) (q_mv (v := .int .i64 ((i : Nat) : Int)) rfl) rfl (by decide) (cok1 trivial) ?_
                        refine dv (gyes_none rfl) (q_index_sl2 s14 Try.underlying22 Try.sizeOf23 hE rfl rfl (by omega)) rfl (by decide) (cok2 trivial trivial) ?_
                        obtain ⟨u18, hu18, qu18⟩ := Sl2Z.elem hE (i := i) (by omega)
                        refine dv (gyes_none rfl) (qu18 s14 Try.isAgg23 rfl) rfl (by decide) (cok1 trivial) ?_
                        refine dv (gyes_none rfl) (q_mv (v := .int .i64 ((j : Nat) : Int)) rfl) rfl (by decide) (cok1 trivial) ?_
                        refine dv (gyes_none rfl) (q_index_sl (l := nth e i) (i := j) Try.underlying23 Try.sizeOf3 (s14.sl hu18) rfl rfl (by omega)) rfl (by decide) (cok2 trivial trivial) ?_
                        refine dv (gyes_none rfl) (q_load_sl (l := nth e i) (i := j) Try.isAgg3 (s14.sl hu18) rfl (by omega)) rfl (by decide) (cok1 trivial) ?_
                        refine dv (gyes_none rfl) (OpQ.cast (v' := .pointer (some ⟨bk, (nth (nth e i) j).toNat, none⟩)) (q_indexI1 (z := (nth (nth e i) j)) Try.underlying32 Try.sizeOf4 rfl rfl (by omega) (by omega) (s14.rd (j := 0) rfl)) (by rw [Nat.zero_add])) rfl (by decide) (cok2 trivial trivial) ?_
                        refine x_store1 [] hF s14 (by kernel_rfl) (gyes_none rfl) (j := 0) (v := boolv true) rfl Try.sizeOf4 rfl rfl rfl (lc_scalar rfl) (by rw [List.length_map]; omega) trivial (cconst rfl) rfl rfl (F' := [(bk, .cells true ((k3.set ((nth (nth e i) j).toNat) true).map boolv) 1)]) (by simp only [set_map1]; rfl) (fun H19 s20 => ⟨?_, ?_⟩)
                        · exact trivial
                        refine ⟨_, Wk.refl _ _, ?_⟩
                        show awp _ _ _ _ _ _ _
                        refine awp_regs hF ?_
                        refine dv (gyes_none rfl) (q_mv (v := .int .i64 ((j : Nat) : Int)) rfl) rfl (by decide) (cok1 trivial) ?_
                        refine dv (gyes_none rfl) (OpQ.cast (v' := .int .i64 ((j + 1 : Nat) : Int)) (q_int rfl rfl rfl) (congrArg _ ((i64_in (by omega)).trans (by first | rfl | omega | (push_cast; rfl))))) rfl (by decide) (cok2 trivial (cconst rfl)) ?_
                        refine dv (gyes_none rfl) (q_as (v := .int .i64 ((j + 1 : Nat) : Int)) rfl) rfl (by decide) (cok1 trivial) ?_
                        refine ⟨_, Wk.U [(0, vE), (5, .slice (some ⟨bk, 0, none⟩) e.length e.length), (7, .int .i64 ((r : Nat) : Int)), (8, .int .i64 ((i : Nat) : Int)), (9, .int .i64 (((j + 1) : Nat) : Int))] ⟨rfl, rfl, rfl, rfl, rfl, trivial⟩, ((j + 1), (k3.set (nth (nth e i) j).toNat true)), ⟨_, _, rfl, s20, hk3.add hil (by omega) (by assumption) hva⟩, (by omega)⟩
                      ·
                        replace c9 := of_decide_eq_false c9
                        refine dv (gyes_none rfl) (q_pt (v := .bool false) rfl rfl) rfl (by decide) (call_ok rfl) ?_
                        refine ⟨_, Wk.refl _ _, ?_⟩
                        show awp _ _ _ _ _ _ _
                        refine awp_cond_f rfl ?_
                        refine awp_skip_wk ?_
                        refine ⟨_, Wk.refl _ _, ?_⟩
                        show awp _ _ _ _ _ _ _
                        refine awp_regs hF ?_
                        refine dv (gyes_none rfl) (q_mv (v := .int .i64 ((j : Nat) : Int)) rfl) rfl (by decide) (cok1 trivial) ?_
                        refine dv (gyes_none rfl) (OpQ.cast (v' := .int .i64 ((j + 1 : Nat) : Int)) (q_int rfl rfl rfl) (congrArg _ ((i64_in (by omega)).trans (by first | rfl | omega | (push_cast; rfl))))) rfl (by decide) (cok2 trivial (cconst rfl)) ?_
                        refine dv (gyes_none rfl) (q_as (v := .int .i64 ((j + 1 : Nat) : Int)) rfl) rfl (by decide) (cok1 trivial) ?_
                        refine ⟨_, Wk.U [(0, vE), (5, .slice (some ⟨bk, 0, none⟩) e.length e.length), (7, .int .i64 ((r : Nat) : Int)), (8, .int .i64 ((i : Nat) : Int)), (9, .int .i64 (((j + 1) : Nat) : Int))] ⟨rfl, rfl, rfl, rfl, rfl, trivial⟩, ((j + 1), k3), ⟨_, _, rfl, s14, hk3.skip (by omega) (fun h => by have := h.1; have := h.2; omega)⟩, (by omega)⟩
                    ·
                      replace c8 := of_decide_eq_false c8
                      refine dv (gyes_none rfl) (q_mv (v := .bool false) rfl) rfl (by decide) (cok1 trivial) ?_
                      refine dno rfl (.inl rfl) rfl (by decide) ?_
                      refine dno rfl (.inl rfl) rfl (by decide) ?_
                      refine dno rfl (.inl rfl) rfl (by decide) ?_
                      refine dno rfl (.inl rfl) rfl (by decide) ?_
                      refine dno rfl (.inl rfl) rfl (by decide) ?_
                      refine dno rfl (.inl rfl) rfl (by decide) ?_
                      refine dno rfl (.inl rfl) rfl (by decide) ?_
                      refine dno rfl (.inl rfl) rfl (by decide) ?_
                      refine dno rfl (.inl rfl) rfl (by decide) ?_
                      refine dno rfl (.inl rfl) rfl (by decide) ?_
                      refine dv (gyes_none rfl) (q_pf (v := .bool false) rfl rfl) rfl (by decide) (call_ok rfl) ?_
                      refine ⟨_, Wk.refl _ _, ?_⟩
                      show awp _ _ _ _ _ _ _
                      refine awp_cond_f rfl ?_
                      refine awp_skip_wk ?_
                      refine ⟨_, Wk.refl _ _, ?_⟩
                      show awp _ _ _ _ _ _ _
                      refine awp_regs hF ?_
                      refine dv (gyes_none rfl) (q_mv (v := .int .i64 ((j : Nat) : Int)) rfl) rfl (by decide) (cok1 trivial) ?_
                      refine dv (gyes_none rfl) (OpQ.cast (v' := .int .i64 ((j + 1 : Nat) : Int)) (q_int rfl rfl rfl) (congrArg _ ((i64_in (by omega)).trans (by first | rfl | omega | (push_cast; rfl))))) rfl (by decide) (cok2 trivial (cconst rfl)) ?_
                      refine dv (gyes_none rfl) (q_as (v := .int .i64 ((j + 1 : Nat) : Int)) rfl) rfl (by decide) (cok1 trivial) ?_
                      refine ⟨_, Wk.U [(0, vE), (5, .slice (some ⟨bk, 0, none⟩) e.length e.length), (7, .int .i64 ((r : Nat) : Int)), (8, .int .i64 ((i : Nat) : Int)), (9, .int .i64 (((j + 1) : Nat) : Int))] ⟨rfl, rfl, rfl, rfl, rfl, trivial⟩, ((j + 1), k3), ⟨_, _, rfl, s14, hk3.skip (by omega) (fun h => by have := h.1; have := h.2; omega)⟩, (by omega)⟩
                  ·
                    replace c7 := of_decide_eq_false c7
                    refine dv (gyes_none rfl) (q_pt (v := .bool false) rfl rfl) rfl (by decide) (call_ok rfl) ?_
                    refine ⟨_, Wk.refl _ _, ?_⟩
                    show awp _ _ _ _ _ _ _
                    refine awp_cond_f rfl ?_
                    refine awp_exit_wk ?_
                    refine ⟨_, Wk.refl _ _, ?_⟩
                    show awp _ _ _ _ _ _ _
                    refine awp_regs hF ?_
                    refine dv (gyes_none rfl) (q_mv (v := .int .i64 ((i : Nat) : Int)) rfl) rfl (by decide) (cok1 trivial) ?_
                    refine dv (gyes_none rfl) (OpQ.cast (v' := .int .i64 ((i + 1 : Nat) : Int)) (q_int rfl rfl rfl) (congrArg _ ((i64_in (by omega)).trans (by first | rfl | omega | (push_cast; rfl))))) rfl (by decide) (cok2 trivial (cconst rfl)) ?_
                    refine dv (gyes_none rfl) (q_as (v := .int .i64 ((i + 1 : Nat) : Int)) rfl) rfl (by decide) (cok1 trivial) ?_
                    have hfin : K1 e l k1 (i + 1) k3 := hk3.fin (by first | exact .inl (by assumption) | exact .inr (by omega))
                    refine ⟨_, Wk.U [(0, vE), (5, .slice (some ⟨bk, 0, none⟩) e.length e.length), (7, .int .i64 ((r : Nat) : Int)), (8, .int .i64 (((i + 1) : Nat) : Int))] ⟨rfl, rfl, rfl, rfl, trivial⟩, ((i + 1), k3), ⟨_, _, rfl, s14, hfin⟩, (by omega)⟩
                ·
                  refine dv (gyes_none rfl) (q_mv (v := .bool false) rfl) rfl (by decide) (cok1 trivial) ?_
                  refine dno rfl (.inl rfl) rfl (by decide) ?_
                  refine dno rfl (.inl rfl) rfl (by decide) ?_
                  refine dno rfl (.inl rfl) rfl (by decide) ?_
                  refine dno rfl (.inl rfl) rfl (by decide) ?_
                  refine dno rfl (.inl rfl) rfl (by decide) ?_
                  refine dno rfl (.inl rfl) rfl (by decide) ?_
                  refine dno rfl (.inl rfl) rfl (by decide) ?_
                  refine dv (gyes_none rfl) (q_pf (v := .bool false) rfl rfl) rfl (by decide) (call_ok rfl) ?_
                  refine ⟨_, Wk.refl _ _, ?_⟩
                  show awp _ _ _ _ _ _ _
                  refine awp_cond_f rfl ?_
                  refine awp_exit_wk ?_
                  refine ⟨_, Wk.refl _ _, ?_⟩
                  show awp _ _ _ _ _ _ _
                  refine awp_regs hF ?_
                  refine dv (gyes_none rfl) (q_mv (v := .int .i64 ((i : Nat) : Int)) rfl) rfl (by decide) (cok1 trivial) ?_
                  refine dv (gyes_none rfl) (OpQ.cast (v' := .int .i64 ((i + 1 : Nat) : Int)) (q_int rfl rfl rfl) (congrArg _ ((i64_in (by omega)).trans (by first | rfl | omega | (push_cast; rfl))))) rfl (by decide) (cok2 trivial (cconst rfl)) ?_
                  refine dv (gyes_none rfl) (q_as (v := .int .i64 ((i + 1 : Nat) : Int)) rfl) rfl (by decide) (cok1 trivial) ?_
                  have hfin : K1 e l k1 (i + 1) k3 := hk3.fin (by first | exact .inl (by assumption) | exact .inr (by omega))
                  refine ⟨_, Wk.U [(0, vE), (5, .slice (some ⟨bk, 0, none⟩) e.length e.length), (7, .int .i64 ((r : Nat) : Int)), (8, .int .i64 (((i + 1) : Nat) : Int))] ⟨rfl, rfl, rfl, rfl, trivial⟩, ((i + 1), k3), ⟨_, _, rfl, s14, hfin⟩, (by omega)⟩
            ·
              replace c5 := of_decide_eq_false c5
              refine ⟨_, Wk.refl _ _, ?_⟩
              show awp _ _ _ _ _ _ _
              refine awp_cond_f rfl ?_
              refine awp_exit_wk ?_
              refine ⟨_, Wk.refl _ _, ?_⟩
              show awp _ _ _ _ _ _ _
              refine awp_regs hF ?_
              refine dv (gyes_none rfl) (q_mv (v := .int .i64 ((r : Nat) : Int)) rfl) rfl (by decide) (cok1 trivial) ?_
              refine dv (gyes_none rfl) (OpQ.cast (v' := .int .i64 ((r + 1 : Nat) : Int)) (q_int rfl rfl rfl) (congrArg _ ((i64_in (by omega)).trans (by first | rfl | omega | (push_cast; rfl))))) rfl (by decide) (cok2 trivial (cconst rfl)) ?_
              refine dv (gyes_none rfl) (q_as (v := .int .i64 ((r + 1 : Nat) : Int)) rfl) rfl (by decide) (cok1 trivial) ?_
              refine ⟨_, Wk.U [(0, vE), (5, .slice (some ⟨bk, 0, none⟩) e.length e.length), (7, .int .i64 (((r + 1) : Nat) : Int))] ⟨rfl, rfl, rfl, trivial⟩, ((r + 1), k2), ⟨_, _, rfl, s12, hk1.next hk2 (by omega)⟩, (by omega)⟩
        ·
          replace c4 := of_decide_eq_false c4
          refine ⟨_, Wk.refl _ _, ?_⟩
          show awp _ _ _ _ _ _ _
          refine awp_cond_f rfl ?_
          refine awp_exit_wk ?_
          refine ⟨_, Wk.refl _ _, ?_⟩
          show awp _ _ _ _ _ _ _
          refine awp_seq ?_
          refine awp_regs hF ?_
          refine dv (gyes_none rfl) (q_mv (v := .slice (some ⟨bk, 0, none⟩) e.length e.length) rfl) rfl (by decide) (cok1 trivial) ?_
          refine dv (gyes_none rfl) (q_as (v := .slice (some ⟨bk, 0, none⟩) e.length e.length) rfl) rfl (by decide) (cok1 trivial) ?_
          refine ⟨_, Wk.refl _ _, ?_⟩
          show awp _ _ _ _ _ _ _
          refine awp_ret_wk ?_
          refine ⟨_, Wk.refl _ _, ?_⟩
          repeat (with_reducible first | refine then_ret ?_ | refine blk_ret ?_ | refine then_exit ?_ | refine blk_exit ?_ | refine blk_exit' (by decide) ?_ | refine blk_normal ?_ | refine then_normal ?_ | refine retq_ret ?_ | refine retq_normal ?_ | refine ng_normal ?_ | refine ng_ret ?_ | refine ng_exit ?_)
          refine ret_is (v := .slice (some ⟨bk, 0, none⟩) e.length e.length) rfl (.tmp rfl .nil) rfl ?_
          have hke := hk1.fin (by omega)
          subst hke
          exact fresh_of2 s10 (j := 0) rfl (keptL_len _ _).symm

end Go.Proofs.YtbjlabokijchpaaA
