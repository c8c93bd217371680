/-
  Walks of functions of the given program, and what they compute.
-/
import Derived.Test.YtbjlabokijchpaaO10
import Derived.Test.YtbjlabokijchpaaProg
import Derived.KernelRfl
namespace Go.Proofs.YtbjlabokijchpaaA
set_option linter.unusedVariables false
open Go Go.RowKit Go.Shelf Go.Proofs
inductive KR (e : List (List Int)) (roots : List Int) : Int → Prop
  | root {x : Int} (h : x ∈ roots) (hv : Valid e x) : KR e roots x
  | step {x y : Int} (r : KR e roots x) (h : y ∈ row e x) (hv : Valid e y) : KR e roots y
theorem KR.closed {e : List (List Int)} {roots : List Int} {S : Int → Prop} (h0 : ∀ y ∈ roots, Valid e y → S y) (h1 : ∀ x, Valid e x → S x → ∀ y ∈ row e x, Valid e y → S y) {b : Int} (h : KR e roots b) : S b := by
  have : Valid e b ∧ S b := by
    induction h with
    | root h2 h3 => exact ⟨h3, h0 _ h2 h3⟩
    | step _ h2 h3 ih => exact ⟨h3, h1 _ ih.1 ih.2 _ h2 h3⟩
  exact this.2
theorem KR.valid {e : List (List Int)} {roots : List Int} {b : Int} (h : KR e roots b) : Valid e b := by cases h <;> assumption
noncomputable def kb (e : List (List Int)) (roots : List Int) (i : Int) : Bool := @decide (KR e roots i) (Classical.propDecidable _)
theorem kb_iff {e : List (List Int)} {roots : List Int} {i : Int} : kb e roots i = true ↔ KR e roots i := @decide_eq_true_iff _ (Classical.propDecidable _)
noncomputable def keptL (e : List (List Int)) (roots : List Int) : List Bool := (List.range e.length).map fun i => kb e roots (i : Nat)
theorem keptL_len (e : List (List Int)) (roots : List Int) : (keptL e roots).length = e.length := by simp [keptL]
theorem keptL_nth {e : List (List Int)} {roots : List Int} {x : Int} (hx : Valid e x) : nth (keptL e roots) x.toNat = kb e roots x := by
  have h1 : x.toNat < e.length := by have := hx.1; have := hx.2; omega
  rw [nth_eq (by rw [keptL_len]; exact h1)]
  simp only [keptL, List.getElem_map, List.getElem_range]
  rw [Int.toNat_of_nonneg hx.1]
theorem keptL_of {e : List (List Int)} {roots : List Int} {kept : List Bool} (hl : kept.length = e.length) (h1 : ∀ x, Valid e x → Mk' kept x → KR e roots x) (h2 : ∀ x, KR e roots x → Mk' kept x) : kept = keptL e roots := by
  apply List.ext_getElem (by rw [keptL_len]; exact hl)
  intro i hi hi'
  have hv : Valid e (i : Nat) := ⟨by omega, by rw [keptL_len] at hi'; omega⟩
  have e1 : kept[i] = nth kept ((i : Nat) : Int).toNat := (nth_eq (l := kept) (i := i) hi).symm
  have e2 : (keptL e roots)[i] = nth (keptL e roots) ((i : Nat) : Int).toNat := (nth_eq (l := keptL e roots) (i := i) hi').symm
  rw [e1, e2, keptL_nth hv]
  by_cases h : KR e roots (i : Nat)
  · rw [kb_iff.2 h]; exact h2 _ h
  · have h3 : kb e roots (i : Nat) = false := by
      cases h4 : kb e roots (i : Nat)
      · rfl
      · exact absurd (kb_iff.1 h4) h
    rw [h3]
    cases h4 : nth kept ((i : Nat) : Int).toNat
    · rfl
    · exact absurd (h1 _ hv h4) h
structure KInv (e : List (List Int)) (roots : List Int) (kept : List Bool) (nxt : List Int) : Prop where
  len : kept.length = e.length
  snd : ∀ x, Valid e x → Mk' kept x → KR e roots x
  nx : ∀ x ∈ nxt, Valid e x → KR e roots x
  rt : ∀ x ∈ roots, Valid e x → Mk' kept x ∨ x ∈ nxt
  cl : ∀ x, Valid e x → Mk' kept x → ∀ y ∈ row e x, Valid e y → Mk' kept y ∨ y ∈ nxt
theorem not_mk_rep {n : Nat} {x : Int} : ¬ Mk' (List.replicate n false) x := fun h => by
  unfold Mk' nth at h
  rw [List.getD_eq_getElem?_getD, List.getElem?_replicate] at h
  split at h <;> cases h
theorem KInv.start (e : List (List Int)) (roots : List Int) : KInv e roots (List.replicate e.length false) roots := ⟨by simp, fun x _ h => (not_mk_rep h).elim, fun x hx hv => .root hx hv, fun x hx _ => .inr hx, fun x _ h => (not_mk_rep h).elim⟩
theorem KInv.skip {e : List (List Int)} {roots : List Int} {kept : List Bool} {L : List Int} {o : Nat} (h : KInv e roots kept (L.drop o)) (ho : o < L.length) (hk : ¬ Valid e (nth L o) ∨ nth kept (nth L o).toNat = true) : KInv e roots kept (L.drop (o + 1)) := by
  have h1 : L.drop o = nth L o :: L.drop (o + 1) := by rw [nth_eq ho, List.drop_eq_getElem_cons ho]
  rw [h1] at h
  have key : ∀ x, Valid e x → x ∈ nth L o :: L.drop (o + 1) → Mk' kept x ∨ x ∈ L.drop (o + 1) := fun x hv hx => by
    rcases List.mem_cons.1 hx with rfl | hx
    · exact .inl (hk.resolve_left fun h => h hv)
    · exact .inr hx
  exact ⟨h.len, h.snd, fun x hx => h.nx x (List.mem_cons_of_mem _ hx), fun x hx hv => (h.rt x hx hv).elim .inl (key x hv), fun x hv hm y hy hvy => (h.cl x hv hm y hy hvy).elim .inl (key y hvy)⟩
theorem KInv.mark {e : List (List Int)} {roots : List Int} {kept : List Bool} {L : List Int} {o : Nat} (h : KInv e roots kept (L.drop o)) (ho : o < L.length) (hv : Valid e (nth L o)) : KInv e roots (kept.set (nth L o).toNat true) (L.drop (o + 1) ++ row e (nth L o)) := by
  have h1 : L.drop o = nth L o :: L.drop (o + 1) := by rw [nth_eq ho, List.drop_eq_getElem_cons ho]
  have hl : (nth L o).toNat < kept.length := by have := hv.1; have := hv.2; rw [h.len]; omega
  rw [h1] at h
  have hm : ∀ x, 0 ≤ x → (Mk' (kept.set (nth L o).toNat true) x ↔ x = nth L o ∨ Mk' kept x) := fun x hx => mk_set hv.1 hl hx
  have hkr : KR e roots (nth L o) := h.nx _ List.mem_cons_self hv
  refine ⟨by rw [List.length_set]; exact h.len, fun x hx hm' => ?_, fun x hx hvx => ?_, fun x hx hvx => ?_, fun x hvx hm' y hy hvy => ?_⟩
  · rcases (hm x hx.1).1 hm' with rfl | h3
    · exact hkr
    · exact h.snd x hx h3
  · rcases List.mem_append.1 hx with h3 | h3
    · exact h.nx x (List.mem_cons_of_mem _ h3) hvx
    · exact .step hkr h3 hvx
  · rcases h.rt x hx hvx with h3 | h3
    · exact .inl ((hm x hvx.1).2 (.inr h3))
    · rcases List.mem_cons.1 h3 with h4 | h4
      · exact .inl ((hm x hvx.1).2 (.inl h4))
      · exact .inr (List.mem_append_left _ h4)
  · rcases (hm x hvx.1).1 hm' with rfl | h3
    · exact .inr (List.mem_append_right _ hy)
    · rcases h.cl x hvx h3 y hy hvy with h4 | h4
      · exact .inl ((hm y hvy.1).2 (.inr h4))
      · rcases List.mem_cons.1 h4 with h5 | h5
        · exact .inl ((hm y hvy.1).2 (.inl h5))
        · exact .inr (List.mem_append_left _ h5)
theorem KInv.end_ {e : List (List Int)} {roots : List Int} {kept : List Bool} {nxt : List Int} (h : KInv e roots kept nxt) (hn : nxt = []) : kept = keptL e roots := by
  subst hn
  exact keptL_of h.len h.snd fun x hx => hx.closed (S := fun z => Mk' kept z) (fun y hy hv => (h.rt y hy hv).resolve_right (by simp)) fun x hv hm y hy hvy => (h.cl x hv hm y hy hvy).resolve_right (by simp)
theorem cnt_set : ∀ {l : List Bool} {i : Nat}, i < l.length → nth l i = false → (l.set i true).countP id = l.countP id + 1
  | x :: l, 0, _, h => by
    rw [nth_cons0] at h; subst h
    simp
  | x :: l, i + 1, hi, h => by
    rw [nth_cons1] at h
    have := cnt_set (l := l) (i := i) (by simpa using hi) h
    cases x <;> simp [this]
theorem measure_mark {d1 d2 n r : Nat} (h : d2 + 1 = d1) (hr : r ≤ 1000000) : d2 * 1000001 + (n + r) < d1 * 1000001 + (n + 1) := by subst h; omega
theorem fresh_of2 {α : Type} {f : α → Value} {l : List α} {H0 : AHeap} {Z : Rs} {H : AHeap} {F : List (Nat × AObj)} (h : St H0 none0 Z H F) {j b n : Nat} (hj : F[j]? = some (b, .cells true (l.map f) 1)) (hn : n = l.length) : Fresh f l H0 (.slice (some ⟨b, 0, none⟩) n n) H := by
  subst hn; exact fresh_of h hj rfl
set_option maxRecDepth 100000 in
set_option maxHeartbeats 4000000 in
theorem kept_ok {H0 : AHeap} (e : List (List Int)) (vE : Value) (hE : Sl2Z intv (Rd H0) vE e) (hr : Sized e) (l : List Int) (vL : Value) (hL : Sl intv H0 vL l) (hl : l.length ≤ 1000000) : ACalls Try.prog 12 [vE, vL] H0 (Fresh boolv (keptL e l) H0) := by
  have hF : Wd Fence.wide := .inl rfl
  have hM : Try.prog.follows .mixedOrders = true := by kernel_rfl
  have hel := hr.1
  have s0 := St.begin H0
  refine acalls_st Try.func12 rfl Try.ntmps12 rfl ?_
  refine awp_seq ?_
  refine awp_regs hF ?_
  refine dv (gyes_none rfl) (q_as (v := .slice none 0 0) rfl) rfl (by decide) (cok1 (cconst rfl)) ?_
  refine ⟨_, Wk.refl _ _, ?_⟩
  show awp _ _ _ _ _ _ _
  refine awp_seq ?_
  refine awp_regs hF ?_
  refine dv (gyes_none rfl) (q_mv (v := vE) rfl) rfl (by decide) (cok1 trivial) ?_
  refine dv (gyes_none rfl) (q_len_sl2 s0 Try.underlying25 hE rfl) rfl (by decide) (cok1 trivial) ?_
  refine x_new (fun b => .slice (some ⟨b, 0, none⟩) e.length e.length) s0 (gyes_none rfl) (q_makeSlice1 (len := e.length) (m := e.length) rfl Try.underlying32 Try.typeInfo4 rfl Try.zeroValue4 rfl rfl rfl rfl (by omega) (by omega) (by show 1 * _ ≤ _; omega) (vs := (List.replicate e.length false).map boolv) (by simp [boolv])) rfl (by decide) (cok2 trivial trivial) (fun b1 H2 hb4 s3 => ?_)
  refine dv (gyes_none rfl) (q_as (v := .slice (some ⟨b1, 0, none⟩) e.length e.length) rfl) rfl (by decide) (cok1 trivial) ?_
  refine ⟨_, Wk.refl _ _, ?_⟩
  show awp _ _ _ _ _ _ _
  refine awp_seq ?_
  refine awp_regs hF ?_
  refine dv (gyes_none rfl) (q_mv (v := vL) rfl) rfl (by decide) (cok1 trivial) ?_
  refine x_new (fun b => .slice (some ⟨b, 0, none⟩) (l).length (l).length) s3 (gyes_none rfl) (q_call (Δ := [.cells true ((l).map intv) 1]) Try.call18 rfl (by simp [AObj.wr]) (acalls_fresh intv_sc (clone_ok l _ (s3.sl hL) hl))) rfl (by decide) (cok2 trivial trivial) (fun b5 H6 hb8 s7 => ?_)
  refine dv (gyes_none rfl) (q_as (v := .slice (some ⟨b5, 0, none⟩) ((l).length) ((l).length)) rfl) rfl (by decide) (cok1 trivial) ?_
  refine ⟨_, Wk.refl _ _, ?_⟩
  show awp _ _ _ _ _ _ _
  refine awp_seq ?_
  refine awp_block ?_
  refine awp_wk (Wk.U [(0, vE), (5, .slice (some ⟨b1, 0, none⟩) e.length e.length), (6, .slice (some ⟨b5, 0, none⟩) (l.length - 0) (l.length - 0))] ⟨rfl, rfl, rfl, trivial⟩) ?_
  refine awp_loop (fun ((kept, L, o) : (List Bool) × (List Int) × Nat) st => ∃ (H9 : AHeap) (bk : Nat) (bn : Nat), st = ⟨41, U [(0, vE), (5, .slice (some ⟨bk, 0, none⟩) e.length e.length), (6, .slice (some ⟨bn, o, none⟩) (L.length - o) (L.length - o))], [], H9⟩ ∧ St H0 (none0) (Rd H0) H9 [(bn, .cells true (L.map intv) 1), (bk, .cells true (kept.map boolv) 1)] ∧ (KInv e l kept (L.drop o) ∧ o ≤ L.length ∧ (e.length - kept.countP id) * 1000001 + (L.length - o) ≤ 1000003000000)) (fun ((kept, L, o) : (List Bool) × (List Int) × Nat) => (e.length - kept.countP id) * 1000001 + (L.length - o)) (x0 := ((List.replicate e.length false), l, 0)) ?h0 ?round
  case h0 =>
    exact ⟨_, _, _, rfl, s7, ⟨KInv.start e l, Nat.zero_le _, by rw [Nat.sub_zero]; have : (e.length - (List.replicate e.length false).countP id) ≤ e.length := Nat.sub_le _ _; have := hr.1; omega⟩⟩
  case round =>
    rintro ⟨kept, L, o⟩ _ ⟨H9, bk, bn, rfl, s10, hi⟩
    dsimp only at *
    refine awp_seq ?_
    refine awp_seq ?_
    refine awp_regs hF ?_
    refine dv (gyes_none rfl) (q_mv (v := .slice (some ⟨bn, o, none⟩) (L.length - o) (L.length - o)) rfl) rfl (by decide) (cok1 trivial) ?_
    refine dv (gyes_none rfl) (q_len_slice Try.underlying23 rfl (s10.rd (j := 0) rfl)) rfl (by decide) (cok1 trivial) ?_
    refine dvb (gyes_none rfl) (q_int rfl rfl rfl) rfl (by decide) (cok2 trivial (cconst rfl)) (fun c1 => ?_) (fun c1 => ?_)
    ·
      replace c1 := of_decide_eq_true c1
      have ho : o < L.length := by omega
      have hkl := hi.1.len
      refine ⟨_, Wk.refl _ _, ?_⟩
      show awp _ _ _ _ _ _ _
      refine awp_cond_t rfl ?_
      refine awp_skip_wk ?_
      refine ⟨_, Wk.refl _ _, ?_⟩
      show awp _ _ _ _ _ _ _
      refine awp_block ?_
      refine awp_seq ?_
      refine awp_regs hF ?_
      refine dv (gyes_none rfl) (q_mv (v := .slice (some ⟨bn, o, none⟩) (L.length - o) (L.length - o)) rfl) rfl (by decide) (cok1 trivial) ?_
      refine dv (gyes_none rfl) (q_index1 (i := 0) Try.underlying23 Try.sizeOf3 rfl rfl (by omega) (s10.rd (j := 0) rfl)) rfl (by decide) (cok2 trivial (cconst rfl)) ?_
      refine dv (gyes_none rfl) (q_load (v := intv (nth L o)) Try.isAgg3 rfl (s10.rd (j := 0) rfl) (get_nth (w := 0) (by omega))) rfl (by decide) (cok1 trivial) ?_
      refine dv (gyes_none rfl) (q_as (v := .int .i64 (nth L o)) rfl) rfl (by decide) (cok1 trivial) ?_
      refine ⟨_, Wk.refl _ _, ?_⟩
      show awp _ _ _ _ _ _ _
      refine awp_seq ?_
      refine awp_regs hF ?_
      refine dv (gyes_none rfl) (q_mv (v := .slice (some ⟨bn, o, none⟩) (L.length - o) (L.length - o)) rfl) rfl (by decide) (cok1 trivial) ?_
      refine dv (gyes_none rfl) (OpQ.cast (v' := .slice (some ⟨bn, o + 1, none⟩) ((L.length - o) - 1) ((L.length - o) - 1)) (q_slice (i := 1) (j := (L.length - o)) (m := (L.length - o)) Try.underlying23 Try.sizeOf3 rfl (s10.rd (j := 0) rfl) ⟨_, rfl⟩ ⟨rfl, rfl⟩ rfl (by omega) (by omega) (by omega)) (by simp)) rfl (by decide) (cok2 trivial (cconst rfl)) ?_
      refine dv (gyes_none rfl) (q_as (v := .slice (some ⟨bn, o + 1, none⟩) ((L.length - o) - 1) ((L.length - o) - 1)) rfl) rfl (by decide) (cok1 trivial) ?_
      refine ⟨_, Wk.refl _ _, ?_⟩
      show awp _ _ _ _ _ _ _
      refine awp_seq ?_
      refine awp_seq ?_
      refine awp_regs hF ?_
      refine dv (gyes_none rfl) (q_mv (v := vE) rfl) rfl (by decide) (cok1 trivial) ?_
      refine dv (gyes_none rfl) (q_mv (v := .int .i64 (nth L o)) rfl) rfl (by decide) (cok1 trivial) ?_
      refine dvb (gyes_none rfl) (q_call0 Try.call23 rfl (there2_ok s10 hE hr (nth L o))) rfl (by decide) (call_ok rfl) (fun c2 => ?_) (fun c2 => ?_)
      ·
        replace c2 := of_decide_eq_true c2
        have hva : Valid e (nth L o) := c2
        have hva1 := hva.1
        have hva2 := hva.2
        have hrl : (row e (nth L o)).length ≤ 1000000 := hr.2 _ (row_mem hva)
        refine dv (gyes_none rfl) (q_not (b := true) rfl) rfl (by decide) (cok1 trivial) ?_
        refine dv (gyes_none rfl) (q_mv (v := .bool false) rfl) rfl (by decide) (cok1 trivial) ?_
        refine dv (gyes_some rfl rfl) (q_mv (v := .slice (some ⟨bk, 0, none⟩) e.length e.length) rfl) rfl (by decide) (cok1 trivial) ?_
        refine dv (gyes_some rfl rfl) (q_mv (v := .int .i64 (nth L o)) rfl) rfl (by decide) (cok1 trivial) ?_
        refine dv (gyes_some rfl rfl) (OpQ.cast (v' := .pointer (some ⟨bk, (nth L o).toNat, none⟩)) (q_indexI1 (z := (nth L o)) Try.underlying32 Try.sizeOf4 rfl rfl (by omega) (by omega) (s10.rd (j := 1) rfl)) (by rw [Nat.zero_add])) rfl (by decide) (cok2 trivial trivial) ?_
        refine dvb (gyes_some rfl rfl) (q_load (v := boolv (nth kept ((nth L o).toNat))) Try.isAgg4 rfl (s10.rd (j := 1) rfl) (get_nth (w := 0) (by omega))) rfl (by decide) (cok1 trivial) (fun c3 => ?_) (fun c3 => ?_)
        ·
          refine dv (gyes_none rfl) (q_pf (v := .bool true) rfl rfl) rfl (by decide) (call_ok rfl) ?_
          refine ⟨_, Wk.refl _ _, ?_⟩
          show awp _ _ _ _ _ _ _
          refine awp_cond_t rfl ?_
          refine awp_exit_wk ?_
          refine ⟨_, Wk.U [(0, vE), (5, .slice (some ⟨bk, 0, none⟩) e.length e.length), (6, .slice (some ⟨bn, (o + 1), none⟩) (L.length - (o + 1)) (L.length - (o + 1)))] ⟨rfl, rfl, rfl, trivial⟩, (kept, L, (o + 1)), ⟨_, _, _, rfl, s10, ⟨hi.1.skip ho (by first | exact .inl (by assumption) | exact .inr (by assumption)), by dsimp only; omega, by dsimp only; omega⟩⟩, (by first | exact hdec | (dsimp only; omega))⟩
        ·
          refine dv (gyes_none rfl) (q_pf (v := .bool false) rfl rfl) rfl (by decide) (call_ok rfl) ?_
          refine ⟨_, Wk.refl _ _, ?_⟩
          show awp _ _ _ _ _ _ _
          refine awp_cond_f rfl ?_
          refine awp_skip_wk ?_
          refine ⟨_, Wk.refl _ _, ?_⟩
          show awp _ _ _ _ _ _ _
          refine awp_seq ?_
          refine awp_regs hF ?_
          refine dv (gyes_none rfl) (q_mv (v := .slice (some ⟨bk, 0, none⟩) e.length e.length) rfl) rfl (by decide) (cok1 trivial) ?_
          refine dv (gyes_none rfl) (q_mv (v := .int .i64 (nth L o)) rfl) rfl (by decide) (cok1 trivial) ?_
          refine dv (gyes_none rfl) (OpQ.cast (v' := .pointer (some ⟨bk, (nth L o).toNat, none⟩)) (q_indexI1 (z := (nth L o)) Try.underlying32 Try.sizeOf4 rfl rfl (by omega) (by omega) (s10.rd (j := 1) rfl)) (by rw [Nat.zero_add])) rfl (by decide) (cok2 trivial trivial) ?_
          refine x_store1 [] hF s10 (by kernel_rfl) (gyes_none rfl) (j := 1) (v := boolv true) rfl Try.sizeOf4 rfl rfl rfl (lc_scalar rfl) (by rw [List.length_map]; omega) trivial (cconst rfl) rfl rfl (F' := [(bn, .cells true (L.map intv) 1), (bk, .cells true ((kept.set ((nth L o).toNat) true).map boolv) 1)]) (by simp only [set_map1]; rfl) (fun H11 s12 => ⟨?_, ?_⟩)
          · exact trivial
          refine ⟨_, Wk.refl _ _, ?_⟩
          show awp _ _ _ _ _ _ _
          refine awp_regs hF ?_
          refine dv (gyes_none rfl) (q_mv (v := .slice (some ⟨bn, o + 1, none⟩) ((L.length - o) - 1) ((L.length - o) - 1)) rfl) rfl (by decide) (cok1 trivial) ?_
          refine dv (gyes_none rfl) (q_mv (v := vE) rfl) rfl (by decide) (cok1 trivial) ?_
          refine dv (gyes_none rfl) (q_mv (v := .int .i64 (nth L o)) rfl) rfl (by decide) (cok1 trivial) ?_
          refine dv (gyes_none rfl) (q_index_sl2I (z := (nth L o)) s12 Try.underlying25 Try.sizeOf23 hE rfl rfl (by omega) (by omega)) rfl (by decide) (cok2 trivial trivial) ?_
          obtain ⟨u13, hu13, qu13⟩ := Sl2Z.elem hE (i := ((nth L o).toNat)) (by omega)
          refine dv (gyes_none rfl) (qu13 s12 Try.isAgg23 rfl) rfl (by decide) (cok1 trivial) ?_
          refine x_append (l := row e (nth L o)) (f := intv) [] hF s12 (by kernel_rfl) (j := 0) ((L.drop (o + 1) ++ row e (nth L o)).length - 0) (by rw [List.length_append, List.length_drop]; omega) (gyes_none rfl) Try.underlying23 Try.underlying23 Try.type3 rfl rfl (by decide) rfl rfl rfl rfl (s12.sl hu13) (fun x => lc_scalar rfl) (by rw [List.length_map]; omega) (by show (2 * _ + 1000) * 8 ≤ _; first | omega | (simp only [List.length_append, List.length_cons, List.length_nil, List.length_take, List.length_drop]; omega)) trivial trivial (by decide) rfl rfl (vs' := ((L.drop (o + 1)) ++ row e (nth L o)).map intv) (by rw [← List.map_drop, ← List.map_append]) (fun b14 H15 hb17 s16 => ⟨?_, ?_⟩)
          · exact trivial
          refine dv (gyes_none rfl) (q_as (v := .slice (some ⟨b14, 0, none⟩) ((L.drop (o + 1) ++ row e (nth L o)).length - 0) ((L.drop (o + 1) ++ row e (nth L o)).length - 0)) rfl) rfl (by decide) (cok1 trivial) ?_
          have hst : KInv e l (kept.set (nth L o).toNat true) ((L.drop (o + 1) ++ row e (nth L o)).drop 0) := hi.1.mark ho hva
          have hdec : (e.length - (kept.set (nth L o).toNat true).countP id) * 1000001 + ((L.drop (o + 1) ++ row e (nth L o)).length - 0) < (e.length - kept.countP id) * 1000001 + (L.length - o) := by
            have h1 := cnt_set (l := kept) (i := (nth L o).toNat) (by omega) (by assumption)
            have h2 := cnt_le (kept.set (nth L o).toNat true)
            rw [List.length_set] at h2
            rw [List.length_append, List.length_drop, show L.length - (o + 1) + (row e (nth L o)).length - 0 = (L.length - (o + 1)) + (row e (nth L o)).length by omega, show L.length - o = (L.length - (o + 1)) + 1 by omega]
            exact measure_mark (by omega) hrl
          refine ⟨_, Wk.U [(0, vE), (5, .slice (some ⟨bk, 0, none⟩) e.length e.length), (6, .slice (some ⟨b14, 0, none⟩) ((L.drop (o + 1) ++ row e (nth L o)).length - 0) ((L.drop (o + 1) ++ row e (nth L o)).length - 0))] ⟨rfl, rfl, rfl, trivial⟩, ((kept.set (nth L o).toNat true), (L.drop (o + 1) ++ row e (nth L o)), 0), ⟨_, _, _, rfl, s16, ⟨hst, Nat.zero_le _, Nat.le_trans (Nat.le_of_lt hdec) hi.2.2⟩⟩, (by first | exact hdec | (dsimp only; omega))⟩
      ·
        replace c2 := of_decide_eq_false c2
        refine dv (gyes_none rfl) (q_not (b := false) rfl) rfl (by decide) (cok1 trivial) ?_
        refine dv (gyes_none rfl) (q_mv (v := .bool true) rfl) rfl (by decide) (cok1 trivial) ?_
        refine dno rfl (.inl rfl) rfl (by decide) ?_
        refine dno rfl (.inl rfl) rfl (by decide) ?_
        refine dno rfl (.inl rfl) rfl (by decide) ?_
        refine dno rfl (.inl rfl) rfl (by decide) ?_
        refine dv (gyes_none rfl) (q_pt (v := .bool true) rfl rfl) rfl (by decide) (call_ok rfl) ?_
        refine ⟨_, Wk.refl _ _, ?_⟩
        show awp _ _ _ _ _ _ _
        refine awp_cond_t rfl ?_
        refine awp_exit_wk ?_
        refine ⟨_, Wk.U [(0, vE), (5, .slice (some ⟨bk, 0, none⟩) e.length e.length), (6, .slice (some ⟨bn, (o + 1), none⟩) (L.length - (o + 1)) (L.length - (o + 1)))] ⟨rfl, rfl, rfl, trivial⟩, (kept, L, (o + 1)), ⟨_, _, _, rfl, s10, ⟨hi.1.skip ho (by first | exact .inl (by assumption) | exact .inr (by assumption)), by dsimp only; omega, by dsimp only; omega⟩⟩, (by first | exact hdec | (dsimp only; omega))⟩
    ·
      replace c1 := of_decide_eq_false c1
      refine ⟨_, Wk.refl _ _, ?_⟩
      show awp _ _ _ _ _ _ _
      refine awp_cond_f rfl ?_
      refine awp_exit_wk ?_
      refine ⟨_, Wk.refl _ _, ?_⟩
      show awp _ _ _ _ _ _ _
      refine awp_seq ?_
      refine awp_regs hF ?_
      refine dv (gyes_none rfl) (q_mv (v := .slice (some ⟨bk, 0, none⟩) e.length e.length) rfl) rfl (by decide) (cok1 trivial) ?_
      refine dv (gyes_none rfl) (q_as (v := .slice (some ⟨bk, 0, none⟩) e.length e.length) rfl) rfl (by decide) (cok1 trivial) ?_
      refine ⟨_, Wk.refl _ _, ?_⟩
      show awp _ _ _ _ _ _ _
      refine awp_ret_wk ?_
      refine ⟨_, Wk.refl _ _, ?_⟩
      repeat (with_reducible first | refine then_ret ?_ | refine blk_ret ?_ | refine then_exit ?_ | refine blk_exit ?_ | refine blk_exit' (by decide) ?_ | refine blk_normal ?_ | refine then_normal ?_ | refine retq_ret ?_ | refine retq_normal ?_ | refine ng_normal ?_ | refine ng_ret ?_ | refine ng_exit ?_)
      refine ret_is (v := .slice (some ⟨bk, 0, none⟩) e.length e.length) rfl (.tmp rfl .nil) rfl ?_
      have hke := hi.1.end_ (List.drop_eq_nil_of_le (by omega))
      subst hke
      exact fresh_of2 s10 (j := 1) rfl (keptL_len _ _).symm

end Go.Proofs.YtbjlabokijchpaaA
