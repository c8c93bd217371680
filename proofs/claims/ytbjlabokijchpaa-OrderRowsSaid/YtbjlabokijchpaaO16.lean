/-
  Walks of functions of the given program, and what they compute.
-/
import Derived.Test.YtbjlabokijchpaaO15
import Derived.Test.YtbjlabokijchpaaProg
import Derived.KernelRfl
namespace Go.Proofs.YtbjlabokijchpaaA
set_option linter.unusedVariables false
open Go Go.RowKit Go.Shelf Go.Proofs
theorem fin_before {e : List (List Int)} {al : List Int} {x y : Int} (hr : Rch e al x y) (hnr : ¬ Rch e al y x) : ∀ {left : List Int}, left.Nodup → x ∈ left → y ∈ left → ∃ a b, a < b ∧ b < (fin e al left.length left).length ∧ nth (fin e al left.length left) a = y ∧ nth (fin e al left.length left) b = x := by
  intro left
  generalize hm : left.length = m
  induction m generalizing left with
  | zero => intro _ hx; rw [List.length_eq_zero_iff.1 hm] at hx; cases hx
  | succ m ih =>
    intro hn hx hy
    have hne : left ≠ [] := fun h => by rw [h] at hm; cases hm
    have h1 := fin_step2 (e := e) (al := al) hn hne
    have hok : ok' e al left (pick e al left) = true := List.find?_some (pick_mem hne).1
    have hlen : (without left (pick e al left)).length = m := by omega
    have hxy : y ≠ x := fun h => by subst h; exact hnr hr
    have hkx : pick e al left ≠ x := fun h => by
      rw [h] at hok
      have h2 := List.all_eq_true.1 hok y hy
      unfold nx at h2
      rw [decide_eq_false hxy, rch_iff.2 hr, rch_no.2 hnr] at h2
      cases h2
    have hxw : x ∈ without left (pick e al left) := List.mem_filter.2 ⟨hx, decide_eq_true (fun h => hkx h.symm)⟩
    rw [fin]
    by_cases hky : pick e al left = y
    · have hxf : x ∈ fin e al (without left (pick e al left)).length (without left (pick e al left)) := (fin_mem h1.2.2 x).2 hxw
      rw [hlen] at hxf
      obtain ⟨b, hb, hbx⟩ := nth_of_mem hxf
      exact ⟨0, b + 1, by omega, by simpa using hb, by rw [nth_cons0]; exact hky, by rw [nth_cons1]; exact hbx.symm⟩
    · have hyw : y ∈ without left (pick e al left) := List.mem_filter.2 ⟨hy, decide_eq_true (fun h => hky h.symm)⟩
      obtain ⟨a, b, k1, k2, k3, k4⟩ := ih hlen h1.2.2 hxw hyw
      exact ⟨a + 1, b + 1, by omega, by simpa using k2, by rw [nth_cons1]; exact k3, by rw [nth_cons1]; exact k4⟩
theorem once_id {e : List (List Int)} : ∀ (l a : List Int), (∀ x ∈ l, Valid e x) → (a ++ l).Nodup → l.foldl (fun a k => if Valid e k ∧ k ∉ a then a ++ [k] else a) a = a ++ l
  | [], a, _, _ => by simp
  | x :: l, a, hv, hn => by
    have h1 : x ∉ a := fun h => (List.nodup_append.1 hn).2.2 x h x List.mem_cons_self rfl
    rw [List.foldl_cons, if_pos ⟨hv x List.mem_cons_self, h1⟩, once_id l (a ++ [x]) (fun y hy => hv y (List.mem_cons_of_mem _ hy)) (by simpa using hn)]
    simp
def upto (n : Nat) : List Int := (List.range n).map fun j => ((j : Nat) : Int)
theorem upto_len (n : Nat) : (upto n).length = n := by simp [upto]
theorem upto_succ (n : Nat) : upto n ++ [((n : Nat) : Int)] = upto (n + 1) := by simp [upto, List.range_succ]
theorem upto_mem {n : Nat} {x : Int} : x ∈ upto n ↔ 0 ≤ x ∧ x < n := by
  unfold upto
  rw [List.mem_map]
  constructor
  · rintro ⟨j, hj, rfl⟩; have := List.mem_range.1 hj; omega
  · rintro ⟨h1, h2⟩; exact ⟨x.toNat, List.mem_range.2 (by omega), by omega⟩
theorem upto_nodup (n : Nat) : (upto n).Nodup := by
  unfold upto
  induction n with
  | zero => simp
  | succ n ih =>
    rw [List.range_succ, List.map_append, List.nodup_append]
    refine ⟨ih, by simp, fun a ha b hb => ?_⟩
    obtain ⟨j, hj, rfl⟩ := List.mem_map.1 ha
    have := List.mem_range.1 hj
    simp at hb; subst hb
    omega
def rowG (r : List Int) (i k : Nat) : List Int := (r.take k).map fun z => ((i + 1 + imask z 7 : Nat) : Int)
theorem rowG_succ {r : List Int} {i k : Nat} (hk : k < r.length) : rowG r i k ++ [((i + 1 + imask (nth r k) 7 : Nat) : Int)] = rowG r i (k + 1) := by
  unfold rowG
  rw [List.take_add_one, List.getElem?_eq_getElem hk, nth_eq hk]
  simp only [Option.toList_some, List.map_append, List.map_cons, List.map_nil]
theorem rowG_end {r : List Int} {i k : Nat} (h : k ≤ 6) (hk : k = 6 ∨ r.length ≤ k) : rowG r i k = rowG r i 6 := by
  unfold rowG
  rcases hk with rfl | hk
  · rfl
  · rw [List.take_of_length_le hk, List.take_of_length_le (by omega)]
def rowsG (e : List (List Int)) (n : Nat) : List (List Int) := (List.range n).map fun i => rowG (nth e i) i 6
theorem rowsG_len (e : List (List Int)) (n : Nat) : (rowsG e n).length = n := by simp [rowsG]
theorem rowsG_succ (e : List (List Int)) (n : Nat) : rowsG e (n + 1) = rowsG e n ++ [rowG (nth e n) n 6] := by simp [rowsG, List.range_succ]
theorem rowsG_nth {e : List (List Int)} {n i : Nat} (hi : i < n) : nth (rowsG e n) i = rowG (nth e i) i 6 := by
  rw [nth_eq (by rw [rowsG_len]; exact hi)]; simp [rowsG]
theorem rowsG_sized {e : List (List Int)} {n : Nat} (hn : n ≤ 14) : Sized (rowsG e n) := by
  refine ⟨by rw [rowsG_len]; omega, fun r hr => ?_⟩
  obtain ⟨i, _, rfl⟩ := List.mem_map.1 hr
  unfold rowG
  rw [List.length_map, List.length_take]; omega
theorem rowsG_lt {e : List (List Int)} {n : Nat} {x y : Int} (hx : 0 ≤ x) (h : y ∈ row (rowsG e n) x) : x < y := by
  unfold row at h
  by_cases hi : x.toNat < n
  · rw [rowsG_nth hi] at h
    obtain ⟨z, _, rfl⟩ := List.mem_map.1 h
    omega
  · unfold nth at h
    rw [List.getD_eq_getElem?_getD, List.getElem?_eq_none (by rw [rowsG_len]; omega)] at h
    exact absurd h (List.not_mem_nil (a := y))
theorem rowsG_rch {e : List (List Int)} {n : Nat} {al : List Int} {x y : Int} (hx : 0 ≤ x) (h : Rch (rowsG e n) al x y) : x < y :=
  h.closed (S := fun z => x < z) (fun y hy _ => rowsG_lt hx hy) fun z hz y hy _ => by have := rowsG_lt (by omega) hy; omega
theorem rowsG_once (e : List (List Int)) (n : Nat) : onceL (rowsG e n) (upto n) = upto n := by
  have := once_id (e := rowsG e n) (upto n) [] (fun x hx => by have := upto_mem.1 hx; exact ⟨this.1, by rw [rowsG_len]; exact this.2⟩) (by simpa using upto_nodup n)
  rw [List.nil_append] at this
  exact this
theorem rowsG_first_len (e : List (List Int)) (n : Nat) : (firstL (rowsG e n) (upto n)).length = n := by rw [firstL, fin_len, rowsG_once, upto_len]
structure AInv (e : List (List Int)) (O : List Int) (j : Nat) (t : List Nat) : Prop where
  len : t.length = e.length
  at' : ∀ i, i < j → nth t (nth O i).toNat = i
theorem AInv.start (e : List (List Int)) (O : List Int) : AInv e O 0 (List.replicate e.length 0) := ⟨by simp, fun i h => absurd h (Nat.not_lt_zero _)⟩
theorem nodup_nth {l : List Int} (hn : l.Nodup) {i j : Nat} (hi : i < l.length) (hj : j < l.length) (h : nth l i = nth l j) : i = j := by
  rw [nth_eq hi, nth_eq hj] at h
  have key := List.pairwise_iff_getElem.1 hn
  rcases Nat.lt_trichotomy i j with h1 | h1 | h1
  · exact absurd h (key i j hi hj h1)
  · exact h1
  · exact absurd h.symm (key j i hj hi h1)
theorem AInv.step {e : List (List Int)} {O : List Int} {j : Nat} {t : List Nat} (h : AInv e O j t) (hn : O.Nodup) (hj : j < O.length) (hv : ∀ x ∈ O, Valid e x) : AInv e O (j + 1) (t.set (nth O j).toNat j) := by
  have vj := hv _ (nthI_mem hj)
  have hl : (nth O j).toNat < t.length := by have := vj.1; have := vj.2; rw [h.len]; omega
  refine ⟨by rw [List.length_set]; exact h.len, fun i hi => ?_⟩
  have vi := hv _ (nthI_mem (show i < O.length by omega))
  have hli : (nth O i).toNat < t.length := by have := vi.1; have := vi.2; rw [h.len]; omega
  rw [nth_eq (by rw [List.length_set]; exact hli), List.getElem_set]
  by_cases e1 : i = j
  · subst e1; rw [if_pos rfl]
  · have : ¬ (nth O j).toNat = (nth O i).toNat := fun e2 => e1 (nodup_nth hn (by omega) hj (by have := vi.1; have := vj.1; omega))
    rw [if_neg this, ← nth_eq hli]; exact h.at' i (by omega)
theorem AInv.lt {e : List (List Int)} {n j : Nat} {t : List Nat} (h : AInv (rowsG e n) (firstL (rowsG e n) (upto n)) j t) (hj : ¬ j < (firstL (rowsG e n) (upto n)).length) {p : Nat} (hp : p < n) {y : Int} (hy : y ∈ nth (rowsG e n) p) (hyn : y < n) : nth t y.toNat < nth t p := by
  have hp0 : (0 : Int) ≤ ((p : Nat) : Int) := by omega
  have hlt := rowsG_lt (e := e) (n := n) (x := ((p : Nat) : Int)) hp0 hy
  have hal : onceL (rowsG e n) (upto n) = upto n := rowsG_once e n
  have hym : y ∈ upto n := upto_mem.2 ⟨by omega, hyn⟩
  have hpm : ((p : Nat) : Int) ∈ upto n := upto_mem.2 ⟨by omega, by omega⟩
  have hr : Rch (rowsG e n) (upto n) ((p : Nat) : Int) y := .one hy hym
  have hnr : ¬ Rch (rowsG e n) (upto n) y ((p : Nat) : Int) := fun h => by have := rowsG_rch (by omega) h; omega
  obtain ⟨a, b, h1, h2, h3, h4⟩ := fin_before hr hnr (upto_nodup n) hpm hym
  have hO : firstL (rowsG e n) (upto n) = fin (rowsG e n) (upto n) (upto n).length (upto n) := by rw [firstL, hal]
  rw [← hO] at h2 h3 h4
  have ka := h.at' a (by omega)
  have kb := h.at' b (by omega)
  rw [h3] at ka
  rw [h4] at kb
  have e1 : (((p : Nat) : Int)).toNat = p := rfl
  rw [e1] at kb
  omega
theorem kept_step {e : List (List Int)} {rt : List Int} {p : Nat} {y : Int} (hp : p < e.length) (h1 : nth (keptL e rt) p = true) (hy : y ∈ nth e p) (hv : Valid e y) (h2 : nth (keptL e rt) y.toNat = false) : False := by
  rw [keptL_at hp] at h1
  rw [keptL_nth hv] at h2
  have := kb_iff.2 ((kb_iff.1 h1).step hy hv)
  rw [h2] at this; cases this
set_option maxRecDepth 100000 in
set_option maxHeartbeats 4000000 in
theorem orows_ok {H0 : AHeap} (e : List (List Int)) (vE : Value) (hE : Sl2Z intv (Rd H0) vE e) (rs : List Int) (vR : Value) (hR : Sl intv H0 vR rs) : ACalls Try.prog 4 [vE, vR] H0 (Rets (.bool true) H0) := by
  have hF : Wd Fence.wide := .inl rfl
  have hM : Try.prog.follows .mixedOrders = true := by kernel_rfl
  obtain ⟨rt, er⟩ : ∃ rt, rt = rs.take (min rs.length 8) := ⟨_, rfl⟩
  have hrt : rt.length ≤ 1000000 := by rw [er, List.length_take]; omega
  have s0 := St.begin H0
  refine acalls_st Try.func4 rfl Try.ntmps4 rfl ?_
  refine awp_seq ?_
  refine awp_regs hF ?_
  refine dv (gyes_none rfl) (q_as (v := .bool false) rfl) rfl (by decide) (cok1 (cconst rfl)) ?_
  refine ⟨_, Wk.refl _ _, ?_⟩
  show awp _ _ _ _ _ _ _
  refine awp_seq ?_
  refine awp_seq ?_
  refine awp_regs hF ?_
  refine dv (gyes_none rfl) (q_call0 Try.call7 rfl (speaks_ok)) rfl (by decide) (cok1 trivial) ?_
  refine dv (gyes_none rfl) (q_not (b := true) rfl) rfl (by decide) (cok1 trivial) ?_
  refine ⟨_, Wk.refl _ _, ?_⟩
  show awp _ _ _ _ _ _ _
  refine awp_cond_f rfl ?_
  refine awp_skip_wk ?_
  refine ⟨_, Wk.refl _ _, ?_⟩
  show awp _ _ _ _ _ _ _
  refine awp_seq ?_
  refine awp_regs hF ?_
  refine dv (gyes_none rfl) (q_as (v := .slice none 0 0) rfl) rfl (by decide) (cok1 (cconst rfl)) ?_
  refine ⟨_, Wk.refl _ _, ?_⟩
  show awp _ _ _ _ _ _ _
  refine awp_seq ?_
  refine awp_regs hF ?_
  refine dv (gyes_none rfl) (q_as (v := .slice none 0 0) rfl) rfl (by decide) (cok1 (cconst rfl)) ?_
  refine ⟨_, Wk.refl _ _, ?_⟩
  show awp _ _ _ _ _ _ _
  refine awp_seq ?_
  refine awp_seq ?_
  refine awp_regs hF ?_
  refine dv (gyes_none rfl) (q_as (v := .int .i64 0) rfl) rfl (by decide) (cok1 (cconst rfl)) ?_
  refine ⟨_, Wk.refl _ _, ?_⟩
  show awp _ _ _ _ _ _ _
  refine awp_block ?_
  refine awp_nil s0 5 1 rfl (fun b1 H2 hb4 s3 => ?_)
  refine awp_nil s3 6 1 rfl (fun b5 H6 hb8 s7 => ?_)
  refine awp_wk (Wk.U [(0, vE), (1, vR), (5, .slice (some ⟨b1, 0, none⟩) (([] : List Value).length) (([] : List Value).length)), (6, .slice (some ⟨b5, 0, none⟩) ((upto 0).length) ((upto 0).length)), (7, .int .i64 0)] ⟨rfl, rfl, rfl, rfl, rfl, trivial⟩) ?_
  refine awp_loop (fun ((i, us) : Nat × (List Value)) st => ∃ (H9 : AHeap) (be : Nat) (ba : Nat) (Z1 : Rs), st = ⟨145, U [(0, vE), (1, vR), (5, .slice (some ⟨be, 0, none⟩) us.length us.length), (6, .slice (some ⟨ba, 0, none⟩) ((upto i).length) ((upto i).length)), (7, .int .i64 ((i : Nat) : Int))], [], H9⟩ ∧ St H0 (none0) (Z1) H9 [(ba, .cells true ((upto i).map intv) 1), (be, .cells true (us.map idv) 1)] ∧ (Sl2Z intv Z1 vE e ∧ RowsZ Z1 us (rowsG e i) ∧ us.length = i ∧ i ≤ 14 ∧ SlZ intv Z1 vR rs)) (fun ((i, us) : Nat × (List Value)) => 14 - i) (x0 := (0, ([] : List Value))) ?h0 ?round
  case h0 =>
    exact ⟨_, _, _, _, rfl, s7, ⟨hE, RowsZ.nil _, rfl, Nat.zero_le _, hR⟩⟩
  case round =>
    rintro ⟨i, us⟩ _ ⟨H9, be, ba, Z1, rfl, s10, hZ⟩
    dsimp only at *
    refine awp_seq ?_
    refine awp_seq ?_
    refine awp_regs hF ?_
    refine dv (gyes_none rfl) (q_mv (v := .int .i64 ((i : Nat) : Int)) rfl) rfl (by decide) (cok1 trivial) ?_
    refine dv (gyes_none rfl) (q_mv (v := vE) rfl) rfl (by decide) (cok1 trivial) ?_
    refine dv (gyes_none rfl) (q_len_sl2 s10 Try.underlying22 hZ.1 rfl) rfl (by decide) (cok1 trivial) ?_
    refine dvb (gyes_none rfl) (q_int rfl rfl rfl) rfl (by decide) (cok2 trivial trivial) (fun c1 => ?_) (fun c1 => ?_)
    ·
      replace c1 := of_decide_eq_true c1
      refine dv (gyes_none rfl) (q_mv (v := .bool true) rfl) rfl (by decide) (cok1 trivial) ?_
      refine dv (gyes_some rfl rfl) (q_mv (v := .int .i64 ((i : Nat) : Int)) rfl) rfl (by decide) (cok1 trivial) ?_
      refine dvb (gyes_some rfl rfl) (q_int rfl rfl rfl) rfl (by decide) (cok2 trivial (cconst rfl)) (fun c2 => ?_) (fun c2 => ?_)
      ·
        replace c2 := of_decide_eq_true c2
        have hie : i < e.length := by omega
        refine dv (gyes_none rfl) (q_pt (v := .bool true) rfl rfl) rfl (by decide) (call_ok rfl) ?_
        refine ⟨_, Wk.refl _ _, ?_⟩
        show awp _ _ _ _ _ _ _
        refine awp_cond_t rfl ?_
        refine awp_skip_wk ?_
        refine ⟨_, Wk.refl _ _, ?_⟩
        show awp _ _ _ _ _ _ _
        refine awp_seq ?_
        refine awp_block ?_
        refine awp_seq ?_
        refine awp_regs hF ?_
        refine dv (gyes_none rfl) (q_as (v := .slice none 0 0) rfl) rfl (by decide) (cok1 (cconst rfl)) ?_
        refine ⟨_, Wk.refl _ _, ?_⟩
        show awp _ _ _ _ _ _ _
        refine awp_seq ?_
        refine awp_seq ?_
        refine awp_regs hF ?_
        refine dv (gyes_none rfl) (q_as (v := .int .i64 0) rfl) rfl (by decide) (cok1 (cconst rfl)) ?_
        refine ⟨_, Wk.refl _ _, ?_⟩
        show awp _ _ _ _ _ _ _
        refine awp_block ?_
        refine awp_nil s10 8 1 rfl (fun b11 H12 hb14 s13 => ?_)
        refine awp_wk (Wk.U [(0, vE), (1, vR), (5, .slice (some ⟨be, 0, none⟩) us.length us.length), (6, .slice (some ⟨ba, 0, none⟩) ((upto i).length) ((upto i).length)), (7, .int .i64 ((i : Nat) : Int)), (8, .slice (some ⟨b11, 0, none⟩) (([] : List Int).length) (([] : List Int).length)), (9, .int .i64 0)] ⟨rfl, rfl, rfl, rfl, rfl, rfl, rfl, trivial⟩) ?_
        refine awp_loop (fun ((k, x) : Nat × (List Int)) st => ∃ (H15 : AHeap) (bx : Nat), st = ⟨145, U [(0, vE), (1, vR), (5, .slice (some ⟨be, 0, none⟩) us.length us.length), (6, .slice (some ⟨ba, 0, none⟩) ((upto i).length) ((upto i).length)), (7, .int .i64 ((i : Nat) : Int)), (8, .slice (some ⟨bx, 0, none⟩) x.length x.length), (9, .int .i64 ((k : Nat) : Int))], [], H15⟩ ∧ St H0 (none0) (Z1) H15 [(bx, .cells true (x.map intv) 1), (ba, .cells true ((upto i).map intv) 1), (be, .cells true (us.map idv) 1)] ∧ (x = rowG (nth e i) i k ∧ k ≤ 6)) (fun ((k, x) : Nat × (List Int)) => 6 - k) (x0 := (0, ([] : List Int))) ?h0 ?round
        case h0 =>
          exact ⟨_, _, rfl, s13, ⟨rfl, by omega⟩⟩
        case round =>
          rintro ⟨k, x⟩ _ ⟨H15, bx, rfl, s16, hx⟩
          dsimp only at *
          have hxl : x.length ≤ 6 := by
            rw [hx.1]; unfold rowG; rw [List.length_map, List.length_take]; omega
          refine awp_seq ?_
          refine awp_seq ?_
          refine awp_regs hF ?_
          refine dv (gyes_none rfl) (q_mv (v := .int .i64 ((k : Nat) : Int)) rfl) rfl (by decide) (cok1 trivial) ?_
          refine dv (gyes_none rfl) (q_mv (v := vE) rfl) rfl (by decide) (cok1 trivial) ?_
          refine dv (gyes_none rfl) (q_mv (v := .int .i64 ((i : Nat) : Int)) rfl) rfl (by decide) (cok1 trivial) ?_
          refine dv (gyes_none rfl) (q_index_sl2 s16 Try.underlying22 Try.sizeOf23 hZ.1 rfl rfl (by omega)) rfl (by decide) (cok2 trivial trivial) ?_
          obtain ⟨u17, hu17, qu17⟩ := Sl2Z.elem hZ.1 (i := i) (by omega)
          refine dv (gyes_none rfl) (qu17 s16 Try.isAgg23 rfl) rfl (by decide) (cok1 trivial) ?_
          refine dv (gyes_none rfl) (q_len_sl (l := nth e i) Try.underlying23 (s16.sl hu17) rfl) rfl (by decide) (cok1 trivial) ?_
          refine dvb (gyes_none rfl) (q_int rfl rfl rfl) rfl (by decide) (cok2 trivial trivial) (fun c3 => ?_) (fun c3 => ?_)
          ·
            replace c3 := of_decide_eq_true c3
            refine dv (gyes_none rfl) (q_mv (v := .bool true) rfl) rfl (by decide) (cok1 trivial) ?_
            refine dv (gyes_some rfl rfl) (q_mv (v := .int .i64 ((k : Nat) : Int)) rfl) rfl (by decide) (cok1 trivial) ?_
            refine dvb (gyes_some rfl rfl) (q_int rfl rfl rfl) rfl (by decide) (cok2 trivial (cconst rfl)) (fun c4 => ?_) (fun c4 => ?_)
            ·
              replace c4 := of_decide_eq_true c4
              have hkl : k < (nth e i).length := by omega
              have him := imask_le (nth (nth e i) k) 7
              refine dv (gyes_none rfl) (q_pt (v := .bool true) rfl rfl) rfl (by decide) (call_ok rfl) ?_
              refine ⟨_, Wk.refl _ _, ?_⟩
              show awp _ _ _ _ _ _ _
              refine awp_cond_t rfl ?_
              refine awp_skip_wk ?_
              refine ⟨_, Wk.refl _ _, ?_⟩
              show awp _ _ _ _ _ _ _
              refine awp_seq ?_
              refine awp_block ?_
              refine awp_regs hF ?_
              refine dv (gyes_none rfl) (q_mv (v := .slice (some ⟨bx, 0, none⟩) x.length x.length) rfl) rfl (by decide) (cok1 trivial) ?_
              refine dv (gyes_none rfl) (q_mv (v := .int .i64 ((i : Nat) : Int)) rfl) rfl (by decide) (cok1 trivial) ?_
              refine dv (gyes_none rfl) (OpQ.cast (v' := .int .i64 ((i + 1 : Nat) : Int)) (q_int rfl rfl rfl) (congrArg _ ((i64_in (by omega)).trans (by first | rfl | omega | (push_cast; rfl))))) rfl (by decide) (cok2 trivial (cconst rfl)) ?_
              refine dv (gyes_none rfl) (q_mv (v := vE) rfl) rfl (by decide) (cok1 trivial) ?_
              refine dv (gyes_none rfl) (q_mv (v := .int .i64 ((i : Nat) : Int)) rfl) rfl (by decide) (cok1 trivial) ?_
              refine dv (gyes_none rfl) (q_index_sl2 s16 Try.underlying22 Try.sizeOf23 hZ.1 rfl rfl (by omega)) rfl (by decide) (cok2 trivial trivial) ?_
              obtain ⟨u18, hu18, qu18⟩ := Sl2Z.elem hZ.1 (i := i) (by omega)
              refine dv (gyes_none rfl) (qu18 s16 Try.isAgg23 rfl) rfl (by decide) (cok1 trivial) ?_
              refine dv (gyes_none rfl) (q_mv (v := .int .i64 ((k : Nat) : Int)) rfl) rfl (by decide) (cok1 trivial) ?_
              refine dv (gyes_none rfl) (q_index_sl (l := nth e i) (i := k) Try.underlying23 Try.sizeOf3 (s16.sl hu18) rfl rfl (by omega)) rfl (by decide) (cok2 trivial trivial) ?_
              refine dv (gyes_none rfl) (q_load_sl (l := nth e i) (i := k) Try.isAgg3 (s16.sl hu18) rfl (by omega)) rfl (by decide) (cok1 trivial) ?_
              refine dv (gyes_none rfl) (q_imask (m := 7) rfl rfl (by first | decide | omega)) rfl (by decide) (cok2 trivial (cconst rfl)) ?_
              refine dv (gyes_none rfl) (OpQ.cast (v' := .int .i64 ((i + 1 + (imask (nth (nth e i) k) 7) : Nat) : Int)) (q_int rfl rfl rfl) (congrArg _ ((i64_in (by omega)).trans (by first | rfl | omega | (push_cast; rfl))))) rfl (by decide) (cok2 trivial trivial) ?_
              refine x_new (fun b => .slice (some ⟨b, 0, none⟩) 1 1) s16 (gyes_none rfl) (q_buildSliceL (ds := [.int .i64 ((i + 1 + (imask (nth (nth e i) k) 7) : Nat) : Int)]) [.int .i64 ((i + 1 + (imask (nth (nth e i) k) 7) : Nat) : Int)] rfl Try.underlying23 Try.sizeOf3 Try.zeroValue3 rfl (by decide) (by decide) ⟨rfl, trivial⟩ (lvsC (by exact trivial) lvs0) rfl rfl) rfl (by decide) (cok1 trivial) (fun b19 H20 hb22 s21 => ?_)
              refine x_append (l := [((i + 1 + (imask (nth (nth e i) k) 7) : Nat) : Int)]) (f := intv) [] hF s21 (by kernel_rfl) (j := 1) ((x ++ [((i + 1 + (imask (nth (nth e i) k) 7) : Nat) : Int)]).length) (by simp) (gyes_none rfl) Try.underlying23 Try.underlying23 Try.type3 rfl rfl (by decide) rfl rfl rfl rfl (s21.slj (l := [((i + 1 + (imask (nth (nth e i) k) 7) : Nat) : Int)]) (f := intv) (j := 0) rfl rfl (Nat.le_refl _)) (fun x => lc_scalar rfl) (by simp) (by show (2 * _ + 1000) * 8 ≤ _; first | omega | (simp only [List.length_append, List.length_cons, List.length_nil, List.length_take, List.length_drop]; omega)) trivial trivial (by decide) rfl rfl (vs' := (x ++ [((i + 1 + (imask (nth (nth e i) k) 7) : Nat) : Int)]).map intv) (by simp) (fun b23 H24 hb26 s25 => ⟨?_, ?_⟩)
              · exact trivial
              refine dv (gyes_none rfl) (q_as (v := .slice (some ⟨b23, 0, none⟩) ((x ++ [((i + 1 + (imask (nth (nth e i) k) 7) : Nat) : Int)]).length) ((x ++ [((i + 1 + (imask (nth (nth e i) k) 7) : Nat) : Int)]).length)) rfl) rfl (by decide) (cok1 trivial) ?_
              refine ⟨_, Wk.refl _ _, ?_⟩
              show awp _ _ _ _ _ _ _
              refine awp_regs hF ?_
              refine dv (gyes_none rfl) (q_mv (v := .int .i64 ((k : Nat) : Int)) rfl) rfl (by decide) (cok1 trivial) ?_
              refine dv (gyes_none rfl) (OpQ.cast (v' := .int .i64 ((k + 1 : Nat) : Int)) (q_int rfl rfl rfl) (congrArg _ ((i64_in (by omega)).trans (by first | rfl | omega | (push_cast; rfl))))) rfl (by decide) (cok2 trivial (cconst rfl)) ?_
              refine dv (gyes_none rfl) (q_as (v := .int .i64 ((k + 1 : Nat) : Int)) rfl) rfl (by decide) (cok1 trivial) ?_
              refine ⟨_, Wk.U [(0, vE), (1, vR), (5, .slice (some ⟨be, 0, none⟩) us.length us.length), (6, .slice (some ⟨ba, 0, none⟩) ((upto i).length) ((upto i).length)), (7, .int .i64 ((i : Nat) : Int)), (8, .slice (some ⟨b23, 0, none⟩) ((x ++ [((i + 1 + imask (nth (nth e i) k) 7 : Nat) : Int)]).length) ((x ++ [((i + 1 + imask (nth (nth e i) k) 7 : Nat) : Int)]).length)), (9, .int .i64 (((k + 1) : Nat) : Int))] ⟨rfl, rfl, rfl, rfl, rfl, rfl, rfl, trivial⟩, ((k + 1), (x ++ [((i + 1 + imask (nth (nth e i) k) 7 : Nat) : Int)])), ⟨_, _, rfl, (s25.sub (.cons _ (.cons_cons _ (.cons_cons _ (.cons_cons _ (.refl _)))))), ⟨by rw [hx.1]; exact rowG_succ hkl, by dsimp only; omega⟩⟩, (by dsimp only; omega)⟩
            ·
              replace c4 := of_decide_eq_false c4
              have hxe : x = rowG (nth e i) i 6 := by rw [hx.1]; exact rowG_end hx.2 (by omega)
              refine dv (gyes_none rfl) (q_pt (v := .bool false) rfl rfl) rfl (by decide) (call_ok rfl) ?_
              refine ⟨_, Wk.refl _ _, ?_⟩
              show awp _ _ _ _ _ _ _
              refine awp_cond_f rfl ?_
              refine awp_exit_wk ?_
              refine ⟨_, Wk.refl _ _, ?_⟩
              show awp _ _ _ _ _ _ _
              refine awp_seq ?_
              refine awp_regs hF ?_
              refine dv (gyes_none rfl) (q_mv (v := .slice (some ⟨be, 0, none⟩) us.length us.length) rfl) rfl (by decide) (cok1 trivial) ?_
              refine dv (gyes_none rfl) (q_mv (v := .slice (some ⟨bx, 0, none⟩) x.length x.length) rfl) rfl (by decide) (cok1 trivial) ?_
              refine x_new (fun b => .slice (some ⟨b, 0, none⟩) 1 1) s16 (gyes_none rfl) (q_buildSliceL (ds := [.slice (some ⟨bx, 0, none⟩) x.length x.length]) [.slice (some ⟨bx, 0, none⟩) x.length x.length] rfl Try.underlying25 Try.sizeOf23 Try.zeroValue23 rfl (by decide) (by decide) ⟨rfl, trivial⟩ (lvsC (s16.live (j := 0) rfl) lvs0) rfl rfl) rfl (by decide) (cok1 trivial) (fun b27 H28 hb30 s29 => ?_)
              refine x_append (l := [()]) (f := fun _ : Unit => Value.slice (some ⟨bx, 0, none⟩) x.length x.length) [] hF s29 (by kernel_rfl) (j := 3) ((us ++ [Value.slice (some ⟨bx, 0, none⟩) x.length x.length]).length) (by simp) (gyes_none rfl) Try.underlying25 Try.underlying25 Try.type23 rfl rfl (by decide) rfl rfl rfl rfl (s29.slj (l := [()]) (f := fun _ : Unit => Value.slice (some ⟨bx, 0, none⟩) x.length x.length) (j := 0) rfl rfl (Nat.le_refl _)) (fun _ => (lc_slice (s29.live (j := 1) rfl))) (by simp) (by rw [List.length_append]; show (2 * (_ + 1) + 1000) * 24 ≤ _; omega) trivial trivial (by decide) rfl rfl (vs' := (us ++ [Value.slice (some ⟨bx, 0, none⟩) x.length x.length]).map idv) (by simp [idv]) (fun b31 H32 hb34 s33 => ⟨?_, ?_⟩)
              · exact trivial
              refine dv (gyes_none rfl) (q_as (v := .slice (some ⟨b31, 0, none⟩) ((us ++ [Value.slice (some ⟨bx, 0, none⟩) x.length x.length]).length) ((us ++ [Value.slice (some ⟨bx, 0, none⟩) x.length x.length]).length)) rfl) rfl (by decide) (cok1 trivial) ?_
              refine ⟨_, Wk.refl _ _, ?_⟩
              show awp _ _ _ _ _ _ _
              refine awp_regs hF ?_
              refine dv (gyes_none rfl) (q_mv (v := .slice (some ⟨ba, 0, none⟩) ((upto i).length) ((upto i).length)) rfl) rfl (by decide) (cok1 trivial) ?_
              refine dv (gyes_none rfl) (q_mv (v := .int .i64 ((i : Nat) : Int)) rfl) rfl (by decide) (cok1 trivial) ?_
              refine x_new (fun b => .slice (some ⟨b, 0, none⟩) 1 1) s33 (gyes_none rfl) (q_buildSliceL (ds := [.int .i64 ((i : Nat) : Int)]) [.int .i64 ((i : Nat) : Int)] rfl Try.underlying23 Try.sizeOf3 Try.zeroValue3 rfl (by decide) (by decide) ⟨rfl, trivial⟩ (lvsC (by exact trivial) lvs0) rfl rfl) rfl (by decide) (cok1 trivial) (fun b35 H36 hb38 s37 => ?_)
              refine x_append (l := [((i : Nat) : Int)]) (f := intv) [] hF s37 (by kernel_rfl) (j := 3) ((upto (i + 1)).length) (by rw [upto_len, upto_len]; rfl) (gyes_none rfl) Try.underlying23 Try.underlying23 Try.type3 rfl rfl (by decide) rfl rfl rfl rfl (s37.slj (l := [((i : Nat) : Int)]) (f := intv) (j := 0) rfl rfl (Nat.le_refl _)) (fun x => lc_scalar rfl) (by simp) (by rw [upto_len]; show (2 * _ + 1000) * 8 ≤ _; omega) trivial trivial (by decide) rfl rfl (vs' := (upto (i + 1)).map intv) (by rw [← upto_succ, List.map_append]; rfl) (fun b39 H40 hb42 s41 => ⟨?_, ?_⟩)
              · exact trivial
              refine dv (gyes_none rfl) (q_as (v := .slice (some ⟨b39, 0, none⟩) ((upto (i + 1)).length) ((upto (i + 1)).length)) rfl) rfl (by decide) (cok1 trivial) ?_
              refine ⟨_, Wk.refl _ _, ?_⟩
              show awp _ _ _ _ _ _ _
              refine awp_regs hF ?_
              refine dv (gyes_none rfl) (q_mv (v := .int .i64 ((i : Nat) : Int)) rfl) rfl (by decide) (cok1 trivial) ?_
              refine dv (gyes_none rfl) (OpQ.cast (v' := .int .i64 ((i + 1 : Nat) : Int)) (q_int rfl rfl rfl) (congrArg _ ((i64_in (by omega)).trans (by first | rfl | omega | (push_cast; rfl))))) rfl (by decide) (cok2 trivial (cconst rfl)) ?_
              refine dv (gyes_none rfl) (q_as (v := .int .i64 ((i + 1 : Nat) : Int)) rfl) rfl (by decide) (cok1 trivial) ?_
              have s43 := s41.freeze (j := 2) rfl
              refine ⟨_, Wk.U [(0, vE), (1, vR), (5, .slice (some ⟨b31, 0, none⟩) ((us ++ [Value.slice (some ⟨bx, 0, none⟩) x.length x.length]).length) ((us ++ [Value.slice (some ⟨bx, 0, none⟩) x.length x.length]).length)), (6, .slice (some ⟨b39, 0, none⟩) ((upto (i + 1)).length) ((upto (i + 1)).length)), (7, .int .i64 (((i + 1) : Nat) : Int))] ⟨rfl, rfl, rfl, rfl, rfl, trivial⟩, ((i + 1), (us ++ [Value.slice (some ⟨bx, 0, none⟩) x.length x.length])), ⟨_, _, _, _, rfl, (s43.sub (.cons _ (.cons _ (.cons_cons _ (.cons_cons _ (.refl _)))))), ⟨hZ.1.mono (fun _ _ _ h => .inl h), by rw [rowsG_succ]; exact hZ.2.1.add (fun _ _ _ h => .inl h) (slz_full (.inr ⟨rfl, congrArg (List.map intv) hxe.symm, rfl⟩) (by rw [hxe]) (Nat.le_refl _)), by rw [List.length_append, hZ.2.2.1]; rfl, by dsimp only; omega, hZ.2.2.2.2.mono (fun _ _ _ h => .inl h)⟩⟩, (by dsimp only; omega)⟩
          ·
            replace c3 := of_decide_eq_false c3
            have hxe : x = rowG (nth e i) i 6 := by rw [hx.1]; exact rowG_end hx.2 (by omega)
            refine dv (gyes_none rfl) (q_mv (v := .bool false) rfl) rfl (by decide) (cok1 trivial) ?_
            refine dno rfl (.inl rfl) rfl (by decide) ?_
            refine dno rfl (.inl rfl) rfl (by decide) ?_
            refine dv (gyes_none rfl) (q_pf (v := .bool false) rfl rfl) rfl (by decide) (call_ok rfl) ?_
            refine ⟨_, Wk.refl _ _, ?_⟩
            show awp _ _ _ _ _ _ _
            refine awp_cond_f rfl ?_
            refine awp_exit_wk ?_
            refine ⟨_, Wk.refl _ _, ?_⟩
            show awp _ _ _ _ _ _ _
            refine awp_seq ?_
            refine awp_regs hF ?_
            refine dv (gyes_none rfl) (q_mv (v := .slice (some ⟨be, 0, none⟩) us.length us.length) rfl) rfl (by decide) (cok1 trivial) ?_
            refine dv (gyes_none rfl) (q_mv (v := .slice (some ⟨bx, 0, none⟩) x.length x.length) rfl) rfl (by decide) (cok1 trivial) ?_
            refine x_new (fun b => .slice (some ⟨b, 0, none⟩) 1 1) s16 (gyes_none rfl) (q_buildSliceL (ds := [.slice (some ⟨bx, 0, none⟩) x.length x.length]) [.slice (some ⟨bx, 0, none⟩) x.length x.length] rfl Try.underlying25 Try.sizeOf23 Try.zeroValue23 rfl (by decide) (by decide) ⟨rfl, trivial⟩ (lvsC (s16.live (j := 0) rfl) lvs0) rfl rfl) rfl (by decide) (cok1 trivial) (fun b44 H45 hb47 s46 => ?_)
            refine x_append (l := [()]) (f := fun _ : Unit => Value.slice (some ⟨bx, 0, none⟩) x.length x.length) [] hF s46 (by kernel_rfl) (j := 3) ((us ++ [Value.slice (some ⟨bx, 0, none⟩) x.length x.length]).length) (by simp) (gyes_none rfl) Try.underlying25 Try.underlying25 Try.type23 rfl rfl (by decide) rfl rfl rfl rfl (s46.slj (l := [()]) (f := fun _ : Unit => Value.slice (some ⟨bx, 0, none⟩) x.length x.length) (j := 0) rfl rfl (Nat.le_refl _)) (fun _ => (lc_slice (s46.live (j := 1) rfl))) (by simp) (by rw [List.length_append]; show (2 * (_ + 1) + 1000) * 24 ≤ _; omega) trivial trivial (by decide) rfl rfl (vs' := (us ++ [Value.slice (some ⟨bx, 0, none⟩) x.length x.length]).map idv) (by simp [idv]) (fun b48 H49 hb51 s50 => ⟨?_, ?_⟩)
            · exact trivial
            refine dv (gyes_none rfl) (q_as (v := .slice (some ⟨b48, 0, none⟩) ((us ++ [Value.slice (some ⟨bx, 0, none⟩) x.length x.length]).length) ((us ++ [Value.slice (some ⟨bx, 0, none⟩) x.length x.length]).length)) rfl) rfl (by decide) (cok1 trivial) ?_
            refine ⟨_, Wk.refl _ _, ?_⟩
            show awp _ _ _ _ _ _ _
            refine awp_regs hF ?_
            refine dv (gyes_none rfl) (q_mv (v := .slice (some ⟨ba, 0, none⟩) ((upto i).length) ((upto i).length)) rfl) rfl (by decide) (cok1 trivial) ?_
            refine dv (gyes_none rfl) (q_mv (v := .int .i64 ((i : Nat) : Int)) rfl) rfl (by decide) (cok1 trivial) ?_
            refine x_new (fun b => .slice (some ⟨b, 0, none⟩) 1 1) s50 (gyes_none rfl) (q_buildSliceL (ds := [.int .i64 ((i : Nat) : Int)]) [.int .i64 ((i : Nat) : Int)] rfl Try.underlying23 Try.sizeOf3 Try.zeroValue3 rfl (by decide) (by decide) ⟨rfl, trivial⟩ (lvsC (by exact trivial) lvs0) rfl rfl) rfl (by decide) (cok1 trivial) (fun b52 H53 hb55 s54 => ?_)
            refine x_append (l := [((i : Nat) : Int)]) (f := intv) [] hF s54 (by kernel_rfl) (j := 3) ((upto (i + 1)).length) (by rw [upto_len, upto_len]; rfl) (gyes_none rfl) Try.underlying23 Try.underlying23 Try.type3 rfl rfl (by decide) rfl rfl rfl rfl (s54.slj (l := [((i : Nat) : Int)]) (f := intv) (j := 0) rfl rfl (Nat.le_refl _)) (fun x => lc_scalar rfl) (by simp) (by rw [upto_len]; show (2 * _ + 1000) * 8 ≤ _; omega) trivial trivial (by decide) rfl rfl (vs' := (upto (i + 1)).map intv) (by rw [← upto_succ, List.map_append]; rfl) (fun b56 H57 hb59 s58 => ⟨?_, ?_⟩)
            · exact trivial
            refine dv (gyes_none rfl) (q_as (v := .slice (some ⟨b56, 0, none⟩) ((upto (i + 1)).length) ((upto (i + 1)).length)) rfl) rfl (by decide) (cok1 trivial) ?_
            refine ⟨_, Wk.refl _ _, ?_⟩
            show awp _ _ _ _ _ _ _
            refine awp_regs hF ?_
            refine dv (gyes_none rfl) (q_mv (v := .int .i64 ((i : Nat) : Int)) rfl) rfl (by decide) (cok1 trivial) ?_
            refine dv (gyes_none rfl) (OpQ.cast (v' := .int .i64 ((i + 1 : Nat) : Int)) (q_int rfl rfl rfl) (congrArg _ ((i64_in (by omega)).trans (by first | rfl | omega | (push_cast; rfl))))) rfl (by decide) (cok2 trivial (cconst rfl)) ?_
            refine dv (gyes_none rfl) (q_as (v := .int .i64 ((i + 1 : Nat) : Int)) rfl) rfl (by decide) (cok1 trivial) ?_
            have s60 := s58.freeze (j := 2) rfl
            refine ⟨_, Wk.U [(0, vE), (1, vR), (5, .slice (some ⟨b48, 0, none⟩) ((us ++ [Value.slice (some ⟨bx, 0, none⟩) x.length x.length]).length) ((us ++ [Value.slice (some ⟨bx, 0, none⟩) x.length x.length]).length)), (6, .slice (some ⟨b56, 0, none⟩) ((upto (i + 1)).length) ((upto (i + 1)).length)), (7, .int .i64 (((i + 1) : Nat) : Int))] ⟨rfl, rfl, rfl, rfl, rfl, trivial⟩, ((i + 1), (us ++ [Value.slice (some ⟨bx, 0, none⟩) x.length x.length])), ⟨_, _, _, _, rfl, (s60.sub (.cons _ (.cons _ (.cons_cons _ (.cons_cons _ (.refl _)))))), ⟨hZ.1.mono (fun _ _ _ h => .inl h), by rw [rowsG_succ]; exact hZ.2.1.add (fun _ _ _ h => .inl h) (slz_full (.inr ⟨rfl, congrArg (List.map intv) hxe.symm, rfl⟩) (by rw [hxe]) (Nat.le_refl _)), by rw [List.length_append, hZ.2.2.1]; rfl, by dsimp only; omega, hZ.2.2.2.2.mono (fun _ _ _ h => .inl h)⟩⟩, (by dsimp only; omega)⟩
      ·
        replace c2 := of_decide_eq_false c2
        refine dv (gyes_none rfl) (q_pt (v := .bool false) rfl rfl) rfl (by decide) (call_ok rfl) ?_
        refine ⟨_, Wk.refl _ _, ?_⟩
        show awp _ _ _ _ _ _ _
        refine awp_cond_f rfl ?_
        refine awp_exit_wk ?_
        refine ⟨_, Wk.refl _ _, ?_⟩
        show awp _ _ _ _ _ _ _
        refine awp_seq ?_
        have s61 := s10.freeze (j := 1) rfl
        have hE2 : Sl2Z intv (fun b' vs' sz' => Z1 b' vs' sz' ∨ (b' = be ∧ vs' = us.map idv ∧ sz' = 1)) (Value.slice (some ⟨be, 0, none⟩) us.length us.length) (rowsG e i) := hZ.2.1.sl2 (fun _ _ _ h => .inl h) (.inr ⟨rfl, rfl, rfl⟩) rfl (Nat.le_refl _)
        have hR2 : SlZ intv (fun b' vs' sz' => Z1 b' vs' sz' ∨ (b' = be ∧ vs' = us.map idv ∧ sz' = 1)) vR rs := hZ.2.2.2.2.mono (fun _ _ _ h => .inl h)
        have hsz := rowsG_sized (e := e) hZ.2.2.2.1
        have hgl := rowsG_len e i
        have hOl := rowsG_first_len e i
        have hi14 := hZ.2.2.2.1
        have hul := upto_len i
        have hOv : ∀ x ∈ (firstL (rowsG e i) (upto i)), Valid (rowsG e i) x := fun x hx => onceL_valid x (firstL_mem.1 hx)
        have hOn := firstL_nodup (rowsG e i) (upto i)
        refine awp_regs hF ?_
        refine dv (gyes_none rfl) (q_mv (v := (Value.slice (some ⟨be, 0, none⟩) us.length us.length)) rfl) rfl (by decide) (cok1 trivial) ?_
        refine dv (gyes_none rfl) (q_mv (v := .slice (some ⟨ba, 0, none⟩) ((upto i).length) ((upto i).length)) rfl) rfl (by decide) (cok1 trivial) ?_
        refine x_new (fun b => .slice (some ⟨b, 0, none⟩) (firstL (rowsG e i) (upto i)).length (firstL (rowsG e i) (upto i)).length) s61 (gyes_none rfl) (q_call (Δ := [.cells true ((firstL (rowsG e i) (upto i)).map intv) 1]) Try.call10 rfl (by simp [AObj.wr]) (acalls_fresh intv_sc (first_ok (rowsG e i) _ (hE2.of s61) hsz (upto i) _ (s61.slj (j := 0) rfl (by first | rfl | (simp; done) | omega) (by first | exact Nat.le_refl _ | omega)) (by omega)))) rfl (by decide) (call_ok rfl) (fun b62 H63 hb65 s64 => ?_)
        refine dv (gyes_none rfl) (q_as (v := .slice (some ⟨b62, 0, none⟩) ((firstL (rowsG e i) (upto i)).length) ((firstL (rowsG e i) (upto i)).length)) rfl) rfl (by decide) (cok1 trivial) ?_
        refine ⟨_, Wk.refl _ _, ?_⟩
        show awp _ _ _ _ _ _ _
        refine awp_seq ?_
        refine awp_regs hF ?_
        refine dv (gyes_none rfl) (q_mv (v := (Value.slice (some ⟨be, 0, none⟩) us.length us.length)) rfl) rfl (by decide) (cok1 trivial) ?_
        refine dv (gyes_none rfl) (q_len_sl2 s64 Try.underlying25 hE2 rfl) rfl (by decide) (cok1 trivial) ?_
        refine x_new (fun b => .slice (some ⟨b, 0, none⟩) ((rowsG e i).length) ((rowsG e i).length)) s64 (gyes_none rfl) (q_makeSlice1 (len := ((rowsG e i).length)) (m := ((rowsG e i).length)) rfl Try.underlying23 Try.typeInfo3 rfl Try.zeroValue3 rfl rfl rfl rfl (by omega) (by omega) (by show 8 * _ ≤ _; omega) (vs := (List.replicate ((rowsG e i).length) (0 : Nat)).map i64v) (by simp [i64v])) rfl (by decide) (cok2 trivial trivial) (fun b66 H67 hb69 s68 => ?_)
        refine dv (gyes_none rfl) (q_as (v := .slice (some ⟨b66, 0, none⟩) ((rowsG e i).length) ((rowsG e i).length)) rfl) rfl (by decide) (cok1 trivial) ?_
        refine ⟨_, Wk.refl _ _, ?_⟩
        show awp _ _ _ _ _ _ _
        refine awp_seq ?_
        refine awp_seq ?_
        refine awp_regs hF ?_
        refine dv (gyes_none rfl) (q_as (v := .int .i64 0) rfl) rfl (by decide) (cok1 (cconst rfl)) ?_
        refine ⟨_, Wk.refl _ _, ?_⟩
        show awp _ _ _ _ _ _ _
        refine awp_block ?_
        refine awp_wk (Wk.U [(1, vR), (5, (Value.slice (some ⟨be, 0, none⟩) us.length us.length)), (10, .slice (some ⟨b62, 0, none⟩) ((firstL (rowsG e i) (upto i)).length) ((firstL (rowsG e i) (upto i)).length)), (11, .slice (some ⟨b66, 0, none⟩) ((rowsG e i).length) ((rowsG e i).length)), (12, .int .i64 0)] ⟨rfl, rfl, rfl, rfl, rfl, trivial⟩) ?_
        refine awp_loop (fun ((j, t) : Nat × (List Nat)) st => ∃ (H70 : AHeap), st = ⟨145, U [(1, vR), (5, (Value.slice (some ⟨be, 0, none⟩) us.length us.length)), (10, .slice (some ⟨b62, 0, none⟩) ((firstL (rowsG e i) (upto i)).length) ((firstL (rowsG e i) (upto i)).length)), (11, .slice (some ⟨b66, 0, none⟩) ((rowsG e i).length) ((rowsG e i).length)), (12, .int .i64 ((j : Nat) : Int))], [], H70⟩ ∧ St H0 (none0) (fun b' vs' sz' => Z1 b' vs' sz' ∨ (b' = be ∧ vs' = us.map idv ∧ sz' = 1)) H70 [(b66, .cells true (t.map i64v) 1), (b62, .cells true ((firstL (rowsG e i) (upto i)).map intv) 1), (ba, .cells true ((upto i).map intv) 1)] ∧ (AInv (rowsG e i) (firstL (rowsG e i) (upto i)) j t)) (fun ((j, t) : Nat × (List Nat)) => (firstL (rowsG e i) (upto i)).length - j) (x0 := (0, (List.replicate (rowsG e i).length 0))) ?h0 ?round
        case h0 =>
          exact ⟨_, rfl, s68, AInv.start _ _⟩
        case round =>
          rintro ⟨j, t⟩ _ ⟨H70, rfl, s71, ht⟩
          dsimp only at *
          have htl := ht.len
          refine awp_seq ?_
          refine awp_seq ?_
          refine awp_regs hF ?_
          refine dv (gyes_none rfl) (q_mv (v := .int .i64 ((j : Nat) : Int)) rfl) rfl (by decide) (cok1 trivial) ?_
          refine dv (gyes_none rfl) (q_mv (v := .slice (some ⟨b62, 0, none⟩) ((firstL (rowsG e i) (upto i)).length) ((firstL (rowsG e i) (upto i)).length)) rfl) rfl (by decide) (cok1 trivial) ?_
          refine dv (gyes_none rfl) (q_len_slice Try.underlying23 rfl (s71.rd (j := 1) rfl)) rfl (by decide) (cok1 trivial) ?_
          refine dvb (gyes_none rfl) (q_int rfl rfl rfl) rfl (by decide) (cok2 trivial trivial) (fun c5 => ?_) (fun c5 => ?_)
          ·
            replace c5 := of_decide_eq_true c5
            have hvx := hOv _ (nthI_mem (show j < (firstL (rowsG e i) (upto i)).length by omega))
            have hvx1 := hvx.1
            have hvx2 := hvx.2
            refine ⟨_, Wk.refl _ _, ?_⟩
            show awp _ _ _ _ _ _ _
            refine awp_cond_t rfl ?_
            refine awp_skip_wk ?_
            refine ⟨_, Wk.refl _ _, ?_⟩
            show awp _ _ _ _ _ _ _
            refine awp_seq ?_
            refine awp_block ?_
            refine awp_regs hF ?_
            refine dv (gyes_none rfl) (q_mv (v := .slice (some ⟨b66, 0, none⟩) ((rowsG e i).length) ((rowsG e i).length)) rfl) rfl (by decide) (cok1 trivial) ?_
            refine dv (gyes_none rfl) (q_mv (v := .slice (some ⟨b62, 0, none⟩) ((firstL (rowsG e i) (upto i)).length) ((firstL (rowsG e i) (upto i)).length)) rfl) rfl (by decide) (cok1 trivial) ?_
            refine dv (gyes_none rfl) (q_mv (v := .int .i64 ((j : Nat) : Int)) rfl) rfl (by decide) (cok1 trivial) ?_
            refine dv (gyes_none rfl) (OpQ.cast (v' := .pointer (some ⟨b62, j, none⟩)) (q_index1 (i := j) Try.underlying23 Try.sizeOf3 rfl rfl (by omega) (s71.rd (j := 1) rfl)) (by rw [Nat.zero_add])) rfl (by decide) (cok2 trivial trivial) ?_
            refine dv (gyes_none rfl) (q_load (v := intv (nth (firstL (rowsG e i) (upto i)) j)) Try.isAgg3 rfl (s71.rd (j := 1) rfl) (get_nth (w := 0) (by omega))) rfl (by decide) (cok1 trivial) ?_
            refine dv (gyes_none rfl) (q_mv (v := .int .i64 ((j : Nat) : Int)) rfl) rfl (by decide) (cok1 trivial) ?_
            refine dv (gyes_none rfl) (OpQ.cast (v' := .pointer (some ⟨b66, (nth (firstL (rowsG e i) (upto i)) j).toNat, none⟩)) (q_indexI1 (z := (nth (firstL (rowsG e i) (upto i)) j)) Try.underlying23 Try.sizeOf3 rfl rfl (by omega) (by omega) (s71.rd (j := 0) rfl)) (by rw [Nat.zero_add])) rfl (by decide) (cok2 trivial trivial) ?_
            refine x_store1 [] hF s71 (by kernel_rfl) (gyes_none rfl) (j := 0) (v := i64v j) rfl Try.sizeOf3 rfl rfl rfl (lc_scalar rfl) (by rw [List.length_map]; omega) trivial trivial rfl rfl (F' := [(b66, .cells true ((t.set ((nth (firstL (rowsG e i) (upto i)) j).toNat) j).map i64v) 1), (b62, .cells true ((firstL (rowsG e i) (upto i)).map intv) 1), (ba, .cells true ((upto i).map intv) 1)]) (by simp only [set_map1]; rfl) (fun H72 s73 => ⟨?_, ?_⟩)
            · exact trivial
            refine ⟨_, Wk.refl _ _, ?_⟩
            show awp _ _ _ _ _ _ _
            refine awp_regs hF ?_
            refine dv (gyes_none rfl) (q_mv (v := .int .i64 ((j : Nat) : Int)) rfl) rfl (by decide) (cok1 trivial) ?_
            refine dv (gyes_none rfl) (OpQ.cast (v' := .int .i64 ((j + 1 : Nat) : Int)) (q_int rfl rfl rfl) (congrArg _ ((i64_in (by omega)).trans (by first | rfl | omega | (push_cast; rfl))))) rfl (by decide) (cok2 trivial (cconst rfl)) ?_
            refine dv (gyes_none rfl) (q_as (v := .int .i64 ((j + 1 : Nat) : Int)) rfl) rfl (by decide) (cok1 trivial) ?_
            refine ⟨_, Wk.U [(1, vR), (5, (Value.slice (some ⟨be, 0, none⟩) us.length us.length)), (10, .slice (some ⟨b62, 0, none⟩) ((firstL (rowsG e i) (upto i)).length) ((firstL (rowsG e i) (upto i)).length)), (11, .slice (some ⟨b66, 0, none⟩) ((rowsG e i).length) ((rowsG e i).length)), (12, .int .i64 (((j + 1) : Nat) : Int))] ⟨rfl, rfl, rfl, rfl, rfl, trivial⟩, ((j + 1), (t.set (nth (firstL (rowsG e i) (upto i)) j).toNat j)), ⟨_, rfl, s73, ht.step hOn (by omega) hOv⟩, (by omega)⟩
          ·
            replace c5 := of_decide_eq_false c5
            refine ⟨_, Wk.refl _ _, ?_⟩
            show awp _ _ _ _ _ _ _
            refine awp_cond_f rfl ?_
            refine awp_exit_wk ?_
            refine ⟨_, Wk.refl _ _, ?_⟩
            show awp _ _ _ _ _ _ _
            refine awp_seq ?_
            refine awp_regs hF ?_
            refine dv (gyes_none rfl) (q_mv (v := (Value.slice (some ⟨be, 0, none⟩) us.length us.length)) rfl) rfl (by decide) (cok1 trivial) ?_
            refine dv (gyes_none rfl) (q_mv (v := vR) rfl) rfl (by decide) (cok1 trivial) ?_
            refine dv (gyes_none rfl) (q_mv (v := vR) rfl) rfl (by decide) (cok1 trivial) ?_
            refine dv (gyes_none rfl) (q_len_sl (l := rs) Try.underlying23 (s71.sl hR2) rfl) rfl (by decide) (cok1 trivial) ?_
            refine dv (gyes_none rfl) (OpQ.cast (v' := .int .i64 ((min rs.length 8 : Nat) : Int)) (q_min rfl rfl) (by congr 1; split <;> omega)) rfl (by decide) (cok2 trivial (cconst rfl)) ?_
            obtain ⟨w74, hw74, qw74⟩ := slice_z hR2 (min rs.length 8) (by omega)
            rw [← er] at hw74
            refine dv (gyes_none rfl) (qw74 s71 Try.underlying23 Try.sizeOf3 rfl rfl) rfl (by decide) (cok2 trivial trivial) ?_
            refine x_new (fun b => .slice (some ⟨b, 0, none⟩) (keptL (rowsG e i) rt).length (keptL (rowsG e i) rt).length) s71 (gyes_none rfl) (q_call (Δ := [.cells true ((keptL (rowsG e i) rt).map boolv) 1]) Try.call12 rfl (by simp [AObj.wr]) (acalls_fresh boolv_sc (kept_ok (rowsG e i) _ (hE2.of s71) hsz rt _ (s71.sl hw74) hrt))) rfl (by decide) (call_ok rfl) (fun b75 H76 hb78 s77 => ?_)
            refine dv (gyes_none rfl) (q_as (v := .slice (some ⟨b75, 0, none⟩) ((keptL (rowsG e i) rt).length) ((keptL (rowsG e i) rt).length)) rfl) rfl (by decide) (cok1 trivial) ?_
            refine ⟨_, Wk.refl _ _, ?_⟩
            show awp _ _ _ _ _ _ _
            refine awp_seq ?_
            refine awp_seq ?_
            refine awp_regs hF ?_
            refine dv (gyes_none rfl) (q_as (v := .int .i64 0) rfl) rfl (by decide) (cok1 (cconst rfl)) ?_
            refine ⟨_, Wk.refl _ _, ?_⟩
            show awp _ _ _ _ _ _ _
            refine awp_block ?_
            refine awp_wk (Wk.U [(5, (Value.slice (some ⟨be, 0, none⟩) us.length us.length)), (10, .slice (some ⟨b62, 0, none⟩) ((firstL (rowsG e i) (upto i)).length) ((firstL (rowsG e i) (upto i)).length)), (11, .slice (some ⟨b66, 0, none⟩) ((rowsG e i).length) ((rowsG e i).length)), (13, .slice (some ⟨b75, 0, none⟩) ((keptL (rowsG e i) rt).length) ((keptL (rowsG e i) rt).length)), (14, .int .i64 0)] ⟨rfl, rfl, rfl, rfl, rfl, trivial⟩) ?_
            refine awp_loop (fun (p : Nat) st => ∃ (H79 : AHeap), st = ⟨145, U [(5, (Value.slice (some ⟨be, 0, none⟩) us.length us.length)), (10, .slice (some ⟨b62, 0, none⟩) ((firstL (rowsG e i) (upto i)).length) ((firstL (rowsG e i) (upto i)).length)), (11, .slice (some ⟨b66, 0, none⟩) ((rowsG e i).length) ((rowsG e i).length)), (13, .slice (some ⟨b75, 0, none⟩) ((keptL (rowsG e i) rt).length) ((keptL (rowsG e i) rt).length)), (14, .int .i64 ((p : Nat) : Int))], [], H79⟩ ∧ St H0 (none0) (fun b' vs' sz' => Z1 b' vs' sz' ∨ (b' = be ∧ vs' = us.map idv ∧ sz' = 1)) H79 [(b75, .cells true ((keptL (rowsG e i) rt).map boolv) 1), (b66, .cells true (t.map i64v) 1), (b62, .cells true ((firstL (rowsG e i) (upto i)).map intv) 1), (ba, .cells true ((upto i).map intv) 1)]) (fun (p : Nat) => (rowsG e i).length - p) (x0 := (0)) ?h0 ?round
            case h0 =>
              exact ⟨_, rfl, s77⟩
            case round =>
              rintro p _ ⟨H79, rfl, s80⟩
              refine awp_seq ?_
              refine awp_seq ?_
              refine awp_regs hF ?_
              refine dv (gyes_none rfl) (q_mv (v := .int .i64 ((p : Nat) : Int)) rfl) rfl (by decide) (cok1 trivial) ?_
              refine dv (gyes_none rfl) (q_mv (v := (Value.slice (some ⟨be, 0, none⟩) us.length us.length)) rfl) rfl (by decide) (cok1 trivial) ?_
              refine dv (gyes_none rfl) (q_len_sl2 s80 Try.underlying25 hE2 rfl) rfl (by decide) (cok1 trivial) ?_
              refine dvb (gyes_none rfl) (q_int rfl rfl rfl) rfl (by decide) (cok2 trivial trivial) (fun c6 => ?_) (fun c6 => ?_)
              ·
                replace c6 := of_decide_eq_true c6
                have hpl : p < i := by omega
                have hrl : (nth (rowsG e i) p).length ≤ 1000000 := hsz.2 _ (nthI_mem (by omega))
                refine ⟨_, Wk.refl _ _, ?_⟩
                show awp _ _ _ _ _ _ _
                refine awp_cond_t rfl ?_
                refine awp_skip_wk ?_
                refine ⟨_, Wk.refl _ _, ?_⟩
                show awp _ _ _ _ _ _ _
                refine awp_seq ?_
                refine awp_block ?_
                refine awp_seq ?_
                refine awp_regs hF ?_
                refine dv (gyes_none rfl) (q_as (v := .int .i64 0) rfl) rfl (by decide) (cok1 (cconst rfl)) ?_
                refine ⟨_, Wk.refl _ _, ?_⟩
                show awp _ _ _ _ _ _ _
                refine awp_block ?_
                refine awp_wk (Wk.U [(5, (Value.slice (some ⟨be, 0, none⟩) us.length us.length)), (10, .slice (some ⟨b62, 0, none⟩) ((firstL (rowsG e i) (upto i)).length) ((firstL (rowsG e i) (upto i)).length)), (11, .slice (some ⟨b66, 0, none⟩) ((rowsG e i).length) ((rowsG e i).length)), (13, .slice (some ⟨b75, 0, none⟩) ((keptL (rowsG e i) rt).length) ((keptL (rowsG e i) rt).length)), (14, .int .i64 ((p : Nat) : Int)), (15, .int .i64 0)] ⟨rfl, rfl, rfl, rfl, rfl, rfl, trivial⟩) ?_
                refine awp_loop (fun (q : Nat) st => ∃ (H81 : AHeap), st = ⟨145, U [(5, (Value.slice (some ⟨be, 0, none⟩) us.length us.length)), (10, .slice (some ⟨b62, 0, none⟩) ((firstL (rowsG e i) (upto i)).length) ((firstL (rowsG e i) (upto i)).length)), (11, .slice (some ⟨b66, 0, none⟩) ((rowsG e i).length) ((rowsG e i).length)), (13, .slice (some ⟨b75, 0, none⟩) ((keptL (rowsG e i) rt).length) ((keptL (rowsG e i) rt).length)), (14, .int .i64 ((p : Nat) : Int)), (15, .int .i64 ((q : Nat) : Int))], [], H81⟩ ∧ St H0 (none0) (fun b' vs' sz' => Z1 b' vs' sz' ∨ (b' = be ∧ vs' = us.map idv ∧ sz' = 1)) H81 [(b75, .cells true ((keptL (rowsG e i) rt).map boolv) 1), (b66, .cells true (t.map i64v) 1), (b62, .cells true ((firstL (rowsG e i) (upto i)).map intv) 1), (ba, .cells true ((upto i).map intv) 1)]) (fun (q : Nat) => (nth (rowsG e i) p).length - q) (x0 := (0)) ?h0 ?round
                case h0 =>
                  exact ⟨_, rfl, s80⟩
                case round =>
                  rintro q _ ⟨H81, rfl, s82⟩
                  refine awp_seq ?_
                  refine awp_seq ?_
                  refine awp_regs hF ?_
                  refine dv (gyes_none rfl) (q_mv (v := .int .i64 ((q : Nat) : Int)) rfl) rfl (by decide) (cok1 trivial) ?_
                  refine dv (gyes_none rfl) (q_mv (v := (Value.slice (some ⟨be, 0, none⟩) us.length us.length)) rfl) rfl (by decide) (cok1 trivial) ?_
                  refine dv (gyes_none rfl) (q_mv (v := .int .i64 ((p : Nat) : Int)) rfl) rfl (by decide) (cok1 trivial) ?_
                  refine dv (gyes_none rfl) (q_index_sl2 s82 Try.underlying25 Try.sizeOf23 hE2 rfl rfl (by omega)) rfl (by decide) (cok2 trivial trivial) ?_
                  obtain ⟨u83, hu83, qu83⟩ := Sl2Z.elem hE2 (i := p) (by omega)
                  refine dv (gyes_none rfl) (qu83 s82 Try.isAgg23 rfl) rfl (by decide) (cok1 trivial) ?_
                  refine dv (gyes_none rfl) (q_len_sl (l := nth (rowsG e i) p) Try.underlying23 (s82.sl hu83) rfl) rfl (by decide) (cok1 trivial) ?_
                  refine dvb (gyes_none rfl) (q_int rfl rfl rfl) rfl (by decide) (cok2 trivial trivial) (fun c7 => ?_) (fun c7 => ?_)
                  ·
                    replace c7 := of_decide_eq_true c7
                    have hym : (nth (nth (rowsG e i) p) q) ∈ nth (rowsG e i) p := nthI_mem (by omega)
                    have hy0 : ((p : Nat) : Int) < (nth (nth (rowsG e i) p) q) := rowsG_lt (e := e) (n := i) (x := ((p : Nat) : Int)) (by omega) hym
                    have hkel := keptL_len (rowsG e i) rt
                    refine ⟨_, Wk.refl _ _, ?_⟩
                    show awp _ _ _ _ _ _ _
                    refine awp_cond_t rfl ?_
                    refine awp_skip_wk ?_
                    refine ⟨_, Wk.refl _ _, ?_⟩
                    show awp _ _ _ _ _ _ _
                    refine awp_seq ?_
                    refine awp_block ?_
                    refine awp_seq ?_
                    refine awp_regs hF ?_
                    refine dv (gyes_none rfl) (q_mv (v := (Value.slice (some ⟨be, 0, none⟩) us.length us.length)) rfl) rfl (by decide) (cok1 trivial) ?_
                    refine dv (gyes_none rfl) (q_mv (v := .int .i64 ((p : Nat) : Int)) rfl) rfl (by decide) (cok1 trivial) ?_
                    refine dv (gyes_none rfl) (q_index_sl2 s82 Try.underlying25 Try.sizeOf23 hE2 rfl rfl (by omega)) rfl (by decide) (cok2 trivial trivial) ?_
                    obtain ⟨u84, hu84, qu84⟩ := Sl2Z.elem hE2 (i := p) (by omega)
                    refine dv (gyes_none rfl) (qu84 s82 Try.isAgg23 rfl) rfl (by decide) (cok1 trivial) ?_
                    refine dv (gyes_none rfl) (q_mv (v := .int .i64 ((q : Nat) : Int)) rfl) rfl (by decide) (cok1 trivial) ?_
                    refine dv (gyes_none rfl) (q_index_sl (l := nth (rowsG e i) p) (i := q) Try.underlying23 Try.sizeOf3 (s82.sl hu84) rfl rfl (by omega)) rfl (by decide) (cok2 trivial trivial) ?_
                    refine dv (gyes_none rfl) (q_load_sl (l := nth (rowsG e i) p) (i := q) Try.isAgg3 (s82.sl hu84) rfl (by omega)) rfl (by decide) (cok1 trivial) ?_
                    refine dv (gyes_none rfl) (q_as (v := .int .i64 (nth (nth (rowsG e i) p) q)) rfl) rfl (by decide) (cok1 trivial) ?_
                    refine ⟨_, Wk.refl _ _, ?_⟩
                    show awp _ _ _ _ _ _ _
                    refine awp_seq ?_
                    refine awp_regt hF hM (by kernel_rfl) (by kernel_rfl) ?_
                    refine dv (gyes_none rfl) (q_mv (v := .int .i64 (nth (nth (rowsG e i) p) q)) rfl) rfl (by decide) (cok1 trivial) ?_
                    refine dv (gyes_none rfl) (q_mv (v := (Value.slice (some ⟨be, 0, none⟩) us.length us.length)) rfl) rfl (by decide) (cok1 trivial) ?_
                    refine dv (gyes_none rfl) (q_len_sl2 s82 Try.underlying25 hE2 rfl) rfl (by decide) (cok1 trivial) ?_
                    refine dvb (gyes_none rfl) (q_int rfl rfl rfl) rfl (by decide) (cok2 trivial trivial) (fun c8 => ?_) (fun c8 => ?_)
                    ·
                      replace c8 := of_decide_eq_true c8
                      have hvy : Valid (rowsG e i) (nth (nth (rowsG e i) p) q) := ⟨by omega, by omega⟩
                      have hlt := ht.lt (by omega) hpl hym (by omega)
                      refine dv (gyes_none rfl) (q_mv (v := .bool true) rfl) rfl (by decide) (cok1 trivial) ?_
                      refine dv (gyes_some rfl rfl) (q_mv (v := .slice (some ⟨b66, 0, none⟩) ((rowsG e i).length) ((rowsG e i).length)) rfl) rfl (by decide) (cok1 trivial) ?_
                      refine dv (gyes_some rfl rfl) (q_mv (v := .int .i64 (nth (nth (rowsG e i) p) q)) rfl) rfl (by decide) (cok1 trivial) ?_
                      refine dv (gyes_some rfl rfl) (OpQ.cast (v' := .pointer (some ⟨b66, (nth (nth (rowsG e i) p) q).toNat, none⟩)) (q_indexI1 (z := (nth (nth (rowsG e i) p) q)) Try.underlying23 Try.sizeOf3 rfl rfl (by omega) (by omega) (s82.rd (j := 1) rfl)) (by rw [Nat.zero_add])) rfl (by decide) (cok2 trivial trivial) ?_
                      refine dv (gyes_some rfl rfl) (q_load (v := i64v (nth t ((nth (nth (rowsG e i) p) q).toNat))) Try.isAgg3 rfl (s82.rd (j := 1) rfl) (get_nth (w := 0) (by omega))) rfl (by decide) (cok1 trivial) ?_
                      refine dv (gyes_some rfl rfl) (q_mv (v := .slice (some ⟨b66, 0, none⟩) ((rowsG e i).length) ((rowsG e i).length)) rfl) rfl (by decide) (cok1 trivial) ?_
                      refine dv (gyes_some rfl rfl) (q_mv (v := .int .i64 ((p : Nat) : Int)) rfl) rfl (by decide) (cok1 trivial) ?_
                      refine dv (gyes_some rfl rfl) (OpQ.cast (v' := .pointer (some ⟨b66, p, none⟩)) (q_index1 (i := p) Try.underlying23 Try.sizeOf3 rfl rfl (by omega) (s82.rd (j := 1) rfl)) (by rw [Nat.zero_add])) rfl (by decide) (cok2 trivial trivial) ?_
                      refine dv (gyes_some rfl rfl) (q_load (v := i64v (nth t p)) Try.isAgg3 rfl (s82.rd (j := 1) rfl) (get_nth (w := 0) (by omega))) rfl (by decide) (cok1 trivial) ?_
                      refine dv (gyes_some rfl rfl) (OpQ.cast (v' := .bool false) (q_int rfl rfl rfl) (congrArg Value.bool (decide_eq_false (by omega)))) rfl (by decide) (cok2 trivial trivial) ?_
                      refine dv (gyes_some rfl rfl) (q_mv (v := .bool false) rfl) rfl (by decide) (cok1 trivial) ?_
                      refine dv (gyes_some rfl rfl) (q_mv (v := .slice (some ⟨b75, 0, none⟩) ((keptL (rowsG e i) rt).length) ((keptL (rowsG e i) rt).length)) rfl) rfl (by decide) (cok1 trivial) ?_
                      refine dv (gyes_some rfl rfl) (q_mv (v := .int .i64 ((p : Nat) : Int)) rfl) rfl (by decide) (cok1 trivial) ?_
                      refine dv (gyes_some rfl rfl) (OpQ.cast (v' := .pointer (some ⟨b75, p, none⟩)) (q_index1 (i := p) Try.underlying32 Try.sizeOf4 rfl rfl (by omega) (s82.rd (j := 0) rfl)) (by rw [Nat.zero_add])) rfl (by decide) (cok2 trivial trivial) ?_
                      refine dvb (gyes_some rfl rfl) (q_load (v := boolv (nth (keptL (rowsG e i) rt) p)) Try.isAgg4 rfl (s82.rd (j := 0) rfl) (get_nth (w := 0) (by omega))) rfl (by decide) (cok1 trivial) (fun c9 => ?_) (fun c9 => ?_)
                      ·
                        refine dv (gyes_some rfl rfl) (q_mv (v := .bool true) rfl) rfl (by decide) (cok1 trivial) ?_
                        refine dv (gyes_some rfl rfl) (q_mv (v := .slice (some ⟨b75, 0, none⟩) ((keptL (rowsG e i) rt).length) ((keptL (rowsG e i) rt).length)) rfl) rfl (by decide) (cok1 trivial) ?_
                        refine dv (gyes_some rfl rfl) (q_mv (v := .int .i64 (nth (nth (rowsG e i) p) q)) rfl) rfl (by decide) (cok1 trivial) ?_
                        refine dv (gyes_some rfl rfl) (OpQ.cast (v' := .pointer (some ⟨b75, (nth (nth (rowsG e i) p) q).toNat, none⟩)) (q_indexI1 (z := (nth (nth (rowsG e i) p) q)) Try.underlying32 Try.sizeOf4 rfl rfl (by omega) (by omega) (s82.rd (j := 0) rfl)) (by rw [Nat.zero_add])) rfl (by decide) (cok2 trivial trivial) ?_
                        refine dvb (gyes_some rfl rfl) (q_load (v := boolv (nth (keptL (rowsG e i) rt) ((nth (nth (rowsG e i) p) q).toNat))) Try.isAgg4 rfl (s82.rd (j := 0) rfl) (get_nth (w := 0) (by omega))) rfl (by decide) (cok1 trivial) (fun c10 => ?_) (fun c10 => ?_)
                        ·
                          refine dv (gyes_some rfl rfl) (q_not (b := true) rfl) rfl (by decide) (cok1 trivial) ?_
                          refine dv (gyes_some rfl rfl) (q_pt (v := .bool false) rfl rfl) rfl (by decide) (call_ok rfl) ?_
                          refine dv (gyes_some rfl rfl) (q_pf (v := .bool false) rfl rfl) rfl (by decide) (call_ok rfl) ?_
                          refine dv (gyes_none rfl) (q_pt (v := .bool false) rfl rfl) rfl (by decide) (call_ok rfl) ?_
                          refine ⟨_, Wk.refl _ _, ?_⟩
                          show awp _ _ _ _ _ _ _
                          refine awp_cond_f rfl ?_
                          refine awp_skip_wk ?_
                          refine ⟨_, Wk.refl _ _, ?_⟩
                          show awp _ _ _ _ _ _ _
                          refine awp_regs hF ?_
                          refine dv (gyes_none rfl) (q_mv (v := .int .i64 ((q : Nat) : Int)) rfl) rfl (by decide) (cok1 trivial) ?_
                          refine dv (gyes_none rfl) (OpQ.cast (v' := .int .i64 ((q + 1 : Nat) : Int)) (q_int rfl rfl rfl) (congrArg _ ((i64_in (by omega)).trans (by first | rfl | omega | (push_cast; rfl))))) rfl (by decide) (cok2 trivial (cconst rfl)) ?_
                          refine dv (gyes_none rfl) (q_as (v := .int .i64 ((q + 1 : Nat) : Int)) rfl) rfl (by decide) (cok1 trivial) ?_
                          refine ⟨_, Wk.U [(5, (Value.slice (some ⟨be, 0, none⟩) us.length us.length)), (10, .slice (some ⟨b62, 0, none⟩) ((firstL (rowsG e i) (upto i)).length) ((firstL (rowsG e i) (upto i)).length)), (11, .slice (some ⟨b66, 0, none⟩) ((rowsG e i).length) ((rowsG e i).length)), (13, .slice (some ⟨b75, 0, none⟩) ((keptL (rowsG e i) rt).length) ((keptL (rowsG e i) rt).length)), (14, .int .i64 ((p : Nat) : Int)), (15, .int .i64 (((q + 1) : Nat) : Int))] ⟨rfl, rfl, rfl, rfl, rfl, rfl, trivial⟩, (q + 1), ⟨_, rfl, s82⟩, (by omega)⟩
                        ·
                          exact (kept_step (by omega) (by assumption) hym hvy c10).elim --closed
                      ·
                        refine dv (gyes_some rfl rfl) (q_mv (v := .bool false) rfl) rfl (by decide) (cok1 trivial) ?_
                        refine dno rfl (.inl rfl) rfl (by decide) ?_
                        refine dno rfl (.inl rfl) rfl (by decide) ?_
                        refine dno rfl (.inl rfl) rfl (by decide) ?_
                        refine dno rfl (.inl rfl) rfl (by decide) ?_
                        refine dno rfl (.inl rfl) rfl (by decide) ?_
                        refine dv (gyes_some rfl rfl) (q_pf (v := .bool false) rfl rfl) rfl (by decide) (call_ok rfl) ?_
                        refine dv (gyes_some rfl rfl) (q_pf (v := .bool false) rfl rfl) rfl (by decide) (call_ok rfl) ?_
                        refine dv (gyes_none rfl) (q_pt (v := .bool false) rfl rfl) rfl (by decide) (call_ok rfl) ?_
                        refine ⟨_, Wk.refl _ _, ?_⟩
                        show awp _ _ _ _ _ _ _
                        refine awp_cond_f rfl ?_
                        refine awp_skip_wk ?_
                        refine ⟨_, Wk.refl _ _, ?_⟩
                        show awp _ _ _ _ _ _ _
                        refine awp_regs hF ?_
                        refine dv (gyes_none rfl) (q_mv (v := .int .i64 ((q : Nat) : Int)) rfl) rfl (by decide) (cok1 trivial) ?_
                        refine dv (gyes_none rfl) (OpQ.cast (v' := .int .i64 ((q + 1 : Nat) : Int)) (q_int rfl rfl rfl) (congrArg _ ((i64_in (by omega)).trans (by first | rfl | omega | (push_cast; rfl))))) rfl (by decide) (cok2 trivial (cconst rfl)) ?_
                        refine dv (gyes_none rfl) (q_as (v := .int .i64 ((q + 1 : Nat) : Int)) rfl) rfl (by decide) (cok1 trivial) ?_
                        refine ⟨_, Wk.U [(5, (Value.slice (some ⟨be, 0, none⟩) us.length us.length)), (10, .slice (some ⟨b62, 0, none⟩) ((firstL (rowsG e i) (upto i)).length) ((firstL (rowsG e i) (upto i)).length)), (11, .slice (some ⟨b66, 0, none⟩) ((rowsG e i).length) ((rowsG e i).length)), (13, .slice (some ⟨b75, 0, none⟩) ((keptL (rowsG e i) rt).length) ((keptL (rowsG e i) rt).length)), (14, .int .i64 ((p : Nat) : Int)), (15, .int .i64 (((q + 1) : Nat) : Int))] ⟨rfl, rfl, rfl, rfl, rfl, rfl, trivial⟩, (q + 1), ⟨_, rfl, s82⟩, (by omega)⟩
                    ·
                      replace c8 := of_decide_eq_false c8
                      refine dv (gyes_none rfl) (q_mv (v := .bool false) rfl) rfl (by decide) (cok1 trivial) ?_
                      refine dno rfl (.inl rfl) rfl (by decide) ?_
                      refine dno rfl (.inl rfl) rfl (by decide) ?_
                      refine dno rfl (.inl rfl) rfl (by decide) ?_
                      refine dno rfl (.inl rfl) rfl (by decide) ?_
                      refine dno rfl (.inl rfl) rfl (by decide) ?_
                      refine dno rfl (.inl rfl) rfl (by decide) ?_
                      refine dno rfl (.inl rfl) rfl (by decide) ?_
                      refine dno rfl (.inl rfl) rfl (by decide) ?_
                      refine dno rfl (.inl rfl) rfl (by decide) ?_
                      refine dno rfl (.inl rfl) rfl (by decide) ?_
                      refine dno rfl (.inr rfl) rfl (by decide) ?_
                      refine dno rfl (.inr rfl) rfl (by decide) ?_
                      refine dno rfl (.inr rfl) rfl (by decide) ?_
                      refine dno rfl (.inr rfl) rfl (by decide) ?_
                      refine dno rfl (.inr rfl) rfl (by decide) ?_
                      refine dno rfl (.inr rfl) rfl (by decide) ?_
                      refine dno rfl (.inr rfl) rfl (by decide) ?_
                      refine dno rfl (.inr rfl) rfl (by decide) ?_
                      refine dno rfl (.inr rfl) rfl (by decide) ?_
                      refine dno rfl (.inr rfl) rfl (by decide) ?_
                      refine dno rfl (.inr rfl) rfl (by decide) ?_
                      refine dno rfl (.inl rfl) rfl (by decide) ?_
                      refine dv (gyes_none rfl) (q_pf (v := .bool false) rfl rfl) rfl (by decide) (call_ok rfl) ?_
                      refine ⟨_, Wk.refl _ _, ?_⟩
                      show awp _ _ _ _ _ _ _
                      refine awp_cond_f rfl ?_
                      refine awp_skip_wk ?_
                      refine ⟨_, Wk.refl _ _, ?_⟩
                      show awp _ _ _ _ _ _ _
                      refine awp_regs hF ?_
                      refine dv (gyes_none rfl) (q_mv (v := .int .i64 ((q : Nat) : Int)) rfl) rfl (by decide) (cok1 trivial) ?_
                      refine dv (gyes_none rfl) (OpQ.cast (v' := .int .i64 ((q + 1 : Nat) : Int)) (q_int rfl rfl rfl) (congrArg _ ((i64_in (by omega)).trans (by first | rfl | omega | (push_cast; rfl))))) rfl (by decide) (cok2 trivial (cconst rfl)) ?_
                      refine dv (gyes_none rfl) (q_as (v := .int .i64 ((q + 1 : Nat) : Int)) rfl) rfl (by decide) (cok1 trivial) ?_
                      refine ⟨_, Wk.U [(5, (Value.slice (some ⟨be, 0, none⟩) us.length us.length)), (10, .slice (some ⟨b62, 0, none⟩) ((firstL (rowsG e i) (upto i)).length) ((firstL (rowsG e i) (upto i)).length)), (11, .slice (some ⟨b66, 0, none⟩) ((rowsG e i).length) ((rowsG e i).length)), (13, .slice (some ⟨b75, 0, none⟩) ((keptL (rowsG e i) rt).length) ((keptL (rowsG e i) rt).length)), (14, .int .i64 ((p : Nat) : Int)), (15, .int .i64 (((q + 1) : Nat) : Int))] ⟨rfl, rfl, rfl, rfl, rfl, rfl, trivial⟩, (q + 1), ⟨_, rfl, s82⟩, (by omega)⟩
                  ·
                    replace c7 := of_decide_eq_false c7
                    refine ⟨_, Wk.refl _ _, ?_⟩
                    show awp _ _ _ _ _ _ _
                    refine awp_cond_f rfl ?_
                    refine awp_exit_wk ?_
                    refine ⟨_, Wk.refl _ _, ?_⟩
                    show awp _ _ _ _ _ _ _
                    refine awp_regs hF ?_
                    refine dv (gyes_none rfl) (q_mv (v := .int .i64 ((p : Nat) : Int)) rfl) rfl (by decide) (cok1 trivial) ?_
                    refine dv (gyes_none rfl) (OpQ.cast (v' := .int .i64 ((p + 1 : Nat) : Int)) (q_int rfl rfl rfl) (congrArg _ ((i64_in (by omega)).trans (by first | rfl | omega | (push_cast; rfl))))) rfl (by decide) (cok2 trivial (cconst rfl)) ?_
                    refine dv (gyes_none rfl) (q_as (v := .int .i64 ((p + 1 : Nat) : Int)) rfl) rfl (by decide) (cok1 trivial) ?_
                    refine ⟨_, Wk.U [(5, (Value.slice (some ⟨be, 0, none⟩) us.length us.length)), (10, .slice (some ⟨b62, 0, none⟩) ((firstL (rowsG e i) (upto i)).length) ((firstL (rowsG e i) (upto i)).length)), (11, .slice (some ⟨b66, 0, none⟩) ((rowsG e i).length) ((rowsG e i).length)), (13, .slice (some ⟨b75, 0, none⟩) ((keptL (rowsG e i) rt).length) ((keptL (rowsG e i) rt).length)), (14, .int .i64 (((p + 1) : Nat) : Int))] ⟨rfl, rfl, rfl, rfl, rfl, trivial⟩, (p + 1), ⟨_, rfl, s82⟩, (by omega)⟩
              ·
                replace c6 := of_decide_eq_false c6
                refine ⟨_, Wk.refl _ _, ?_⟩
                show awp _ _ _ _ _ _ _
                refine awp_cond_f rfl ?_
                refine awp_exit_wk ?_
                refine ⟨_, Wk.refl _ _, ?_⟩
                show awp _ _ _ _ _ _ _
                refine awp_seq ?_
                refine awp_regs hF ?_
                refine dv (gyes_none rfl) (q_mv (v := .slice (some ⟨b62, 0, none⟩) ((firstL (rowsG e i) (upto i)).length) ((firstL (rowsG e i) (upto i)).length)) rfl) rfl (by decide) (cok1 trivial) ?_
                refine dv (gyes_none rfl) (q_len_slice Try.underlying23 rfl (s80.rd (j := 2) rfl)) rfl (by decide) (cok1 trivial) ?_
                refine dv (gyes_none rfl) (q_mv (v := (Value.slice (some ⟨be, 0, none⟩) us.length us.length)) rfl) rfl (by decide) (cok1 trivial) ?_
                refine dv (gyes_none rfl) (q_len_sl2 s80 Try.underlying25 hE2 rfl) rfl (by decide) (cok1 trivial) ?_
                refine dv (gyes_none rfl) (OpQ.cast (v' := .bool true) (q_int rfl rfl rfl) (congrArg Value.bool (by rw [hOl, hgl]; exact beq_self_eq_true _))) rfl (by decide) (cok2 trivial trivial) ?_
                refine dv (gyes_none rfl) (q_as (v := .bool true) rfl) rfl (by decide) (cok1 trivial) ?_
                refine ⟨_, Wk.refl _ _, ?_⟩
                show awp _ _ _ _ _ _ _
                refine awp_ret_wk ?_
                refine ⟨_, Wk.refl _ _, ?_⟩
                repeat (with_reducible first | refine then_ret ?_ | refine blk_ret ?_ | refine then_exit ?_ | refine blk_exit ?_ | refine blk_exit' (by decide) ?_ | refine blk_normal ?_ | refine then_normal ?_ | refine retq_ret ?_ | refine retq_normal ?_ | refine ng_normal ?_ | refine ng_ret ?_ | refine ng_exit ?_)
                exact ret_none (v := .bool true) rfl s80.kp (.tmp rfl .nil) rfl rfl ⟨rfl, rfl⟩
    ·
      replace c1 := of_decide_eq_false c1
      refine dv (gyes_none rfl) (q_mv (v := .bool false) rfl) rfl (by decide) (cok1 trivial) ?_
      refine dno rfl (.inl rfl) rfl (by decide) ?_
      refine dno rfl (.inl rfl) rfl (by decide) ?_
      refine dv (gyes_none rfl) (q_pf (v := .bool false) rfl rfl) rfl (by decide) (call_ok rfl) ?_
      refine ⟨_, Wk.refl _ _, ?_⟩
      show awp _ _ _ _ _ _ _
      refine awp_cond_f rfl ?_
      refine awp_exit_wk ?_
      refine ⟨_, Wk.refl _ _, ?_⟩
      show awp _ _ _ _ _ _ _
      refine awp_seq ?_
      have s85 := s10.freeze (j := 1) rfl
      have hE2 : Sl2Z intv (fun b' vs' sz' => Z1 b' vs' sz' ∨ (b' = be ∧ vs' = us.map idv ∧ sz' = 1)) (Value.slice (some ⟨be, 0, none⟩) us.length us.length) (rowsG e i) := hZ.2.1.sl2 (fun _ _ _ h => .inl h) (.inr ⟨rfl, rfl, rfl⟩) rfl (Nat.le_refl _)
      have hR2 : SlZ intv (fun b' vs' sz' => Z1 b' vs' sz' ∨ (b' = be ∧ vs' = us.map idv ∧ sz' = 1)) vR rs := hZ.2.2.2.2.mono (fun _ _ _ h => .inl h)
      have hsz := rowsG_sized (e := e) hZ.2.2.2.1
      have hgl := rowsG_len e i
      have hOl := rowsG_first_len e i
      have hi14 := hZ.2.2.2.1
      have hul := upto_len i
      have hOv : ∀ x ∈ (firstL (rowsG e i) (upto i)), Valid (rowsG e i) x := fun x hx => onceL_valid x (firstL_mem.1 hx)
      have hOn := firstL_nodup (rowsG e i) (upto i)
      refine awp_regs hF ?_
      refine dv (gyes_none rfl) (q_mv (v := (Value.slice (some ⟨be, 0, none⟩) us.length us.length)) rfl) rfl (by decide) (cok1 trivial) ?_
      refine dv (gyes_none rfl) (q_mv (v := .slice (some ⟨ba, 0, none⟩) ((upto i).length) ((upto i).length)) rfl) rfl (by decide) (cok1 trivial) ?_
      refine x_new (fun b => .slice (some ⟨b, 0, none⟩) (firstL (rowsG e i) (upto i)).length (firstL (rowsG e i) (upto i)).length) s85 (gyes_none rfl) (q_call (Δ := [.cells true ((firstL (rowsG e i) (upto i)).map intv) 1]) Try.call10 rfl (by simp [AObj.wr]) (acalls_fresh intv_sc (first_ok (rowsG e i) _ (hE2.of s85) hsz (upto i) _ (s85.slj (j := 0) rfl (by first | rfl | (simp; done) | omega) (by first | exact Nat.le_refl _ | omega)) (by omega)))) rfl (by decide) (call_ok rfl) (fun b86 H87 hb89 s88 => ?_)
      refine dv (gyes_none rfl) (q_as (v := .slice (some ⟨b86, 0, none⟩) ((firstL (rowsG e i) (upto i)).length) ((firstL (rowsG e i) (upto i)).length)) rfl) rfl (by decide) (cok1 trivial) ?_
      refine ⟨_, Wk.refl _ _, ?_⟩
      show awp _ _ _ _ _ _ _
      refine awp_seq ?_
      refine awp_regs hF ?_
      refine dv (gyes_none rfl) (q_mv (v := (Value.slice (some ⟨be, 0, none⟩) us.length us.length)) rfl) rfl (by decide) (cok1 trivial) ?_
      refine dv (gyes_none rfl) (q_len_sl2 s88 Try.underlying25 hE2 rfl) rfl (by decide) (cok1 trivial) ?_
      refine x_new (fun b => .slice (some ⟨b, 0, none⟩) ((rowsG e i).length) ((rowsG e i).length)) s88 (gyes_none rfl) (q_makeSlice1 (len := ((rowsG e i).length)) (m := ((rowsG e i).length)) rfl Try.underlying23 Try.typeInfo3 rfl Try.zeroValue3 rfl rfl rfl rfl (by omega) (by omega) (by show 8 * _ ≤ _; omega) (vs := (List.replicate ((rowsG e i).length) (0 : Nat)).map i64v) (by simp [i64v])) rfl (by decide) (cok2 trivial trivial) (fun b90 H91 hb93 s92 => ?_)
      refine dv (gyes_none rfl) (q_as (v := .slice (some ⟨b90, 0, none⟩) ((rowsG e i).length) ((rowsG e i).length)) rfl) rfl (by decide) (cok1 trivial) ?_
      refine ⟨_, Wk.refl _ _, ?_⟩
      show awp _ _ _ _ _ _ _
      refine awp_seq ?_
      refine awp_seq ?_
      refine awp_regs hF ?_
      refine dv (gyes_none rfl) (q_as (v := .int .i64 0) rfl) rfl (by decide) (cok1 (cconst rfl)) ?_
      refine ⟨_, Wk.refl _ _, ?_⟩
      show awp _ _ _ _ _ _ _
      refine awp_block ?_
      refine awp_wk (Wk.U [(1, vR), (5, (Value.slice (some ⟨be, 0, none⟩) us.length us.length)), (10, .slice (some ⟨b86, 0, none⟩) ((firstL (rowsG e i) (upto i)).length) ((firstL (rowsG e i) (upto i)).length)), (11, .slice (some ⟨b90, 0, none⟩) ((rowsG e i).length) ((rowsG e i).length)), (12, .int .i64 0)] ⟨rfl, rfl, rfl, rfl, rfl, trivial⟩) ?_
      refine awp_loop (fun ((j, t) : Nat × (List Nat)) st => ∃ (H94 : AHeap), st = ⟨145, U [(1, vR), (5, (Value.slice (some ⟨be, 0, none⟩) us.length us.length)), (10, .slice (some ⟨b86, 0, none⟩) ((firstL (rowsG e i) (upto i)).length) ((firstL (rowsG e i) (upto i)).length)), (11, .slice (some ⟨b90, 0, none⟩) ((rowsG e i).length) ((rowsG e i).length)), (12, .int .i64 ((j : Nat) : Int))], [], H94⟩ ∧ St H0 (none0) (fun b' vs' sz' => Z1 b' vs' sz' ∨ (b' = be ∧ vs' = us.map idv ∧ sz' = 1)) H94 [(b90, .cells true (t.map i64v) 1), (b86, .cells true ((firstL (rowsG e i) (upto i)).map intv) 1), (ba, .cells true ((upto i).map intv) 1)] ∧ (AInv (rowsG e i) (firstL (rowsG e i) (upto i)) j t)) (fun ((j, t) : Nat × (List Nat)) => (firstL (rowsG e i) (upto i)).length - j) (x0 := (0, (List.replicate (rowsG e i).length 0))) ?h0 ?round
      case h0 =>
        exact ⟨_, rfl, s92, AInv.start _ _⟩
      case round =>
        rintro ⟨j, t⟩ _ ⟨H94, rfl, s95, ht⟩
        dsimp only at *
        have htl := ht.len
        refine awp_seq ?_
        refine awp_seq ?_
        refine awp_regs hF ?_
        refine dv (gyes_none rfl) (q_mv (v := .int .i64 ((j : Nat) : Int)) rfl) rfl (by decide) (cok1 trivial) ?_
        refine dv (gyes_none rfl) (q_mv (v := .slice (some ⟨b86, 0, none⟩) ((firstL (rowsG e i) (upto i)).length) ((firstL (rowsG e i) (upto i)).length)) rfl) rfl (by decide) (cok1 trivial) ?_
        refine dv (gyes_none rfl) (q_len_slice Try.underlying23 rfl (s95.rd (j := 1) rfl)) rfl (by decide) (cok1 trivial) ?_
        refine dvb (gyes_none rfl) (q_int rfl rfl rfl) rfl (by decide) (cok2 trivial trivial) (fun c11 => ?_) (fun c11 => ?_)
        ·
          replace c11 := of_decide_eq_true c11
          have hvx := hOv _ (nthI_mem (show j < (firstL (rowsG e i) (upto i)).length by omega))
          have hvx1 := hvx.1
          have hvx2 := hvx.2
          refine ⟨_, Wk.refl _ _, ?_⟩
          show awp _ _ _ _ _ _ _
          refine awp_cond_t rfl ?_
          refine awp_skip_wk ?_
          refine ⟨_, Wk.refl _ _, ?_⟩
          show awp _ _ _ _ _ _ _
          refine awp_seq ?_
          refine awp_block ?_
          refine awp_regs hF ?_
          refine dv (gyes_none rfl) (q_mv (v := .slice (some ⟨b90, 0, none⟩) ((rowsG e i).length) ((rowsG e i).length)) rfl) rfl (by decide) (cok1 trivial) ?_
          refine dv (gyes_none rfl) (q_mv (v := .slice (some ⟨b86, 0, none⟩) ((firstL (rowsG e i) (upto i)).length) ((firstL (rowsG e i) (upto i)).length)) rfl) rfl (by decide) (cok1 trivial) ?_
          refine dv (gyes_none rfl) (q_mv (v := .int .i64 ((j : Nat) : Int)) rfl) rfl (by decide) (cok1 trivial) ?_
          refine dv (gyes_none rfl) (OpQ.cast (v' := .pointer (some ⟨b86, j, none⟩)) (q_index1 (i := j) Try.underlying23 Try.sizeOf3 rfl rfl (by omega) (s95.rd (j := 1) rfl)) (by rw [Nat.zero_add])) rfl (by decide) (cok2 trivial trivial) ?_
          refine dv (gyes_none rfl) (q_load (v := intv (nth (firstL (rowsG e i) (upto i)) j)) Try.isAgg3 rfl (s95.rd (j := 1) rfl) (get_nth (w := 0) (by omega))) rfl (by decide) (cok1 trivial) ?_
          refine dv (gyes_none rfl) (q_mv (v := .int .i64 ((j : Nat) : Int)) rfl) rfl (by decide) (cok1 trivial) ?_
          refine dv (gyes_none rfl) (OpQ.cast (v' := .pointer (some ⟨b90, (nth (firstL (rowsG e i) (upto i)) j).toNat, none⟩)) (q_indexI1 (z := (nth (firstL (rowsG e i) (upto i)) j)) Try.underlying23 Try.sizeOf3 rfl rfl (by omega) (by omega) (s95.rd (j := 0) rfl)) (by rw [Nat.zero_add])) rfl (by decide) (cok2 trivial trivial) ?_
          refine x_store1 [] hF s95 (by kernel_rfl) (gyes_none rfl) (j := 0) (v := i64v j) rfl Try.sizeOf3 rfl rfl rfl (lc_scalar rfl) (by rw [List.length_map]; omega) trivial trivial rfl rfl (F' := [(b90, .cells true ((t.set ((nth (firstL (rowsG e i) (upto i)) j).toNat) j).map i64v) 1), (b86, .cells true ((firstL (rowsG e i) (upto i)).map intv) 1), (ba, .cells true ((upto i).map intv) 1)]) (by simp only [set_map1]; rfl) (fun H96 s97 => ⟨?_, ?_⟩)
          · exact trivial
          refine ⟨_, Wk.refl _ _, ?_⟩
          show awp _ _ _ _ _ _ _
          refine awp_regs hF ?_
          refine dv (gyes_none rfl) (q_mv (v := .int .i64 ((j : Nat) : Int)) rfl) rfl (by decide) (cok1 trivial) ?_
          refine dv (gyes_none rfl) (OpQ.cast (v' := .int .i64 ((j + 1 : Nat) : Int)) (q_int rfl rfl rfl) (congrArg _ ((i64_in (by omega)).trans (by first | rfl | omega | (push_cast; rfl))))) rfl (by decide) (cok2 trivial (cconst rfl)) ?_
          refine dv (gyes_none rfl) (q_as (v := .int .i64 ((j + 1 : Nat) : Int)) rfl) rfl (by decide) (cok1 trivial) ?_
          refine ⟨_, Wk.U [(1, vR), (5, (Value.slice (some ⟨be, 0, none⟩) us.length us.length)), (10, .slice (some ⟨b86, 0, none⟩) ((firstL (rowsG e i) (upto i)).length) ((firstL (rowsG e i) (upto i)).length)), (11, .slice (some ⟨b90, 0, none⟩) ((rowsG e i).length) ((rowsG e i).length)), (12, .int .i64 (((j + 1) : Nat) : Int))] ⟨rfl, rfl, rfl, rfl, rfl, trivial⟩, ((j + 1), (t.set (nth (firstL (rowsG e i) (upto i)) j).toNat j)), ⟨_, rfl, s97, ht.step hOn (by omega) hOv⟩, (by omega)⟩
        ·
          replace c11 := of_decide_eq_false c11
          refine ⟨_, Wk.refl _ _, ?_⟩
          show awp _ _ _ _ _ _ _
          refine awp_cond_f rfl ?_
          refine awp_exit_wk ?_
          refine ⟨_, Wk.refl _ _, ?_⟩
          show awp _ _ _ _ _ _ _
          refine awp_seq ?_
          refine awp_regs hF ?_
          refine dv (gyes_none rfl) (q_mv (v := (Value.slice (some ⟨be, 0, none⟩) us.length us.length)) rfl) rfl (by decide) (cok1 trivial) ?_
          refine dv (gyes_none rfl) (q_mv (v := vR) rfl) rfl (by decide) (cok1 trivial) ?_
          refine dv (gyes_none rfl) (q_mv (v := vR) rfl) rfl (by decide) (cok1 trivial) ?_
          refine dv (gyes_none rfl) (q_len_sl (l := rs) Try.underlying23 (s95.sl hR2) rfl) rfl (by decide) (cok1 trivial) ?_
          refine dv (gyes_none rfl) (OpQ.cast (v' := .int .i64 ((min rs.length 8 : Nat) : Int)) (q_min rfl rfl) (by congr 1; split <;> omega)) rfl (by decide) (cok2 trivial (cconst rfl)) ?_
          obtain ⟨w98, hw98, qw98⟩ := slice_z hR2 (min rs.length 8) (by omega)
          rw [← er] at hw98
          refine dv (gyes_none rfl) (qw98 s95 Try.underlying23 Try.sizeOf3 rfl rfl) rfl (by decide) (cok2 trivial trivial) ?_
          refine x_new (fun b => .slice (some ⟨b, 0, none⟩) (keptL (rowsG e i) rt).length (keptL (rowsG e i) rt).length) s95 (gyes_none rfl) (q_call (Δ := [.cells true ((keptL (rowsG e i) rt).map boolv) 1]) Try.call12 rfl (by simp [AObj.wr]) (acalls_fresh boolv_sc (kept_ok (rowsG e i) _ (hE2.of s95) hsz rt _ (s95.sl hw98) hrt))) rfl (by decide) (call_ok rfl) (fun b99 H100 hb102 s101 => ?_)
          refine dv (gyes_none rfl) (q_as (v := .slice (some ⟨b99, 0, none⟩) ((keptL (rowsG e i) rt).length) ((keptL (rowsG e i) rt).length)) rfl) rfl (by decide) (cok1 trivial) ?_
          refine ⟨_, Wk.refl _ _, ?_⟩
          show awp _ _ _ _ _ _ _
          refine awp_seq ?_
          refine awp_seq ?_
          refine awp_regs hF ?_
          refine dv (gyes_none rfl) (q_as (v := .int .i64 0) rfl) rfl (by decide) (cok1 (cconst rfl)) ?_
          refine ⟨_, Wk.refl _ _, ?_⟩
          show awp _ _ _ _ _ _ _
          refine awp_block ?_
          refine awp_wk (Wk.U [(5, (Value.slice (some ⟨be, 0, none⟩) us.length us.length)), (10, .slice (some ⟨b86, 0, none⟩) ((firstL (rowsG e i) (upto i)).length) ((firstL (rowsG e i) (upto i)).length)), (11, .slice (some ⟨b90, 0, none⟩) ((rowsG e i).length) ((rowsG e i).length)), (13, .slice (some ⟨b99, 0, none⟩) ((keptL (rowsG e i) rt).length) ((keptL (rowsG e i) rt).length)), (14, .int .i64 0)] ⟨rfl, rfl, rfl, rfl, rfl, trivial⟩) ?_
          refine awp_loop (fun (p : Nat) st => ∃ (H103 : AHeap), st = ⟨145, U [(5, (Value.slice (some ⟨be, 0, none⟩) us.length us.length)), (10, .slice (some ⟨b86, 0, none⟩) ((firstL (rowsG e i) (upto i)).length) ((firstL (rowsG e i) (upto i)).length)), (11, .slice (some ⟨b90, 0, none⟩) ((rowsG e i).length) ((rowsG e i).length)), (13, .slice (some ⟨b99, 0, none⟩) ((keptL (rowsG e i) rt).length) ((keptL (rowsG e i) rt).length)), (14, .int .i64 ((p : Nat) : Int))], [], H103⟩ ∧ St H0 (none0) (fun b' vs' sz' => Z1 b' vs' sz' ∨ (b' = be ∧ vs' = us.map idv ∧ sz' = 1)) H103 [(b99, .cells true ((keptL (rowsG e i) rt).map boolv) 1), (b90, .cells true (t.map i64v) 1), (b86, .cells true ((firstL (rowsG e i) (upto i)).map intv) 1), (ba, .cells true ((upto i).map intv) 1)]) (fun (p : Nat) => (rowsG e i).length - p) (x0 := (0)) ?h0 ?round
          case h0 =>
            exact ⟨_, rfl, s101⟩
          case round =>
            rintro p _ ⟨H103, rfl, s104⟩
            refine awp_seq ?_
            refine awp_seq ?_
            refine awp_regs hF ?_
            refine dv (gyes_none rfl) (q_mv (v := .int .i64 ((p : Nat) : Int)) rfl) rfl (by decide) (cok1 trivial) ?_
            refine dv (gyes_none rfl) (q_mv (v := (Value.slice (some ⟨be, 0, none⟩) us.length us.length)) rfl) rfl (by decide) (cok1 trivial) ?_
            refine dv (gyes_none rfl) (q_len_sl2 s104 Try.underlying25 hE2 rfl) rfl (by decide) (cok1 trivial) ?_
            refine dvb (gyes_none rfl) (q_int rfl rfl rfl) rfl (by decide) (cok2 trivial trivial) (fun c12 => ?_) (fun c12 => ?_)
            ·
              replace c12 := of_decide_eq_true c12
              have hpl : p < i := by omega
              have hrl : (nth (rowsG e i) p).length ≤ 1000000 := hsz.2 _ (nthI_mem (by omega))
              refine ⟨_, Wk.refl _ _, ?_⟩
              show awp _ _ _ _ _ _ _
              refine awp_cond_t rfl ?_
              refine awp_skip_wk ?_
              refine ⟨_, Wk.refl _ _, ?_⟩
              show awp _ _ _ _ _ _ _
              refine awp_seq ?_
              refine awp_block ?_
              refine awp_seq ?_
              refine awp_regs hF ?_
              refine dv (gyes_none rfl) (q_as (v := .int .i64 0) rfl) rfl (by decide) (cok1 (cconst rfl)) ?_
              refine ⟨_, Wk.refl _ _, ?_⟩
              show awp _ _ _ _ _ _ _
              refine awp_block ?_
              refine awp_wk (Wk.U [(5, (Value.slice (some ⟨be, 0, none⟩) us.length us.length)), (10, .slice (some ⟨b86, 0, none⟩) ((firstL (rowsG e i) (upto i)).length) ((firstL (rowsG e i) (upto i)).length)), (11, .slice (some ⟨b90, 0, none⟩) ((rowsG e i).length) ((rowsG e i).length)), (13, .slice (some ⟨b99, 0, none⟩) ((keptL (rowsG e i) rt).length) ((keptL (rowsG e i) rt).length)), (14, .int .i64 ((p : Nat) : Int)), (15, .int .i64 0)] ⟨rfl, rfl, rfl, rfl, rfl, rfl, trivial⟩) ?_
              refine awp_loop (fun (q : Nat) st => ∃ (H105 : AHeap), st = ⟨145, U [(5, (Value.slice (some ⟨be, 0, none⟩) us.length us.length)), (10, .slice (some ⟨b86, 0, none⟩) ((firstL (rowsG e i) (upto i)).length) ((firstL (rowsG e i) (upto i)).length)), (11, .slice (some ⟨b90, 0, none⟩) ((rowsG e i).length) ((rowsG e i).length)), (13, .slice (some ⟨b99, 0, none⟩) ((keptL (rowsG e i) rt).length) ((keptL (rowsG e i) rt).length)), (14, .int .i64 ((p : Nat) : Int)), (15, .int .i64 ((q : Nat) : Int))], [], H105⟩ ∧ St H0 (none0) (fun b' vs' sz' => Z1 b' vs' sz' ∨ (b' = be ∧ vs' = us.map idv ∧ sz' = 1)) H105 [(b99, .cells true ((keptL (rowsG e i) rt).map boolv) 1), (b90, .cells true (t.map i64v) 1), (b86, .cells true ((firstL (rowsG e i) (upto i)).map intv) 1), (ba, .cells true ((upto i).map intv) 1)]) (fun (q : Nat) => (nth (rowsG e i) p).length - q) (x0 := (0)) ?h0 ?round
              case h0 =>
                exact ⟨_, rfl, s104⟩
              case round =>
                rintro q _ ⟨H105, rfl, s106⟩
                refine awp_seq ?_
                refine awp_seq ?_
                refine awp_regs hF ?_
                refine dv (gyes_none rfl) (q_mv (v := .int .i64 ((q : Nat) : Int)) rfl) rfl (by decide) (cok1 trivial) ?_
                refine dv (gyes_none rfl) (q_mv (v := (Value.slice (some ⟨be, 0, none⟩) us.length us.length)) rfl) rfl (by decide) (cok1 trivial) ?_
                refine dv (gyes_none rfl) (q_mv (v := .int .i64 ((p : Nat) : Int)) rfl) rfl (by decide) (cok1 trivial) ?_
                refine dv (gyes_none rfl) (q_index_sl2 s106 Try.underlying25 Try.sizeOf23 hE2 rfl rfl (by omega)) rfl (by decide) (cok2 trivial trivial) ?_
                obtain ⟨u107, hu107, qu107⟩ := Sl2Z.elem hE2 (i := p) (by omega)
                refine dv (gyes_none rfl) (qu107 s106 Try.isAgg23 rfl) rfl (by decide) (cok1 trivial) ?_
                refine dv (gyes_none rfl) (q_len_sl (l := nth (rowsG e i) p) Try.underlying23 (s106.sl hu107) rfl) rfl (by decide) (cok1 trivial) ?_
                refine dvb (gyes_none rfl) (q_int rfl rfl rfl) rfl (by decide) (cok2 trivial trivial) (fun c13 => ?_) (fun c13 => ?_)
                ·
                  replace c13 := of_decide_eq_true c13
                  have hym : (nth (nth (rowsG e i) p) q) ∈ nth (rowsG e i) p := nthI_mem (by omega)
                  have hy0 : ((p : Nat) : Int) < (nth (nth (rowsG e i) p) q) := rowsG_lt (e := e) (n := i) (x := ((p : Nat) : Int)) (by omega) hym
                  have hkel := keptL_len (rowsG e i) rt
                  refine ⟨_, Wk.refl _ _, ?_⟩
                  show awp _ _ _ _ _ _ _
                  refine awp_cond_t rfl ?_
                  refine awp_skip_wk ?_
                  refine ⟨_, Wk.refl _ _, ?_⟩
                  show awp _ _ _ _ _ _ _
                  refine awp_seq ?_
                  refine awp_block ?_
                  refine awp_seq ?_
                  refine awp_regs hF ?_
                  refine dv (gyes_none rfl) (q_mv (v := (Value.slice (some ⟨be, 0, none⟩) us.length us.length)) rfl) rfl (by decide) (cok1 trivial) ?_
                  refine dv (gyes_none rfl) (q_mv (v := .int .i64 ((p : Nat) : Int)) rfl) rfl (by decide) (cok1 trivial) ?_
                  refine dv (gyes_none rfl) (q_index_sl2 s106 Try.underlying25 Try.sizeOf23 hE2 rfl rfl (by omega)) rfl (by decide) (cok2 trivial trivial) ?_
                  obtain ⟨u108, hu108, qu108⟩ := Sl2Z.elem hE2 (i := p) (by omega)
                  refine dv (gyes_none rfl) (qu108 s106 Try.isAgg23 rfl) rfl (by decide) (cok1 trivial) ?_
                  refine dv (gyes_none rfl) (q_mv (v := .int .i64 ((q : Nat) : Int)) rfl) rfl (by decide) (cok1 trivial) ?_
                  refine dv (gyes_none rfl) (q_index_sl (l := nth (rowsG e i) p) (i := q) Try.underlying23 Try.sizeOf3 (s106.sl hu108) rfl rfl (by omega)) rfl (by decide) (cok2 trivial trivial) ?_
                  refine dv (gyes_none rfl) (q_load_sl (l := nth (rowsG e i) p) (i := q) Try.isAgg3 (s106.sl hu108) rfl (by omega)) rfl (by decide) (cok1 trivial) ?_
                  refine dv (gyes_none rfl) (q_as (v := .int .i64 (nth (nth (rowsG e i) p) q)) rfl) rfl (by decide) (cok1 trivial) ?_
                  refine ⟨_, Wk.refl _ _, ?_⟩
                  show awp _ _ _ _ _ _ _
                  refine awp_seq ?_
                  refine awp_regt hF hM (by kernel_rfl) (by kernel_rfl) ?_
                  refine dv (gyes_none rfl) (q_mv (v := .int .i64 (nth (nth (rowsG e i) p) q)) rfl) rfl (by decide) (cok1 trivial) ?_
                  refine dv (gyes_none rfl) (q_mv (v := (Value.slice (some ⟨be, 0, none⟩) us.length us.length)) rfl) rfl (by decide) (cok1 trivial) ?_
                  refine dv (gyes_none rfl) (q_len_sl2 s106 Try.underlying25 hE2 rfl) rfl (by decide) (cok1 trivial) ?_
                  refine dvb (gyes_none rfl) (q_int rfl rfl rfl) rfl (by decide) (cok2 trivial trivial) (fun c14 => ?_) (fun c14 => ?_)
                  ·
                    replace c14 := of_decide_eq_true c14
                    have hvy : Valid (rowsG e i) (nth (nth (rowsG e i) p) q) := ⟨by omega, by omega⟩
                    have hlt := ht.lt (by omega) hpl hym (by omega)
                    refine dv (gyes_none rfl) (q_mv (v := .bool true) rfl) rfl (by decide) (cok1 trivial) ?_
                    refine dv (gyes_some rfl rfl) (q_mv (v := .slice (some ⟨b90, 0, none⟩) ((rowsG e i).length) ((rowsG e i).length)) rfl) rfl (by decide) (cok1 trivial) ?_
                    refine dv (gyes_some rfl rfl) (q_mv (v := .int .i64 (nth (nth (rowsG e i) p) q)) rfl) rfl (by decide) (cok1 trivial) ?_
                    refine dv (gyes_some rfl rfl) (OpQ.cast (v' := .pointer (some ⟨b90, (nth (nth (rowsG e i) p) q).toNat, none⟩)) (q_indexI1 (z := (nth (nth (rowsG e i) p) q)) Try.underlying23 Try.sizeOf3 rfl rfl (by omega) (by omega) (s106.rd (j := 1) rfl)) (by rw [Nat.zero_add])) rfl (by decide) (cok2 trivial trivial) ?_
                    refine dv (gyes_some rfl rfl) (q_load (v := i64v (nth t ((nth (nth (rowsG e i) p) q).toNat))) Try.isAgg3 rfl (s106.rd (j := 1) rfl) (get_nth (w := 0) (by omega))) rfl (by decide) (cok1 trivial) ?_
                    refine dv (gyes_some rfl rfl) (q_mv (v := .slice (some ⟨b90, 0, none⟩) ((rowsG e i).length) ((rowsG e i).length)) rfl) rfl (by decide) (cok1 trivial) ?_
                    refine dv (gyes_some rfl rfl) (q_mv (v := .int .i64 ((p : Nat) : Int)) rfl) rfl (by decide) (cok1 trivial) ?_
                    refine dv (gyes_some rfl rfl) (OpQ.cast (v' := .pointer (some ⟨b90, p, none⟩)) (q_index1 (i := p) Try.underlying23 Try.sizeOf3 rfl rfl (by omega) (s106.rd (j := 1) rfl)) (by rw [Nat.zero_add])) rfl (by decide) (cok2 trivial trivial) ?_
                    refine dv (gyes_some rfl rfl) (q_load (v := i64v (nth t p)) Try.isAgg3 rfl (s106.rd (j := 1) rfl) (get_nth (w := 0) (by omega))) rfl (by decide) (cok1 trivial) ?_
                    refine dv (gyes_some rfl rfl) (OpQ.cast (v' := .bool false) (q_int rfl rfl rfl) (congrArg Value.bool (decide_eq_false (by omega)))) rfl (by decide) (cok2 trivial trivial) ?_
                    refine dv (gyes_some rfl rfl) (q_mv (v := .bool false) rfl) rfl (by decide) (cok1 trivial) ?_
                    refine dv (gyes_some rfl rfl) (q_mv (v := .slice (some ⟨b99, 0, none⟩) ((keptL (rowsG e i) rt).length) ((keptL (rowsG e i) rt).length)) rfl) rfl (by decide) (cok1 trivial) ?_
                    refine dv (gyes_some rfl rfl) (q_mv (v := .int .i64 ((p : Nat) : Int)) rfl) rfl (by decide) (cok1 trivial) ?_
                    refine dv (gyes_some rfl rfl) (OpQ.cast (v' := .pointer (some ⟨b99, p, none⟩)) (q_index1 (i := p) Try.underlying32 Try.sizeOf4 rfl rfl (by omega) (s106.rd (j := 0) rfl)) (by rw [Nat.zero_add])) rfl (by decide) (cok2 trivial trivial) ?_
                    refine dvb (gyes_some rfl rfl) (q_load (v := boolv (nth (keptL (rowsG e i) rt) p)) Try.isAgg4 rfl (s106.rd (j := 0) rfl) (get_nth (w := 0) (by omega))) rfl (by decide) (cok1 trivial) (fun c15 => ?_) (fun c15 => ?_)
                    ·
                      refine dv (gyes_some rfl rfl) (q_mv (v := .bool true) rfl) rfl (by decide) (cok1 trivial) ?_
                      refine dv (gyes_some rfl rfl) (q_mv (v := .slice (some ⟨b99, 0, none⟩) ((keptL (rowsG e i) rt).length) ((keptL (rowsG e i) rt).length)) rfl) rfl (by decide) (cok1 trivial) ?_
                      refine dv (gyes_some rfl rfl) (q_mv (v := .int .i64 (nth (nth (rowsG e i) p) q)) rfl) rfl (by decide) (cok1 trivial) ?_
                      refine dv (gyes_some rfl rfl) (OpQ.cast (v' := .pointer (some ⟨b99, (nth (nth (rowsG e i) p) q).toNat, none⟩)) (q_indexI1 (z := (nth (nth (rowsG e i) p) q)) Try.underlying32 Try.sizeOf4 rfl rfl (by omega) (by omega) (s106.rd (j := 0) rfl)) (by rw [Nat.zero_add])) rfl (by decide) (cok2 trivial trivial) ?_
                      refine dvb (gyes_some rfl rfl) (q_load (v := boolv (nth (keptL (rowsG e i) rt) ((nth (nth (rowsG e i) p) q).toNat))) Try.isAgg4 rfl (s106.rd (j := 0) rfl) (get_nth (w := 0) (by omega))) rfl (by decide) (cok1 trivial) (fun c16 => ?_) (fun c16 => ?_)
                      ·
                        refine dv (gyes_some rfl rfl) (q_not (b := true) rfl) rfl (by decide) (cok1 trivial) ?_
                        refine dv (gyes_some rfl rfl) (q_pt (v := .bool false) rfl rfl) rfl (by decide) (call_ok rfl) ?_
                        refine dv (gyes_some rfl rfl) (q_pf (v := .bool false) rfl rfl) rfl (by decide) (call_ok rfl) ?_
                        refine dv (gyes_none rfl) (q_pt (v := .bool false) rfl rfl) rfl (by decide) (call_ok rfl) ?_
                        refine ⟨_, Wk.refl _ _, ?_⟩
                        show awp _ _ _ _ _ _ _
                        refine awp_cond_f rfl ?_
                        refine awp_skip_wk ?_
                        refine ⟨_, Wk.refl _ _, ?_⟩
                        show awp _ _ _ _ _ _ _
                        refine awp_regs hF ?_
                        refine dv (gyes_none rfl) (q_mv (v := .int .i64 ((q : Nat) : Int)) rfl) rfl (by decide) (cok1 trivial) ?_
                        refine dv (gyes_none rfl) (OpQ.cast (v' := .int .i64 ((q + 1 : Nat) : Int)) (q_int rfl rfl rfl) (congrArg _ ((i64_in (by omega)).trans (by first | rfl | omega | (push_cast; rfl))))) rfl (by decide) (cok2 trivial (cconst rfl)) ?_
                        refine dv (gyes_none rfl) (q_as (v := .int .i64 ((q + 1 : Nat) : Int)) rfl) rfl (by decide) (cok1 trivial) ?_
                        refine ⟨_, Wk.U [(5, (Value.slice (some ⟨be, 0, none⟩) us.length us.length)), (10, .slice (some ⟨b86, 0, none⟩) ((firstL (rowsG e i) (upto i)).length) ((firstL (rowsG e i) (upto i)).length)), (11, .slice (some ⟨b90, 0, none⟩) ((rowsG e i).length) ((rowsG e i).length)), (13, .slice (some ⟨b99, 0, none⟩) ((keptL (rowsG e i) rt).length) ((keptL (rowsG e i) rt).length)), (14, .int .i64 ((p : Nat) : Int)), (15, .int .i64 (((q + 1) : Nat) : Int))] ⟨rfl, rfl, rfl, rfl, rfl, rfl, trivial⟩, (q + 1), ⟨_, rfl, s106⟩, (by omega)⟩
                      ·
                        exact (kept_step (by omega) (by assumption) hym hvy c16).elim --closed
                    ·
                      refine dv (gyes_some rfl rfl) (q_mv (v := .bool false) rfl) rfl (by decide) (cok1 trivial) ?_
                      refine dno rfl (.inl rfl) rfl (by decide) ?_
                      refine dno rfl (.inl rfl) rfl (by decide) ?_
                      refine dno rfl (.inl rfl) rfl (by decide) ?_
                      refine dno rfl (.inl rfl) rfl (by decide) ?_
                      refine dno rfl (.inl rfl) rfl (by decide) ?_
                      refine dv (gyes_some rfl rfl) (q_pf (v := .bool false) rfl rfl) rfl (by decide) (call_ok rfl) ?_
                      refine dv (gyes_some rfl rfl) (q_pf (v := .bool false) rfl rfl) rfl (by decide) (call_ok rfl) ?_
                      refine dv (gyes_none rfl) (q_pt (v := .bool false) rfl rfl) rfl (by decide) (call_ok rfl) ?_
                      refine ⟨_, Wk.refl _ _, ?_⟩
                      show awp _ _ _ _ _ _ _
                      refine awp_cond_f rfl ?_
                      refine awp_skip_wk ?_
                      refine ⟨_, Wk.refl _ _, ?_⟩
                      show awp _ _ _ _ _ _ _
                      refine awp_regs hF ?_
                      refine dv (gyes_none rfl) (q_mv (v := .int .i64 ((q : Nat) : Int)) rfl) rfl (by decide) (cok1 trivial) ?_
                      refine dv (gyes_none rfl) (OpQ.cast (v' := .int .i64 ((q + 1 : Nat) : Int)) (q_int rfl rfl rfl) (congrArg _ ((i64_in (by omega)).trans (by first | rfl | omega | (push_cast; rfl))))) rfl (by decide) (cok2 trivial (cconst rfl)) ?_
                      refine dv (gyes_none rfl) (q_as (v := .int .i64 ((q + 1 : Nat) : Int)) rfl) rfl (by decide) (cok1 trivial) ?_
                      refine ⟨_, Wk.U [(5, (Value.slice (some ⟨be, 0, none⟩) us.length us.length)), (10, .slice (some ⟨b86, 0, none⟩) ((firstL (rowsG e i) (upto i)).length) ((firstL (rowsG e i) (upto i)).length)), (11, .slice (some ⟨b90, 0, none⟩) ((rowsG e i).length) ((rowsG e i).length)), (13, .slice (some ⟨b99, 0, none⟩) ((keptL (rowsG e i) rt).length) ((keptL (rowsG e i) rt).length)), (14, .int .i64 ((p : Nat) : Int)), (15, .int .i64 (((q + 1) : Nat) : Int))] ⟨rfl, rfl, rfl, rfl, rfl, rfl, trivial⟩, (q + 1), ⟨_, rfl, s106⟩, (by omega)⟩
                  ·
                    replace c14 := of_decide_eq_false c14
                    refine dv (gyes_none rfl) (q_mv (v := .bool false) rfl) rfl (by decide) (cok1 trivial) ?_
                    refine dno rfl (.inl rfl) rfl (by decide) ?_
                    refine dno rfl (.inl rfl) rfl (by decide) ?_
                    refine dno rfl (.inl rfl) rfl (by decide) ?_
                    refine dno rfl (.inl rfl) rfl (by decide) ?_
                    refine dno rfl (.inl rfl) rfl (by decide) ?_
                    refine dno rfl (.inl rfl) rfl (by decide) ?_
                    refine dno rfl (.inl rfl) rfl (by decide) ?_
                    refine dno rfl (.inl rfl) rfl (by decide) ?_
                    refine dno rfl (.inl rfl) rfl (by decide) ?_
                    refine dno rfl (.inl rfl) rfl (by decide) ?_
                    refine dno rfl (.inr rfl) rfl (by decide) ?_
                    refine dno rfl (.inr rfl) rfl (by decide) ?_
                    refine dno rfl (.inr rfl) rfl (by decide) ?_
                    refine dno rfl (.inr rfl) rfl (by decide) ?_
                    refine dno rfl (.inr rfl) rfl (by decide) ?_
                    refine dno rfl (.inr rfl) rfl (by decide) ?_
                    refine dno rfl (.inr rfl) rfl (by decide) ?_
                    refine dno rfl (.inr rfl) rfl (by decide) ?_
                    refine dno rfl (.inr rfl) rfl (by decide) ?_
                    refine dno rfl (.inr rfl) rfl (by decide) ?_
                    refine dno rfl (.inr rfl) rfl (by decide) ?_
                    refine dno rfl (.inl rfl) rfl (by decide) ?_
                    refine dv (gyes_none rfl) (q_pf (v := .bool false) rfl rfl) rfl (by decide) (call_ok rfl) ?_
                    refine ⟨_, Wk.refl _ _, ?_⟩
                    show awp _ _ _ _ _ _ _
                    refine awp_cond_f rfl ?_
                    refine awp_skip_wk ?_
                    refine ⟨_, Wk.refl _ _, ?_⟩
                    show awp _ _ _ _ _ _ _
                    refine awp_regs hF ?_
                    refine dv (gyes_none rfl) (q_mv (v := .int .i64 ((q : Nat) : Int)) rfl) rfl (by decide) (cok1 trivial) ?_
                    refine dv (gyes_none rfl) (OpQ.cast (v' := .int .i64 ((q + 1 : Nat) : Int)) (q_int rfl rfl rfl) (congrArg _ ((i64_in (by omega)).trans (by first | rfl | omega | (push_cast; rfl))))) rfl (by decide) (cok2 trivial (cconst rfl)) ?_
                    refine dv (gyes_none rfl) (q_as (v := .int .i64 ((q + 1 : Nat) : Int)) rfl) rfl (by decide) (cok1 trivial) ?_
                    refine ⟨_, Wk.U [(5, (Value.slice (some ⟨be, 0, none⟩) us.length us.length)), (10, .slice (some ⟨b86, 0, none⟩) ((firstL (rowsG e i) (upto i)).length) ((firstL (rowsG e i) (upto i)).length)), (11, .slice (some ⟨b90, 0, none⟩) ((rowsG e i).length) ((rowsG e i).length)), (13, .slice (some ⟨b99, 0, none⟩) ((keptL (rowsG e i) rt).length) ((keptL (rowsG e i) rt).length)), (14, .int .i64 ((p : Nat) : Int)), (15, .int .i64 (((q + 1) : Nat) : Int))] ⟨rfl, rfl, rfl, rfl, rfl, rfl, trivial⟩, (q + 1), ⟨_, rfl, s106⟩, (by omega)⟩
                ·
                  replace c13 := of_decide_eq_false c13
                  refine ⟨_, Wk.refl _ _, ?_⟩
                  show awp _ _ _ _ _ _ _
                  refine awp_cond_f rfl ?_
                  refine awp_exit_wk ?_
                  refine ⟨_, Wk.refl _ _, ?_⟩
                  show awp _ _ _ _ _ _ _
                  refine awp_regs hF ?_
                  refine dv (gyes_none rfl) (q_mv (v := .int .i64 ((p : Nat) : Int)) rfl) rfl (by decide) (cok1 trivial) ?_
                  refine dv (gyes_none rfl) (OpQ.cast (v' := .int .i64 ((p + 1 : Nat) : Int)) (q_int rfl rfl rfl) (congrArg _ ((i64_in (by omega)).trans (by first | rfl | omega | (push_cast; rfl))))) rfl (by decide) (cok2 trivial (cconst rfl)) ?_
                  refine dv (gyes_none rfl) (q_as (v := .int .i64 ((p + 1 : Nat) : Int)) rfl) rfl (by decide) (cok1 trivial) ?_
                  refine ⟨_, Wk.U [(5, (Value.slice (some ⟨be, 0, none⟩) us.length us.length)), (10, .slice (some ⟨b86, 0, none⟩) ((firstL (rowsG e i) (upto i)).length) ((firstL (rowsG e i) (upto i)).length)), (11, .slice (some ⟨b90, 0, none⟩) ((rowsG e i).length) ((rowsG e i).length)), (13, .slice (some ⟨b99, 0, none⟩) ((keptL (rowsG e i) rt).length) ((keptL (rowsG e i) rt).length)), (14, .int .i64 (((p + 1) : Nat) : Int))] ⟨rfl, rfl, rfl, rfl, rfl, trivial⟩, (p + 1), ⟨_, rfl, s106⟩, (by omega)⟩
            ·
              replace c12 := of_decide_eq_false c12
              refine ⟨_, Wk.refl _ _, ?_⟩
              show awp _ _ _ _ _ _ _
              refine awp_cond_f rfl ?_
              refine awp_exit_wk ?_
              refine ⟨_, Wk.refl _ _, ?_⟩
              show awp _ _ _ _ _ _ _
              refine awp_seq ?_
              refine awp_regs hF ?_
              refine dv (gyes_none rfl) (q_mv (v := .slice (some ⟨b86, 0, none⟩) ((firstL (rowsG e i) (upto i)).length) ((firstL (rowsG e i) (upto i)).length)) rfl) rfl (by decide) (cok1 trivial) ?_
              refine dv (gyes_none rfl) (q_len_slice Try.underlying23 rfl (s104.rd (j := 2) rfl)) rfl (by decide) (cok1 trivial) ?_
              refine dv (gyes_none rfl) (q_mv (v := (Value.slice (some ⟨be, 0, none⟩) us.length us.length)) rfl) rfl (by decide) (cok1 trivial) ?_
              refine dv (gyes_none rfl) (q_len_sl2 s104 Try.underlying25 hE2 rfl) rfl (by decide) (cok1 trivial) ?_
              refine dv (gyes_none rfl) (OpQ.cast (v' := .bool true) (q_int rfl rfl rfl) (congrArg Value.bool (by rw [hOl, hgl]; exact beq_self_eq_true _))) rfl (by decide) (cok2 trivial trivial) ?_
              refine dv (gyes_none rfl) (q_as (v := .bool true) rfl) rfl (by decide) (cok1 trivial) ?_
              refine ⟨_, Wk.refl _ _, ?_⟩
              show awp _ _ _ _ _ _ _
              refine awp_ret_wk ?_
              refine ⟨_, Wk.refl _ _, ?_⟩
              repeat (with_reducible first | refine then_ret ?_ | refine blk_ret ?_ | refine then_exit ?_ | refine blk_exit ?_ | refine blk_exit' (by decide) ?_ | refine blk_normal ?_ | refine then_normal ?_ | refine retq_ret ?_ | refine retq_normal ?_ | refine ng_normal ?_ | refine ng_ret ?_ | refine ng_exit ?_)
              exact ret_none (v := .bool true) rfl s104.kp (.tmp rfl .nil) rfl rfl ⟨rfl, rfl⟩

end Go.Proofs.YtbjlabokijchpaaA
