/-
  Walks of functions of the given program, and what they compute.
-/
import Derived.Test.YtbjlabokijchpaaO2
import Derived.Test.YtbjlabokijchpaaProg
import Derived.KernelRfl
namespace Go.Proofs.YtbjlabokijchpaaA
set_option linter.unusedVariables false
open Go Go.RowKit Go.Shelf Go.Proofs
theorem nodup_len : ∀ {l m : List Int}, l.Nodup → (∀ x ∈ l, x ∈ m) → l.length ≤ m.length
  | [], m, _, _ => by simp
  | a :: l, m, hn, hs => by
    have h1 := List.nodup_cons.1 hn
    have h2 : l.length ≤ (m.erase a).length := nodup_len h1.2 fun x hx => (List.mem_erase_of_ne (fun e => by subst e; exact h1.1 hx)).2 (hs x (List.mem_cons_of_mem _ hx))
    rw [List.length_erase_of_mem (hs a List.mem_cons_self)] at h2
    have := List.length_pos_of_mem (hs a List.mem_cons_self)
    simp; omega
inductive Rch (e : List (List Int)) (some : List Int) (k : Int) : Int → Prop
  | one {y : Int} (h : y ∈ row e k) (hs : y ∈ some) : Rch e some k y
  | step {x y : Int} (r : Rch e some k x) (h : y ∈ row e x) (hs : y ∈ some) : Rch e some k y
theorem Rch.trans {e : List (List Int)} {some : List Int} {a b c : Int} (h : Rch e some a b) (k : Rch e some b c) : Rch e some a c := by
  induction k with
  | one h1 h2 => exact .step h h1 h2
  | step _ h1 h2 ih => exact .step ih h1 h2
theorem Rch.mem {e : List (List Int)} {some : List Int} {a b : Int} (h : Rch e some a b) : b ∈ some := by cases h <;> assumption
theorem Rch.closed {e : List (List Int)} {some : List Int} {a : Int} {S : Int → Prop} (h0 : ∀ y ∈ row e a, y ∈ some → S y) (h1 : ∀ x, S x → ∀ y ∈ row e x, y ∈ some → S y) {b : Int} (h : Rch e some a b) : S b := by
  induction h with
  | one h2 h3 => exact h0 _ h2 h3
  | step _ h2 h3 ih => exact h1 _ ih _ h2 h3
structure BInv (e : List (List Int)) (some : List Int) (k : Int) (out nxt : List Int) : Prop where
  nd : out.Nodup
  sub : ∀ x ∈ out, x ∈ some
  rch : ∀ x ∈ out, Rch e some k x
  nx : ∀ x ∈ nxt, x = k ∨ x ∈ out
  cl : ∀ x, (x = k ∨ x ∈ out) → x ∈ nxt ∨ ∀ y ∈ row e x, y ∈ some → y ∈ out
structure BIn (e : List (List Int)) (some : List Int) (k a : Int) (j : Nat) (out nxt : List Int) : Prop where
  nd : out.Nodup
  sub : ∀ x ∈ out, x ∈ some
  rch : ∀ x ∈ out, Rch e some k x
  nx : ∀ x ∈ nxt, x = k ∨ x ∈ out
  at' : a = k ∨ a ∈ out
  cl : ∀ x, (x = k ∨ x ∈ out) → x ≠ a → x ∈ nxt ∨ ∀ y ∈ row e x, y ∈ some → y ∈ out
  dn : ∀ y ∈ (row e a).take j, y ∈ some → y ∈ out
theorem BInv.start (e : List (List Int)) (some : List Int) (k : Int) : BInv e some k [] [k] := ⟨.nil, by simp, by simp, by simp, fun x h => .inl (by simpa using h)⟩
theorem BInv.pop {e : List (List Int)} {some : List Int} {k : Int} {out L : List Int} {o : Nat} (h : BInv e some k out (L.drop o)) (ho : o < L.length) : BIn e some k (nth L o) 0 out (L.drop (o + 1)) := by
  have h1 : L.drop o = nth L o :: L.drop (o + 1) := by rw [nth_eq ho, List.drop_eq_getElem_cons ho]
  rw [h1] at h
  refine ⟨h.nd, h.sub, h.rch, fun x hx => h.nx x (List.mem_cons_of_mem _ hx), h.nx _ List.mem_cons_self, fun x hx hne => ?_, by simp⟩
  rcases h.cl x hx with h2 | h2
  · exact .inl ((List.mem_cons.1 h2).resolve_left hne)
  · exact .inr h2
theorem BIn.fin {e : List (List Int)} {some : List Int} {k a : Int} {j : Nat} {out nxt : List Int} (h : BIn e some k a j out nxt) (hj : ¬ j < (row e a).length) : BInv e some k out nxt := by
  refine ⟨h.nd, h.sub, h.rch, h.nx, fun x hx => ?_⟩
  by_cases e1 : x = a
  · subst e1
    have := h.dn
    rw [List.take_of_length_le (by omega)] at this
    exact .inr this
  · exact h.cl x hx e1
theorem BIn.add {e : List (List Int)} {some : List Int} {k a : Int} {j : Nat} {out nxt : List Int} (h : BIn e some k a j out nxt) (hj : j < (row e a).length) (h1 : nth (row e a) j ∈ some) (h2 : nth (row e a) j ∉ out) : BIn e some k a (j + 1) (out ++ [nth (row e a) j]) (nxt ++ [nth (row e a) j]) := by
  have hm : nth (row e a) j ∈ row e a := nthI_mem hj
  refine ⟨List.nodup_append.2 ⟨h.nd, by simp, fun p hp q hq => ?_⟩, fun x hx => ?_, fun x hx => ?_, fun x hx => ?_, h.at'.imp_right (List.mem_append_left _), fun x hx hne => ?_, fun y hy hs => ?_⟩
  · obtain rfl := List.mem_singleton.1 hq; intro e; subst e; exact h2 hp
  · rcases List.mem_append.1 hx with h3 | h3
    · exact h.sub x h3
    · obtain rfl := List.mem_singleton.1 h3; exact h1
  · rcases List.mem_append.1 hx with h3 | h3
    · exact h.rch x h3
    · obtain rfl := List.mem_singleton.1 h3
      rcases h.at' with h4 | h4
      · subst h4; exact .one hm h1
      · exact .step (h.rch _ h4) hm h1
  · rcases List.mem_append.1 hx with h3 | h3
    · exact (h.nx x h3).imp_right (List.mem_append_left _)
    · exact .inr (List.mem_append_right _ h3)
  · have h3 : (x = k ∨ x ∈ out) ∨ x = nth (row e a) j := by
      rcases hx with h3 | h3
      · exact .inl (.inl h3)
      · rcases List.mem_append.1 h3 with h4 | h4
        · exact .inl (.inr h4)
        · exact .inr (List.mem_singleton.1 h4)
    rcases h3 with h3 | h3
    · rcases h.cl x h3 hne with h4 | h4
      · exact .inl (List.mem_append_left _ h4)
      · exact .inr fun y hy hs => List.mem_append_left _ (h4 y hy hs)
    · exact .inl (List.mem_append_right _ (by simp [h3]))
  · rw [List.take_add_one, List.getElem?_eq_getElem hj] at hy
    rcases List.mem_append.1 hy with h3 | h3
    · exact List.mem_append_left _ (h.dn y h3 hs)
    · rw [nth_eq hj]; exact List.mem_append_right _ (by simpa using h3)
theorem BIn.skip {e : List (List Int)} {some : List Int} {k a : Int} {j : Nat} {out nxt : List Int} (h : BIn e some k a j out nxt) (hj : j < (row e a).length) (h1 : nth (row e a) j ∉ some ∨ nth (row e a) j ∈ out) : BIn e some k a (j + 1) out nxt := by
  refine ⟨h.nd, h.sub, h.rch, h.nx, h.at', h.cl, fun y hy hs => ?_⟩
  rw [List.take_add_one, List.getElem?_eq_getElem hj] at hy
  rcases List.mem_append.1 hy with h3 | h3
  · exact h.dn y h3 hs
  · have h4 : y = nth (row e a) j := by rw [nth_eq hj]; simpa using h3
    subst h4
    exact h1.elim (fun h => (h hs).elim) id
theorem BInv.end_ {e : List (List Int)} {some : List Int} {k : Int} {out nxt : List Int} (h : BInv e some k out nxt) (hn : nxt = []) (n : Int) : n ∈ out ↔ Rch e some k n := by
  subst hn
  exact ⟨h.rch n, fun hr => hr.closed (S := (· ∈ out)) ((h.cl k (.inl rfl)).resolve_left (by simp)) fun x hx => (h.cl x (.inr hx)).resolve_left (by simp)⟩
theorem row_mem {e : List (List Int)} {k : Int} (h : Valid e k) : row e k ∈ e := nthI_mem (by have := h.1; have := h.2; omega)
theorem nth_drop {L : List Int} {o : Nat} (h : o < L.length) : nth L o ∈ L.drop o := by rw [nth_eq h, List.drop_eq_getElem_cons h]; exact List.mem_cons_self
theorem BInv.inn {e : List (List Int)} {some : List Int} {k : Int} {out L : List Int} {o : Nat} (h : BInv e some k out (L.drop o)) (ho : o < L.length) (hk : Valid e k) (hs : ∀ x ∈ some, Valid e x) : Valid e (nth L o) := by
  rcases h.nx _ (nth_drop ho) with h1 | h1
  · rw [h1]; exact hk
  · exact hs _ (h.sub _ h1)
theorem BIn.len {e : List (List Int)} {some : List Int} {k a : Int} {j : Nat} {out nxt : List Int} (h : BIn e some k a j out nxt) : out.length ≤ some.length := nodup_len h.nd h.sub
set_option maxRecDepth 100000 in
set_option maxHeartbeats 4000000 in
theorem below_ok {H0 : AHeap} (e : List (List Int)) (vE : Value) (hE : Sl2Z intv (Rd H0) vE e) (hr : Sized e) (al : List Int) (vK : Value) (hK : Sl intv H0 vK al) (hk : al.length ≤ 1000000) (k : Int) (hkv : Valid e k) (hsv : ∀ x ∈ al, Valid e x) : ACalls Try.prog 17 [vE, .int .i64 k, vK] H0 (fun v H' => ∃ l, Fresh intv l H0 v H' ∧ l.Nodup ∧ ∀ n, n ∈ l ↔ Rch e al k n) := by
  have hF : Wd Fence.wide := .inl rfl
  have hM : Try.prog.follows .mixedOrders = true := by kernel_rfl
  have s0 := St.begin H0
  refine acalls_st Try.func17 rfl Try.ntmps17 rfl ?_
  refine awp_seq ?_
  refine awp_regs hF ?_
  refine dv (gyes_none rfl) (q_as (v := .slice none 0 0) rfl) rfl (by decide) (cok1 (cconst rfl)) ?_
  refine ⟨_, Wk.refl _ _, ?_⟩
  show awp _ _ _ _ _ _ _
  refine awp_seq ?_
  refine awp_regs hF ?_
  refine dv (gyes_none rfl) (q_as (v := .slice none 0 0) rfl) rfl (by decide) (cok1 (cconst rfl)) ?_
  refine ⟨_, Wk.refl _ _, ?_⟩
  show awp _ _ _ _ _ _ _
  refine awp_seq ?_
  refine awp_regs hF ?_
  refine dv (gyes_none rfl) (q_mv (v := .int .i64 k) rfl) rfl (by decide) (cok1 trivial) ?_
  refine x_new (fun b => .slice (some ⟨b, 0, none⟩) 1 1) s0 (gyes_none rfl) (q_buildSliceL (ds := [.int .i64 k]) [.int .i64 k] rfl Try.underlying23 Try.sizeOf3 Try.zeroValue3 rfl (by decide) (by decide) ⟨rfl, trivial⟩ (lvsC (by exact trivial) lvs0) rfl rfl) rfl (by decide) (cok1 trivial) (fun b1 H2 hb4 s3 => ?_)
  refine dv (gyes_none rfl) (q_as (v := .slice (some ⟨b1, 0, none⟩) 1 1) rfl) rfl (by decide) (cok1 trivial) ?_
  refine ⟨_, Wk.refl _ _, ?_⟩
  show awp _ _ _ _ _ _ _
  refine awp_seq ?_
  refine awp_block ?_
  refine awp_nil s3 7 1 rfl (fun b5 H6 hb8 s7 => ?_)
  refine awp_wk (Wk.U [(0, vE), (1, .int .i64 k), (2, vK), (7, .slice (some ⟨b5, 0, none⟩) (([] : List Int).length) (([] : List Int).length)), (8, .slice (some ⟨b1, 0, none⟩) (([k]).length - 0) (([k]).length - 0))] ⟨rfl, rfl, rfl, rfl, rfl, trivial⟩) ?_
  refine awp_loop (fun ((out, L, o) : (List Int) × (List Int) × Nat) st => ∃ (H9 : AHeap) (b : Nat) (bn : Nat), st = ⟨50, U [(0, vE), (1, .int .i64 k), (2, vK), (7, .slice (some ⟨b, 0, none⟩) out.length out.length), (8, .slice (some ⟨bn, o, none⟩) (L.length - o) (L.length - o))], [], H9⟩ ∧ St H0 (none0) (Rd H0) H9 [(b, .cells true (out.map intv) 1), (bn, .cells true (L.map intv) 1)] ∧ (BInv e al k out (L.drop o) ∧ o ≤ L.length ∧ al.length - out.length + (L.length - o) ≤ al.length + 1)) (fun ((out, L, o) : (List Int) × (List Int) × Nat) => al.length - out.length + (L.length - o)) (x0 := (([] : List Int), ([k]), 0)) ?h0 ?round
  case h0 =>
    exact ⟨_, _, _, rfl, s7, ⟨BInv.start _ _ _, by simp, by simp⟩⟩
  case round =>
    rintro ⟨out, L, o⟩ _ ⟨H9, b, bn, rfl, s10, hi⟩
    dsimp only at *
    refine awp_seq ?_
    refine awp_seq ?_
    refine awp_regs hF ?_
    refine dv (gyes_none rfl) (q_mv (v := .slice (some ⟨bn, o, none⟩) (L.length - o) (L.length - o)) rfl) rfl (by decide) (cok1 trivial) ?_
    refine dv (gyes_none rfl) (q_len_slice Try.underlying23 rfl (s10.rd (j := 1) rfl)) rfl (by decide) (cok1 trivial) ?_
    refine dvb (gyes_none rfl) (q_int rfl rfl rfl) rfl (by decide) (cok2 trivial (cconst rfl)) (fun c1 => ?_) (fun c1 => ?_)
    ·
      replace c1 := of_decide_eq_true c1
      have ho : o < L.length := by omega
      have hva : Valid e (nth L o) := hi.1.inn ho hkv hsv
      have hrl : (row e (nth L o)).length ≤ 1000000 := hr.2 _ (row_mem hva)
      have hva1 := hva.1
      have hva2 := hva.2
      refine ⟨_, Wk.refl _ _, ?_⟩
      show awp _ _ _ _ _ _ _
      refine awp_cond_t rfl ?_
      refine awp_skip_wk ?_
      refine ⟨_, Wk.refl _ _, ?_⟩
      show awp _ _ _ _ _ _ _
      refine awp_block ?_
      refine awp_seq ?_
      refine awp_regs hF ?_
      refine dv (gyes_none rfl) (q_mv (v := .slice (some ⟨bn, o, none⟩) (L.length - o) (L.length - o)) rfl) rfl (by decide) (cok1 trivial) ?_
      refine dv (gyes_none rfl) (q_index1 (i := 0) Try.underlying23 Try.sizeOf3 rfl rfl (by omega) (s10.rd (j := 1) rfl)) rfl (by decide) (cok2 trivial (cconst rfl)) ?_
      refine dv (gyes_none rfl) (q_load (v := intv (nth L o)) Try.isAgg3 rfl (s10.rd (j := 1) rfl) (get_nth (w := 0) (by omega))) rfl (by decide) (cok1 trivial) ?_
      refine dv (gyes_none rfl) (q_as (v := .int .i64 (nth L o)) rfl) rfl (by decide) (cok1 trivial) ?_
      refine ⟨_, Wk.refl _ _, ?_⟩
      show awp _ _ _ _ _ _ _
      refine awp_seq ?_
      refine awp_regs hF ?_
      refine dv (gyes_none rfl) (q_mv (v := .slice (some ⟨bn, o, none⟩) (L.length - o) (L.length - o)) rfl) rfl (by decide) (cok1 trivial) ?_
      refine dv (gyes_none rfl) (OpQ.cast (v' := .slice (some ⟨bn, o + 1, none⟩) ((L.length - o) - 1) ((L.length - o) - 1)) (q_slice (i := 1) (j := (L.length - o)) (m := (L.length - o)) Try.underlying23 Try.sizeOf3 rfl (s10.rd (j := 1) rfl) ⟨_, rfl⟩ ⟨rfl, rfl⟩ rfl (by omega) (by omega) (by omega)) (by simp)) rfl (by decide) (cok2 trivial (cconst rfl)) ?_
      refine dv (gyes_none rfl) (q_as (v := .slice (some ⟨bn, o + 1, none⟩) ((L.length - o) - 1) ((L.length - o) - 1)) rfl) rfl (by decide) (cok1 trivial) ?_
      refine ⟨_, Wk.refl _ _, ?_⟩
      show awp _ _ _ _ _ _ _
      refine awp_seq ?_
      refine awp_regs hF ?_
      refine dv (gyes_none rfl) (q_mv (v := vE) rfl) rfl (by decide) (cok1 trivial) ?_
      refine dv (gyes_none rfl) (q_mv (v := .int .i64 (nth L o)) rfl) rfl (by decide) (cok1 trivial) ?_
      refine dv (gyes_none rfl) (q_index_sl2I (z := (nth L o)) s10 Try.underlying25 Try.sizeOf23 hE rfl rfl (by omega) (by omega)) rfl (by decide) (cok2 trivial trivial) ?_
      obtain ⟨u11, hu11, qu11⟩ := Sl2Z.elem hE (i := ((nth L o).toNat)) (by omega)
      refine dv (gyes_none rfl) (qu11 s10 Try.isAgg23 rfl) rfl (by decide) (cok1 trivial) ?_
      refine dv (gyes_none rfl) (q_len_sl (l := nth e ((nth L o).toNat)) Try.underlying23 (s10.sl hu11) rfl) rfl (by decide) (cok1 trivial) ?_
      refine dv (gyes_none rfl) (q_mv (v := .int .i64 0) rfl) rfl (by decide) (cok1 (cconst rfl)) ?_
      refine ⟨_, Wk.refl _ _, ?_⟩
      show awp _ _ _ _ _ _ _
      refine awp_block ?_
      refine awp_wk (Wk.U [(0, vE), (1, .int .i64 k), (2, vK), (7, .slice (some ⟨b, 0, none⟩) out.length out.length), (8, .slice (some ⟨bn, (o + 1), none⟩) (L.length - (o + 1)) (L.length - (o + 1))), (25, u11), (26, .int .i64 (((row e (nth L o)).length : Nat) : Int)), (27, .int .i64 0)] ⟨rfl, rfl, rfl, rfl, rfl, rfl, rfl, rfl, trivial⟩) ?_
      refine awp_loop (fun ((j, out2, L2, o2) : Nat × (List Int) × (List Int) × Nat) st => ∃ (H12 : AHeap) (b2 : Nat) (bn2 : Nat), st = ⟨50, U [(0, vE), (1, .int .i64 k), (2, vK), (7, .slice (some ⟨b2, 0, none⟩) out2.length out2.length), (8, .slice (some ⟨bn2, o2, none⟩) (L2.length - o2) (L2.length - o2)), (25, u11), (26, .int .i64 (((row e (nth L o)).length : Nat) : Int)), (27, .int .i64 ((j : Nat) : Int))], [], H12⟩ ∧ St H0 (none0) (Rd H0) H12 [(b2, .cells true (out2.map intv) 1), (bn2, .cells true (L2.map intv) 1)] ∧ (BIn e al k (nth L o) j out2 (L2.drop o2) ∧ o2 ≤ L2.length ∧ al.length - out2.length + (L2.length - o2) = al.length - out.length + (L.length - o) - 1)) (fun ((j, out2, L2, o2) : Nat × (List Int) × (List Int) × Nat) => (row e (nth L o)).length - j) (x0 := (0, out, L, (o + 1))) ?h0 ?round
      case h0 =>
        exact ⟨_, _, _, rfl, s10, ⟨hi.1.pop ho, by omega, by omega⟩⟩
      case round =>
        rintro ⟨j, out2, L2, o2⟩ _ ⟨H12, b2, bn2, rfl, s13, hj⟩
        dsimp only at *
        refine awp_seq ?_
        refine awp_regs hF ?_
        refine dvb (gyes_none rfl) (q_int rfl rfl rfl) rfl (by decide) (cok2 trivial trivial) (fun c2 => ?_) (fun c2 => ?_)
        ·
          replace c2 := of_decide_eq_true c2
          have hol := hj.1.len
          refine ⟨_, Wk.refl _ _, ?_⟩
          show awp _ _ _ _ _ _ _
          refine awp_seq ?_
          refine awp_cond_t rfl ?_
          refine awp_skip_wk ?_
          refine ⟨_, Wk.refl _ _, ?_⟩
          show awp _ _ _ _ _ _ _
          refine awp_seq ?_
          refine awp_block ?_
          refine awp_seq ?_
          refine awp_regs hF ?_
          refine dv (gyes_none rfl) (q_index_sl (l := row e (nth L o)) (i := j) Try.underlying23 Try.sizeOf3 (s13.sl hu11) rfl rfl (by omega)) rfl (by decide) (cok2 trivial trivial) ?_
          refine dv (gyes_none rfl) (q_load_sl (l := row e (nth L o)) (i := j) Try.isAgg3 (s13.sl hu11) rfl (by omega)) rfl (by decide) (cok1 trivial) ?_
          refine dv (gyes_none rfl) (q_as (v := .int .i64 (nth (row e (nth L o)) j)) rfl) rfl (by decide) (cok1 trivial) ?_
          refine ⟨_, Wk.refl _ _, ?_⟩
          show awp _ _ _ _ _ _ _
          refine awp_seq ?_
          refine awp_regs hF ?_
          refine dv (gyes_none rfl) (q_mv (v := vK) rfl) rfl (by decide) (cok1 trivial) ?_
          refine dv (gyes_none rfl) (q_mv (v := .int .i64 (nth (row e (nth L o)) j)) rfl) rfl (by decide) (cok1 trivial) ?_
          refine dvb (gyes_none rfl) (q_call0 Try.call19 rfl (contains_ok al _ (s13.sl hK) (by omega) (nth (row e (nth L o)) j))) rfl (by decide) (call_ok rfl) (fun c3 => ?_) (fun c3 => ?_)
          ·
            replace c3 := of_decide_eq_true c3
            refine dv (gyes_none rfl) (q_mv (v := .bool true) rfl) rfl (by decide) (cok1 trivial) ?_
            refine dv (gyes_some rfl rfl) (q_mv (v := .slice (some ⟨b2, 0, none⟩) out2.length out2.length) rfl) rfl (by decide) (cok1 trivial) ?_
            refine dv (gyes_some rfl rfl) (q_mv (v := .int .i64 (nth (row e (nth L o)) j)) rfl) rfl (by decide) (cok1 trivial) ?_
            refine dvb (gyes_some rfl rfl) (q_call0 Try.call19 rfl (contains_ok out2 _ (s13.slj (j := 0) rfl (by first | rfl | (simp; done) | omega) (by first | exact Nat.le_refl _ | omega)) (by omega) (nth (row e (nth L o)) j))) rfl (by decide) (call_ok rfl) (fun c4 => ?_) (fun c4 => ?_)
            ·
              replace c4 := of_decide_eq_true c4
              refine dv (gyes_some rfl rfl) (q_not (b := true) rfl) rfl (by decide) (cok1 trivial) ?_
              refine dv (gyes_none rfl) (q_pt (v := .bool false) rfl rfl) rfl (by decide) (call_ok rfl) ?_
              refine ⟨_, Wk.refl _ _, ?_⟩
              show awp _ _ _ _ _ _ _
              refine awp_cond_f rfl ?_
              refine awp_skip_wk ?_
              refine ⟨_, Wk.refl _ _, ?_⟩
              show awp _ _ _ _ _ _ _
              refine awp_regs hF ?_
              refine dv (gyes_none rfl) (OpQ.cast (v' := .int .i64 ((j + 1 : Nat) : Int)) (q_int rfl rfl rfl) (congrArg _ ((i64_in (by omega)).trans (by first | rfl | omega | (push_cast; rfl))))) rfl (by decide) (cok2 trivial (cconst rfl)) ?_
              refine dv (gyes_none rfl) (q_mv (v := .int .i64 ((j + 1 : Nat) : Int)) rfl) rfl (by decide) (cok1 trivial) ?_
              have hstep : BIn e al k (nth L o) (j + 1) out2 (L2.drop o2) ∧ o2 ≤ L2.length ∧ al.length - out2.length + (L2.length - o2) = al.length - out.length + (L.length - o) - 1 := ⟨hj.1.skip (by omega) (by first | exact .inl (by assumption) | exact .inr (by assumption)), hj.2.1, hj.2.2⟩
              refine ⟨_, Wk.U [(0, vE), (1, .int .i64 k), (2, vK), (7, .slice (some ⟨b2, 0, none⟩) out2.length out2.length), (8, .slice (some ⟨bn2, o2, none⟩) (L2.length - o2) (L2.length - o2)), (25, u11), (26, .int .i64 (((row e (nth L o)).length : Nat) : Int)), (27, .int .i64 (((j + 1) : Nat) : Int))] ⟨rfl, rfl, rfl, rfl, rfl, rfl, rfl, rfl, trivial⟩, ((j + 1), out2, L2, o2), ⟨_, _, _, rfl, s13, hstep⟩, (by dsimp only; omega)⟩
            ·
              replace c4 := of_decide_eq_false c4
              refine dv (gyes_some rfl rfl) (q_not (b := false) rfl) rfl (by decide) (cok1 trivial) ?_
              refine dv (gyes_none rfl) (q_pt (v := .bool true) rfl rfl) rfl (by decide) (call_ok rfl) ?_
              refine ⟨_, Wk.refl _ _, ?_⟩
              show awp _ _ _ _ _ _ _
              refine awp_cond_t rfl ?_
              refine awp_seq ?_
              refine awp_regs hF ?_
              refine dv (gyes_none rfl) (q_mv (v := .slice (some ⟨b2, 0, none⟩) out2.length out2.length) rfl) rfl (by decide) (cok1 trivial) ?_
              refine dv (gyes_none rfl) (q_mv (v := .int .i64 (nth (row e (nth L o)) j)) rfl) rfl (by decide) (cok1 trivial) ?_
              refine x_new (fun b => .slice (some ⟨b, 0, none⟩) 1 1) s13 (gyes_none rfl) (q_buildSliceL (ds := [.int .i64 (nth (row e (nth L o)) j)]) [.int .i64 (nth (row e (nth L o)) j)] rfl Try.underlying23 Try.sizeOf3 Try.zeroValue3 rfl (by decide) (by decide) ⟨rfl, trivial⟩ (lvsC (by exact trivial) lvs0) rfl rfl) rfl (by decide) (cok1 trivial) (fun b14 H15 hb17 s16 => ?_)
              refine x_append (l := [(nth (row e (nth L o)) j)]) (f := intv) [] hF s16 (by kernel_rfl) (j := 1) ((out2 ++ [(nth (row e (nth L o)) j)]).length) (by simp) (gyes_none rfl) Try.underlying23 Try.underlying23 Try.type3 rfl rfl (by decide) rfl rfl rfl rfl (s16.slj (l := [(nth (row e (nth L o)) j)]) (f := intv) (j := 0) rfl rfl (Nat.le_refl _)) (fun x => lc_scalar rfl) (by simp) (by show (2 * _ + 1000) * 8 ≤ _; first | omega | (simp only [List.length_append, List.length_cons, List.length_nil, List.length_take, List.length_drop]; omega)) trivial trivial (by decide) rfl rfl (vs' := (out2 ++ [(nth (row e (nth L o)) j)]).map intv) (by simp) (fun b18 H19 hb21 s20 => ⟨?_, ?_⟩)
              · exact trivial
              refine dv (gyes_none rfl) (q_as (v := .slice (some ⟨b18, 0, none⟩) ((out2 ++ [(nth (row e (nth L o)) j)]).length) ((out2 ++ [(nth (row e (nth L o)) j)]).length)) rfl) rfl (by decide) (cok1 trivial) ?_
              refine ⟨_, Wk.refl _ _, ?_⟩
              show awp _ _ _ _ _ _ _
              refine awp_regs hF ?_
              refine dv (gyes_none rfl) (q_mv (v := .slice (some ⟨bn2, o2, none⟩) (L2.length - o2) (L2.length - o2)) rfl) rfl (by decide) (cok1 trivial) ?_
              refine dv (gyes_none rfl) (q_mv (v := .int .i64 (nth (row e (nth L o)) j)) rfl) rfl (by decide) (cok1 trivial) ?_
              refine x_new (fun b => .slice (some ⟨b, 0, none⟩) 1 1) s20 (gyes_none rfl) (q_buildSliceL (ds := [.int .i64 (nth (row e (nth L o)) j)]) [.int .i64 (nth (row e (nth L o)) j)] rfl Try.underlying23 Try.sizeOf3 Try.zeroValue3 rfl (by decide) (by decide) ⟨rfl, trivial⟩ (lvsC (by exact trivial) lvs0) rfl rfl) rfl (by decide) (cok1 trivial) (fun b22 H23 hb25 s24 => ?_)
              refine x_append (l := [(nth (row e (nth L o)) j)]) (f := intv) [] hF s24 (by kernel_rfl) (j := 3) ((L2.drop o2 ++ [nth (row e (nth L o)) j]).length - 0) (by simp) (gyes_none rfl) Try.underlying23 Try.underlying23 Try.type3 rfl rfl (by decide) rfl rfl rfl rfl (s24.slj (l := [(nth (row e (nth L o)) j)]) (f := intv) (j := 0) rfl rfl (Nat.le_refl _)) (fun x => lc_scalar rfl) (by rw [List.length_map]; omega) (by show (2 * _ + 1000) * 8 ≤ _; first | omega | (simp only [List.length_append, List.length_cons, List.length_nil, List.length_take, List.length_drop]; omega)) trivial trivial (by decide) rfl rfl (vs' := ((L2.drop o2) ++ [(nth (row e (nth L o)) j)]).map intv) (by rw [← List.map_drop, ← List.map_append]) (fun b26 H27 hb29 s28 => ⟨?_, ?_⟩)
              · exact trivial
              refine dv (gyes_none rfl) (q_as (v := .slice (some ⟨b26, 0, none⟩) ((L2.drop o2 ++ [nth (row e (nth L o)) j]).length - 0) ((L2.drop o2 ++ [nth (row e (nth L o)) j]).length - 0)) rfl) rfl (by decide) (cok1 trivial) ?_
              refine ⟨_, Wk.refl _ _, ?_⟩
              show awp _ _ _ _ _ _ _
              refine awp_regs hF ?_
              refine dv (gyes_none rfl) (OpQ.cast (v' := .int .i64 ((j + 1 : Nat) : Int)) (q_int rfl rfl rfl) (congrArg _ ((i64_in (by omega)).trans (by first | rfl | omega | (push_cast; rfl))))) rfl (by decide) (cok2 trivial (cconst rfl)) ?_
              refine dv (gyes_none rfl) (q_mv (v := .int .i64 ((j + 1 : Nat) : Int)) rfl) rfl (by decide) (cok1 trivial) ?_
              have hadd := hj.1.add (by omega) (by assumption) (by assumption)
              have hln := hadd.len
              rw [List.length_append, List.length_cons, List.length_nil] at hln
              have hstep : BIn e al k (nth L o) (j + 1) (out2 ++ [nth (row e (nth L o)) j]) ((L2.drop o2 ++ [nth (row e (nth L o)) j]).drop 0) ∧ 0 ≤ (L2.drop o2 ++ [nth (row e (nth L o)) j]).length ∧ al.length - (out2 ++ [nth (row e (nth L o)) j]).length + ((L2.drop o2 ++ [nth (row e (nth L o)) j]).length - 0) = al.length - out.length + (L.length - o) - 1 := ⟨hadd, Nat.zero_le _, by simp only [List.length_append, List.length_cons, List.length_nil, List.length_drop]; omega⟩
              refine ⟨_, Wk.U [(0, vE), (1, .int .i64 k), (2, vK), (7, .slice (some ⟨b18, 0, none⟩) ((out2 ++ [nth (row e (nth L o)) j]).length) ((out2 ++ [nth (row e (nth L o)) j]).length)), (8, .slice (some ⟨b26, 0, none⟩) ((L2.drop o2 ++ [nth (row e (nth L o)) j]).length - 0) ((L2.drop o2 ++ [nth (row e (nth L o)) j]).length - 0)), (25, u11), (26, .int .i64 (((row e (nth L o)).length : Nat) : Int)), (27, .int .i64 (((j + 1) : Nat) : Int))] ⟨rfl, rfl, rfl, rfl, rfl, rfl, rfl, rfl, trivial⟩, ((j + 1), (out2 ++ [nth (row e (nth L o)) j]), (L2.drop o2 ++ [nth (row e (nth L o)) j]), 0), ⟨_, _, _, rfl, (s28.sub (.cons _ (.cons _ (.cons_cons _ (.cons_cons _ (.refl _)))))), hstep⟩, (by dsimp only; omega)⟩
          ·
            replace c3 := of_decide_eq_false c3
            refine dv (gyes_none rfl) (q_mv (v := .bool false) rfl) rfl (by decide) (cok1 trivial) ?_
            refine dno rfl (.inl rfl) rfl (by decide) ?_
            refine dno rfl (.inl rfl) rfl (by decide) ?_
            refine dno rfl (.inl rfl) rfl (by decide) ?_
            refine dno rfl (.inl rfl) rfl (by decide) ?_
            refine dv (gyes_none rfl) (q_pf (v := .bool false) rfl rfl) rfl (by decide) (call_ok rfl) ?_
            refine ⟨_, Wk.refl _ _, ?_⟩
            show awp _ _ _ _ _ _ _
            refine awp_cond_f rfl ?_
            refine awp_skip_wk ?_
            refine ⟨_, Wk.refl _ _, ?_⟩
            show awp _ _ _ _ _ _ _
            refine awp_regs hF ?_
            refine dv (gyes_none rfl) (OpQ.cast (v' := .int .i64 ((j + 1 : Nat) : Int)) (q_int rfl rfl rfl) (congrArg _ ((i64_in (by omega)).trans (by first | rfl | omega | (push_cast; rfl))))) rfl (by decide) (cok2 trivial (cconst rfl)) ?_
            refine dv (gyes_none rfl) (q_mv (v := .int .i64 ((j + 1 : Nat) : Int)) rfl) rfl (by decide) (cok1 trivial) ?_
            have hstep : BIn e al k (nth L o) (j + 1) out2 (L2.drop o2) ∧ o2 ≤ L2.length ∧ al.length - out2.length + (L2.length - o2) = al.length - out.length + (L.length - o) - 1 := ⟨hj.1.skip (by omega) (by first | exact .inl (by assumption) | exact .inr (by assumption)), hj.2.1, hj.2.2⟩
            refine ⟨_, Wk.U [(0, vE), (1, .int .i64 k), (2, vK), (7, .slice (some ⟨b2, 0, none⟩) out2.length out2.length), (8, .slice (some ⟨bn2, o2, none⟩) (L2.length - o2) (L2.length - o2)), (25, u11), (26, .int .i64 (((row e (nth L o)).length : Nat) : Int)), (27, .int .i64 (((j + 1) : Nat) : Int))] ⟨rfl, rfl, rfl, rfl, rfl, rfl, rfl, rfl, trivial⟩, ((j + 1), out2, L2, o2), ⟨_, _, _, rfl, s13, hstep⟩, (by dsimp only; omega)⟩
        ·
          replace c2 := of_decide_eq_false c2
          refine ⟨_, Wk.refl _ _, ?_⟩
          show awp _ _ _ _ _ _ _
          refine awp_seq ?_
          refine awp_cond_f rfl ?_
          refine awp_exit_wk ?_
          refine ⟨_, Wk.U [(0, vE), (1, .int .i64 k), (2, vK), (7, .slice (some ⟨b2, 0, none⟩) out2.length out2.length), (8, .slice (some ⟨bn2, o2, none⟩) (L2.length - o2) (L2.length - o2))] ⟨rfl, rfl, rfl, rfl, rfl, trivial⟩, (out2, L2, o2), ⟨_, _, _, rfl, s13, ⟨hj.1.fin (by omega), hj.2.1, by dsimp only; omega⟩⟩, (by dsimp only; omega)⟩
    ·
      replace c1 := of_decide_eq_false c1
      refine ⟨_, Wk.refl _ _, ?_⟩
      show awp _ _ _ _ _ _ _
      refine awp_cond_f rfl ?_
      refine awp_exit_wk ?_
      refine ⟨_, Wk.refl _ _, ?_⟩
      show awp _ _ _ _ _ _ _
      refine awp_seq ?_
      refine awp_regs hF ?_
      refine dv (gyes_none rfl) (q_mv (v := .slice (some ⟨b, 0, none⟩) out.length out.length) rfl) rfl (by decide) (cok1 trivial) ?_
      refine dv (gyes_none rfl) (q_as (v := .slice (some ⟨b, 0, none⟩) out.length out.length) rfl) rfl (by decide) (cok1 trivial) ?_
      refine ⟨_, Wk.refl _ _, ?_⟩
      show awp _ _ _ _ _ _ _
      refine awp_ret_wk ?_
      refine ⟨_, Wk.refl _ _, ?_⟩
      repeat (with_reducible first | refine then_ret ?_ | refine blk_ret ?_ | refine then_exit ?_ | refine blk_exit ?_ | refine blk_exit' (by decide) ?_ | refine blk_normal ?_ | refine then_normal ?_ | refine retq_ret ?_ | refine retq_normal ?_ | refine ng_normal ?_ | refine ng_ret ?_ | refine ng_exit ?_)
      refine ret_is (v := .slice (some ⟨b, 0, none⟩) out.length out.length) rfl (.tmp rfl .nil) rfl ?_
      exact ⟨out, fresh_of s10 (j := 0) rfl rfl, hi.1.nd, hi.1.end_ (List.drop_eq_nil_of_le (by omega))⟩

end Go.Proofs.YtbjlabokijchpaaA
