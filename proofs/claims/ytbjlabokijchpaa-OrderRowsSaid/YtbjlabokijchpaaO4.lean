/-
  Walks of functions of the given program, and what they compute.
-/
import Derived.Test.YtbjlabokijchpaaO3
import Derived.Test.YtbjlabokijchpaaProg
import Derived.KernelRfl
namespace Go.Proofs.YtbjlabokijchpaaA
set_option linter.unusedVariables false
open Go Go.RowKit Go.Shelf Go.Proofs
def Mk' (inn : List Bool) (x : Int) : Prop := nth inn x.toNat = true
theorem nth_set {l : List Bool} {i j : Nat} (hi : i < l.length) : nth (l.set i true) j = true ↔ i = j ∨ nth l j = true := by
  unfold nth
  rw [List.getD_eq_getElem?_getD, List.getD_eq_getElem?_getD, List.getElem?_set]
  by_cases e : i = j
  · subst e; simp [hi]
  · simp [e]
theorem mk_set {inn : List Bool} {x y : Int} (hy : 0 ≤ y) (hl : y.toNat < inn.length) (hx : 0 ≤ x) : Mk' (inn.set y.toNat true) x ↔ x = y ∨ Mk' inn x := by
  unfold Mk'
  rw [nth_set hl]
  constructor
  · rintro (h | h)
    · exact .inl (by omega)
    · exact .inr h
  · rintro (h | h)
    · exact .inl (by rw [h])
    · exact .inr h
structure Le' (a b : List Bool) : Prop where
  len : a.length = b.length
  le : ∀ i : Nat, nth a i = true → nth b i = true
theorem Le'.refl (a : List Bool) : Le' a a := ⟨rfl, fun _ h => h⟩
theorem Le'.trans {a b c : List Bool} (h : Le' a b) (k : Le' b c) : Le' a c := ⟨h.len.trans k.len, fun i hi => k.le i (h.le i hi)⟩
theorem Le'.set {a b : List Bool} (h : Le' a b) {y : Nat} (hy : y < b.length) : Le' a (b.set y true) := ⟨by rw [List.length_set]; exact h.len, fun i hi => (nth_set hy).2 (.inr (h.le i hi))⟩
theorem nth_cons0 {α : Type} [Inhabited α] (x : α) (l : List α) : nth (x :: l) 0 = x := rfl
theorem nth_cons1 {α : Type} [Inhabited α] (x : α) (l : List α) (i : Nat) : nth (x :: l) (i + 1) = nth l i := by unfold nth; simp
theorem Le'.cnt : ∀ {a b : List Bool}, Le' a b → a.countP id < b.countP id ∨ a = b
  | [], [], _ => .inr rfl
  | [], y :: b, h => by have := h.len; simp at this
  | x :: a, [], h => by have := h.len; simp at this
  | x :: a, y :: b, h => by
    have h0 := h.le 0
    rw [nth_cons0, nth_cons0] at h0
    have h1 : Le' a b := ⟨by have := h.len; simpa using this, fun i hi => by have := h.le (i + 1); rw [nth_cons1, nth_cons1] at this; exact this hi⟩
    rcases h1.cnt with h2 | h2
    · left
      cases x <;> cases y <;> simp at h0 ⊢ <;> omega
    · subst h2
      cases x <;> cases y <;> simp at h0 ⊢
structure RInv (e : List (List Int)) (al : List Int) (a : Int) (r : Nat) (inn : List Bool) : Prop where
  len : inn.length = e.length
  snd : ∀ x, Valid e x → Mk' inn x → Rch e al a x
  cl : (∀ x, Rch e al a x → Mk' inn x) ∨ r ≤ inn.countP id
structure In1 (e : List (List Int)) (al : List Int) (a : Int) (in0 : List Bool) (i : Nat) (inn : List Bool) : Prop where
  le : Le' in0 inn
  len : inn.length = e.length
  snd : ∀ x, Valid e x → Mk' inn x → Rch e al a x
  dn : ∀ i', i' < i → (nth al i' = a ∨ Mk' in0 (nth al i')) → ∀ y ∈ row e (nth al i'), y ∈ al → Mk' inn y
structure In2 (e : List (List Int)) (al : List Int) (a : Int) (in0 : List Bool) (i j : Nat) (inn : List Bool) : Prop where
  one : In1 e al a in0 i inn
  now : ∀ y ∈ (row e (nth al i)).take j, y ∈ al → Mk' inn y
theorem In1.begin {e : List (List Int)} {al : List Int} {a : Int} {in0 : List Bool} {i : Nat} {inn : List Bool} (h : In1 e al a in0 i inn) : In2 e al a in0 i 0 inn := ⟨h, by simp⟩
theorem In2.fin {e : List (List Int)} {al : List Int} {a : Int} {in0 : List Bool} {i j : Nat} {inn : List Bool} (h : In2 e al a in0 i j inn) (hc : (¬ nth al i = a ∧ nth inn (nth al i).toNat = false) ∨ ¬ j < (row e (nth al i)).length) : In1 e al a in0 (i + 1) inn := by
  refine ⟨h.one.le, h.one.len, h.one.snd, fun i' hi hx y hy hs => ?_⟩
  by_cases e1 : i' = i
  · subst e1
    rcases hc with ⟨h1, h2⟩ | h1
    · rcases hx with h3 | h3
      · exact absurd h3 h1
      · have h4 := h.one.le.le _ h3; rw [h2] at h4; cases h4
    · have := h.now
      rw [List.take_of_length_le (by omega)] at this
      exact this y hy hs
  · exact h.one.dn i' (by omega) hx y hy hs
theorem In2.skip {e : List (List Int)} {al : List Int} {a : Int} {in0 : List Bool} {i j : Nat} {inn : List Bool} (h : In2 e al a in0 i j inn) (hj : j < (row e (nth al i)).length) (hn : nth (row e (nth al i)) j ∉ al) : In2 e al a in0 i (j + 1) inn := by
  refine ⟨h.one, fun y hy hs => ?_⟩
  rw [List.take_add_one, List.getElem?_eq_getElem hj] at hy
  rcases List.mem_append.1 hy with h3 | h3
  · exact h.now y h3 hs
  · rw [nth_eq hj] at hn
    obtain rfl : y = (row e (nth al i))[j] := by simpa using h3
    exact absurd hs hn
theorem In2.add {e : List (List Int)} {al : List Int} {a : Int} {in0 : List Bool} {i j : Nat} {inn : List Bool} (h : In2 e al a in0 i j inn) (hi : i < al.length) (hv : ∀ x ∈ al, Valid e x) (hj : j < (row e (nth al i)).length) (hc : nth al i = a ∨ nth inn (nth al i).toNat = true) (hn : nth (row e (nth al i)) j ∈ al) : In2 e al a in0 i (j + 1) (inn.set (nth (row e (nth al i)) j).toNat true) := by
  have hy := hv _ hn
  have hyl : (nth (row e (nth al i)) j).toNat < inn.length := by have := hy.1; have := hy.2; rw [h.one.len]; omega
  have up : ∀ y, y ∈ al → Mk' inn y → Mk' (inn.set (nth (row e (nth al i)) j).toNat true) y := fun y hs hm => (mk_set hy.1 hyl (hv y hs).1).2 (.inr hm)
  refine ⟨⟨h.one.le.set hyl, by rw [List.length_set]; exact h.one.len, fun x hx hm => ?_, fun i' h1 h2 y h3 hs => up y hs (h.one.dn i' h1 h2 y h3 hs)⟩, fun y h1 hs => ?_⟩
  · rcases (mk_set hy.1 hyl hx.1).1 hm with h1 | h1
    · subst h1
      rcases hc with h2 | h2
      · rw [← h2]; exact .one (nthI_mem hj) hn
      · exact .step (h.one.snd _ (hv _ (nthI_mem hi)) h2) (nthI_mem hj) hn
    · exact h.one.snd x hx h1
  · rw [List.take_add_one, List.getElem?_eq_getElem hj] at h1
    rcases List.mem_append.1 h1 with h3 | h3
    · exact up y hs (h.now y h3 hs)
    · have h4 : y = nth (row e (nth al i)) j := by rw [nth_eq hj]; simpa using h3
      exact (mk_set hy.1 hyl (hv y hs).1).2 (.inl h4)
theorem RInv.begin {e : List (List Int)} {al : List Int} {a : Int} {r : Nat} {inn : List Bool} (h : RInv e al a r inn) : In1 e al a inn 0 inn := ⟨.refl _, h.len, h.snd, fun i' hi => absurd hi (Nat.not_lt_zero _)⟩
theorem RInv.next {e : List (List Int)} {al : List Int} {a : Int} {r i : Nat} {in0 inn : List Bool} (h : RInv e al a r in0) (k : In1 e al a in0 i inn) (hi : ¬ i < al.length) (ha : a ∈ al) (hv : ∀ x ∈ al, Valid e x) : RInv e al a (r + 1) inn := by
  refine ⟨k.len, k.snd, ?_⟩
  rcases h.cl with h1 | h1
  · exact .inl fun x hx => k.le.le _ (h1 x hx)
  · rcases k.le.cnt with h2 | h2
    · exact .inr (by omega)
    · subst h2
      left
      intro x hx
      have key : ∀ z, z ∈ al → (z = a ∨ Mk' in0 z) → ∀ y ∈ row e z, y ∈ al → Mk' in0 y := fun z hz hc => by
        obtain ⟨i', hi', rfl⟩ := List.mem_iff_getElem.1 hz
        have := k.dn i' (by omega)
        rw [nth_eq hi'] at this
        exact this hc
      exact (hx.closed (S := fun z => z ∈ al ∧ Mk' in0 z) (fun y hy hs => ⟨hs, key a ha (.inl rfl) y hy hs⟩) fun z hz y hy hs => ⟨hs, key z hz.1 (.inr hz.2) y hy hs⟩).2
theorem cnt_le (l : List Bool) : l.countP id ≤ l.length := List.countP_le_length
theorem RInv.fin {e : List (List Int)} {al : List Int} {a : Int} {r : Nat} {inn : List Bool} (h : RInv e al a r inn) (hr : ¬ r ≤ e.length) (P : Prop) [Decidable P] {b : Int} (hb : Valid e b) (hP : P ↔ Rch e al a b) : nth inn b.toNat = decide P := by
  have h1 : ∀ x, Rch e al a x → Mk' inn x := by
    rcases h.cl with h1 | h1
    · exact h1
    · have := cnt_le inn; rw [h.len] at this; omega
  by_cases e1 : Rch e al a b
  · rw [decide_eq_true (hP.2 e1)]; exact h1 b e1
  · rw [decide_eq_false fun h => e1 (hP.1 h)]
    cases e2 : nth inn b.toNat
    · rfl
    · exact absurd (h.snd b hb e2) e1
theorem RInv.start (e : List (List Int)) (al : List Int) (a : Int) : RInv e al a 0 (List.replicate e.length false) := ⟨by simp, fun x _ h => (by
  unfold Mk' nth at h
  rw [List.getD_eq_getElem?_getD, List.getElem?_replicate] at h
  split at h <;> cases h), .inr (Nat.zero_le _)⟩
set_option maxRecDepth 100000 in
set_option maxHeartbeats 4000000 in
theorem rbelow_ok {H0 : AHeap} (e : List (List Int)) (vE : Value) (hE : Sl2Z intv (Rd H0) vE e) (hr : Sized e) (al : List Int) (vK : Value) (hK : Sl intv H0 vK al) (hk : al.length ≤ 1000000) (a b : Int) (ha : a ∈ al) (hbv : Valid e b) (hsv : ∀ x ∈ al, Valid e x) (p : Prop) [Decidable p] (hP : p ↔ Rch e al a b) : ACalls Try.prog 27 [vE, vK, .int .i64 a, .int .i64 b] H0 (Rets (.bool (decide p)) H0) := by
  have hF : Wd Fence.wide := .inl rfl
  have hM : Try.prog.follows .mixedOrders = true := by kernel_rfl
  have hel := hr.1
  have hb1 := hbv.1
  have hb2 := hbv.2
  have s0 := St.begin H0
  refine acalls_st Try.func27 rfl Try.ntmps27 rfl ?_
  refine awp_seq ?_
  refine awp_regs hF ?_
  refine dv (gyes_none rfl) (q_as (v := .bool false) rfl) rfl (by decide) (cok1 (cconst rfl)) ?_
  refine ⟨_, Wk.refl _ _, ?_⟩
  show awp _ _ _ _ _ _ _
  refine awp_seq ?_
  refine awp_regs hF ?_
  refine dv (gyes_none rfl) (q_mv (v := vE) rfl) rfl (by decide) (cok1 trivial) ?_
  refine dv (gyes_none rfl) (q_len_sl2 s0 Try.underlying22 hE rfl) rfl (by decide) (cok1 trivial) ?_
  refine x_new (fun b => .slice (some ⟨b, 0, none⟩) e.length e.length) s0 (gyes_none rfl) (q_makeSlice1 (len := e.length) (m := e.length) rfl Try.underlying32 Try.typeInfo4 rfl Try.zeroValue4 rfl rfl rfl rfl (by omega) (by omega) (by show 1 * _ ≤ _; omega) (vs := (List.replicate e.length false).map boolv) (by simp [boolv])) rfl (by decide) (cok2 trivial trivial) (fun b1 H2 hb4 s3 => ?_)
  refine dv (gyes_none rfl) (q_as (v := .slice (some ⟨b1, 0, none⟩) e.length e.length) rfl) rfl (by decide) (cok1 trivial) ?_
  refine ⟨_, Wk.refl _ _, ?_⟩
  show awp _ _ _ _ _ _ _
  refine awp_seq ?_
  refine awp_seq ?_
  refine awp_regs hF ?_
  refine dv (gyes_none rfl) (q_as (v := .int .i64 0) rfl) rfl (by decide) (cok1 (cconst rfl)) ?_
  refine ⟨_, Wk.refl _ _, ?_⟩
  show awp _ _ _ _ _ _ _
  refine awp_block ?_
  refine awp_wk (Wk.U [(0, vE), (1, vK), (2, .int .i64 a), (3, .int .i64 b), (9, .slice (some ⟨b1, 0, none⟩) e.length e.length), (10, .int .i64 0)] ⟨rfl, rfl, rfl, rfl, rfl, rfl, trivial⟩) ?_
  refine awp_loop (fun ((r, inn) : Nat × (List Bool)) st => ∃ (H5 : AHeap) (bi : Nat), st = ⟨75, U [(0, vE), (1, vK), (2, .int .i64 a), (3, .int .i64 b), (9, .slice (some ⟨bi, 0, none⟩) e.length e.length), (10, .int .i64 ((r : Nat) : Int))], [], H5⟩ ∧ St H0 (none0) (Rd H0) H5 [(bi, .cells true (inn.map boolv) 1)] ∧ (RInv e al a r inn)) (fun ((r, inn) : Nat × (List Bool)) => e.length + 1 - r) (x0 := (0, (List.replicate e.length false))) ?h0 ?round
  case h0 =>
    exact ⟨_, _, rfl, s3, RInv.start e al a⟩
  case round =>
    rintro ⟨r, inn⟩ _ ⟨H5, bi, rfl, s6, hr1⟩
    dsimp only at *
    refine awp_seq ?_
    refine awp_seq ?_
    refine awp_regs hF ?_
    refine dv (gyes_none rfl) (q_mv (v := .int .i64 ((r : Nat) : Int)) rfl) rfl (by decide) (cok1 trivial) ?_
    refine dv (gyes_none rfl) (q_mv (v := vE) rfl) rfl (by decide) (cok1 trivial) ?_
    refine dv (gyes_none rfl) (q_len_sl2 s6 Try.underlying22 hE rfl) rfl (by decide) (cok1 trivial) ?_
    refine dvb (gyes_none rfl) (q_int rfl rfl rfl) rfl (by decide) (cok2 trivial trivial) (fun c1 => ?_) (fun c1 => ?_)
    ·
      replace c1 := of_decide_eq_true c1
      have hil := hr1.len
      refine ⟨_, Wk.refl _ _, ?_⟩
      show awp _ _ _ _ _ _ _
      refine awp_cond_t rfl ?_
      refine awp_skip_wk ?_
      refine ⟨_, Wk.refl _ _, ?_⟩
      show awp _ _ _ _ _ _ _
      refine awp_seq ?_
      refine awp_block ?_
      refine awp_seq ?_
      refine awp_regs hF ?_
      refine dv (gyes_none rfl) (q_as (v := .int .i64 0) rfl) rfl (by decide) (cok1 (cconst rfl)) ?_
      refine ⟨_, Wk.refl _ _, ?_⟩
      show awp _ _ _ _ _ _ _
      refine awp_block ?_
      refine awp_wk (Wk.U [(0, vE), (1, vK), (2, .int .i64 a), (3, .int .i64 b), (9, .slice (some ⟨bi, 0, none⟩) e.length e.length), (10, .int .i64 ((r : Nat) : Int)), (11, .int .i64 0)] ⟨rfl, rfl, rfl, rfl, rfl, rfl, rfl, trivial⟩) ?_
      refine awp_loop (fun ((i, in1) : Nat × (List Bool)) st => ∃ (H7 : AHeap) (bi : Nat), st = ⟨75, U [(0, vE), (1, vK), (2, .int .i64 a), (3, .int .i64 b), (9, .slice (some ⟨bi, 0, none⟩) e.length e.length), (10, .int .i64 ((r : Nat) : Int)), (11, .int .i64 ((i : Nat) : Int))], [], H7⟩ ∧ St H0 (none0) (Rd H0) H7 [(bi, .cells true (in1.map boolv) 1)] ∧ (In1 e al a inn i in1)) (fun ((i, in1) : Nat × (List Bool)) => al.length - i) (x0 := (0, inn)) ?h0 ?round
      case h0 =>
        exact ⟨_, _, rfl, s6, hr1.begin⟩
      case round =>
        rintro ⟨i, in1⟩ _ ⟨H7, bi, rfl, s8, h1⟩
        dsimp only at *
        refine awp_seq ?_
        refine awp_seq ?_
        refine awp_regs hF ?_
        refine dv (gyes_none rfl) (q_mv (v := .int .i64 ((i : Nat) : Int)) rfl) rfl (by decide) (cok1 trivial) ?_
        refine dv (gyes_none rfl) (q_mv (v := vK) rfl) rfl (by decide) (cok1 trivial) ?_
        refine dv (gyes_none rfl) (q_len_sl (l := al) Try.underlying23 (s8.sl hK) rfl) rfl (by decide) (cok1 trivial) ?_
        refine dvb (gyes_none rfl) (q_int rfl rfl rfl) rfl (by decide) (cok2 trivial trivial) (fun c2 => ?_) (fun c2 => ?_)
        ·
          replace c2 := of_decide_eq_true c2
          have hva : Valid e (nth al i) := hsv _ (nthI_mem (by omega))
          have hrl : (row e (nth al i)).length ≤ 1000000 := hr.2 _ (row_mem hva)
          have hva1 := hva.1
          have hva2 := hva.2
          refine ⟨_, Wk.refl _ _, ?_⟩
          show awp _ _ _ _ _ _ _
          refine awp_cond_t rfl ?_
          refine awp_skip_wk ?_
          refine ⟨_, Wk.refl _ _, ?_⟩
          show awp _ _ _ _ _ _ _
          refine awp_seq ?_
          refine awp_block ?_
          refine awp_seq ?_
          refine awp_regs hF ?_
          refine dv (gyes_none rfl) (q_mv (v := vK) rfl) rfl (by decide) (cok1 trivial) ?_
          refine dv (gyes_none rfl) (q_mv (v := .int .i64 ((i : Nat) : Int)) rfl) rfl (by decide) (cok1 trivial) ?_
          refine dv (gyes_none rfl) (q_index_sl (l := al) (i := i) Try.underlying23 Try.sizeOf3 (s8.sl hK) rfl rfl (by omega)) rfl (by decide) (cok2 trivial trivial) ?_
          refine dv (gyes_none rfl) (q_load_sl (l := al) (i := i) Try.isAgg3 (s8.sl hK) rfl (by omega)) rfl (by decide) (cok1 trivial) ?_
          refine dv (gyes_none rfl) (q_as (v := .int .i64 (nth al i)) rfl) rfl (by decide) (cok1 trivial) ?_
          refine ⟨_, Wk.refl _ _, ?_⟩
          show awp _ _ _ _ _ _ _
          refine awp_seq ?_
          refine awp_regs hF ?_
          refine dv (gyes_none rfl) (q_as (v := .int .i64 0) rfl) rfl (by decide) (cok1 (cconst rfl)) ?_
          refine ⟨_, Wk.refl _ _, ?_⟩
          show awp _ _ _ _ _ _ _
          refine awp_block ?_
          refine awp_wk (Wk.U [(0, vE), (1, vK), (2, .int .i64 a), (3, .int .i64 b), (9, .slice (some ⟨bi, 0, none⟩) e.length e.length), (10, .int .i64 ((r : Nat) : Int)), (11, .int .i64 ((i : Nat) : Int)), (12, .int .i64 (nth al i)), (13, .int .i64 0)] ⟨rfl, rfl, rfl, rfl, rfl, rfl, rfl, rfl, rfl, trivial⟩) ?_
          refine awp_loop (fun ((j, in2) : Nat × (List Bool)) st => ∃ (H9 : AHeap) (bi : Nat), st = ⟨75, U [(0, vE), (1, vK), (2, .int .i64 a), (3, .int .i64 b), (9, .slice (some ⟨bi, 0, none⟩) e.length e.length), (10, .int .i64 ((r : Nat) : Int)), (11, .int .i64 ((i : Nat) : Int)), (12, .int .i64 (nth al i)), (13, .int .i64 ((j : Nat) : Int))], [], H9⟩ ∧ St H0 (none0) (Rd H0) H9 [(bi, .cells true (in2.map boolv) 1)] ∧ (In2 e al a inn i j in2)) (fun ((j, in2) : Nat × (List Bool)) => (row e (nth al i)).length - j) (x0 := (0, in1)) ?h0 ?round
          case h0 =>
            exact ⟨_, _, rfl, s8, h1.begin⟩
          case round =>
            rintro ⟨j, in2⟩ _ ⟨H9, bi, rfl, s10, h2⟩
            dsimp only at *
            refine awp_seq ?_
            refine awp_seq ?_
            refine awp_regs hF ?_
            refine dv (gyes_none rfl) (q_mv (v := .int .i64 (nth al i)) rfl) rfl (by decide) (cok1 trivial) ?_
            refine dv (gyes_none rfl) (q_mv (v := .int .i64 a) rfl) rfl (by decide) (cok1 trivial) ?_
            refine dvb (gyes_none rfl) (q_int rfl rfl rfl) rfl (by decide) (cok2 trivial trivial) (fun c3 => ?_) (fun c3 => ?_)
            ·
              replace c3 := eq_of_beq c3
              try have hil := h2.one.len
              refine dv (gyes_none rfl) (q_mv (v := .bool true) rfl) rfl (by decide) (cok1 trivial) ?_
              refine dno rfl (.inl rfl) rfl (by decide) ?_
              refine dno rfl (.inl rfl) rfl (by decide) ?_
              refine dno rfl (.inl rfl) rfl (by decide) ?_
              refine dno rfl (.inl rfl) rfl (by decide) ?_
              refine dv (gyes_none rfl) (q_pt (v := .bool true) rfl rfl) rfl (by decide) (call_ok rfl) ?_
              refine dv (gyes_none rfl) (q_mv (v := .bool true) rfl) rfl (by decide) (cok1 trivial) ?_
              refine dv (gyes_some rfl rfl) (q_mv (v := .int .i64 ((j : Nat) : Int)) rfl) rfl (by decide) (cok1 trivial) ?_
              refine dv (gyes_some rfl rfl) (q_mv (v := vE) rfl) rfl (by decide) (cok1 trivial) ?_
              refine dv (gyes_some rfl rfl) (q_mv (v := .int .i64 (nth al i)) rfl) rfl (by decide) (cok1 trivial) ?_
              refine dv (gyes_some rfl rfl) (q_index_sl2I (z := (nth al i)) s10 Try.underlying22 Try.sizeOf23 hE rfl rfl (by omega) (by omega)) rfl (by decide) (cok2 trivial trivial) ?_
              obtain ⟨u11, hu11, qu11⟩ := Sl2Z.elem hE (i := ((nth al i).toNat)) (by omega)
              refine dv (gyes_some rfl rfl) (qu11 s10 Try.isAgg23 rfl) rfl (by decide) (cok1 trivial) ?_
              refine dv (gyes_some rfl rfl) (q_len_sl (l := row e (nth al i)) Try.underlying23 (s10.sl hu11) rfl) rfl (by decide) (cok1 trivial) ?_
              refine dvb (gyes_some rfl rfl) (q_int rfl rfl rfl) rfl (by decide) (cok2 trivial trivial) (fun c4 => ?_) (fun c4 => ?_)
              ·
                replace c4 := of_decide_eq_true c4
                try have hil := h2.one.len
                refine dv (gyes_none rfl) (q_pt (v := .bool true) rfl rfl) rfl (by decide) (call_ok rfl) ?_
                refine ⟨_, Wk.refl _ _, ?_⟩
                show awp _ _ _ _ _ _ _
                refine awp_cond_t rfl ?_
                refine awp_skip_wk ?_
                refine ⟨_, Wk.refl _ _, ?_⟩
                show awp _ _ _ _ _ _ _
                refine awp_seq ?_
                refine awp_block ?_
                refine awp_seq ?_
                refine awp_regs hF ?_
                refine dv (gyes_none rfl) (q_mv (v := vK) rfl) rfl (by decide) (cok1 trivial) ?_
                refine dv (gyes_none rfl) (q_mv (v := vE) rfl) rfl (by decide) (cok1 trivial) ?_
                refine dv (gyes_none rfl) (q_mv (v := .int .i64 (nth al i)) rfl) rfl (by decide) (cok1 trivial) ?_
                refine dv (gyes_none rfl) (q_index_sl2I (z := (nth al i)) s10 Try.underlying22 Try.sizeOf23 hE rfl rfl (by omega) (by omega)) rfl (by decide) (cok2 trivial trivial) ?_
                obtain ⟨u12, hu12, qu12⟩ := Sl2Z.elem hE (i := ((nth al i).toNat)) (by omega)
                refine dv (gyes_none rfl) (qu12 s10 Try.isAgg23 rfl) rfl (by decide) (cok1 trivial) ?_
                refine dv (gyes_none rfl) (q_mv (v := .int .i64 ((j : Nat) : Int)) rfl) rfl (by decide) (cok1 trivial) ?_
                refine dv (gyes_none rfl) (q_index_sl (l := row e (nth al i)) (i := j) Try.underlying23 Try.sizeOf3 (s10.sl hu12) rfl rfl (by omega)) rfl (by decide) (cok2 trivial trivial) ?_
                refine dv (gyes_none rfl) (q_load_sl (l := row e (nth al i)) (i := j) Try.isAgg3 (s10.sl hu12) rfl (by omega)) rfl (by decide) (cok1 trivial) ?_
                refine dvb (gyes_none rfl) (q_call0 Try.call14 rfl (in_ok al _ (s10.sl hK) (by omega) (nth (row e (nth al i)) j))) rfl (by decide) (call_ok rfl) (fun c5 => ?_) (fun c5 => ?_)
                ·
                  replace c5 := of_decide_eq_true c5
                  have hvy : Valid e (nth (row e (nth al i)) j) := hsv _ (by assumption)
                  have hvy1 := hvy.1
                  have hvy2 := hvy.2
                  have hil := h2.one.len
                  refine ⟨_, Wk.refl _ _, ?_⟩
                  show awp _ _ _ _ _ _ _
                  refine awp_cond_t rfl ?_
                  refine awp_regs hF ?_
                  refine dv (gyes_none rfl) (q_mv (v := .slice (some ⟨bi, 0, none⟩) e.length e.length) rfl) rfl (by decide) (cok1 trivial) ?_
                  refine dv (gyes_none rfl) (q_mv (v := vE) rfl) rfl (by decide) (cok1 trivial) ?_
                  refine dv (gyes_none rfl) (q_mv (v := .int .i64 (nth al i)) rfl) rfl (by decide) (cok1 trivial) ?_
                  refine dv (gyes_none rfl) (q_index_sl2I (z := (nth al i)) s10 Try.underlying22 Try.sizeOf23 hE rfl rfl (by omega) (by omega)) rfl (by decide) (cok2 trivial trivial) ?_
                  obtain ⟨u13, hu13, qu13⟩ := Sl2Z.elem hE (i := ((nth al i).toNat)) (by omega)
                  refine dv (gyes_none rfl) (qu13 s10 Try.isAgg23 rfl) rfl (by decide) (cok1 trivial) ?_
                  refine dv (gyes_none rfl) (q_mv (v := .int .i64 ((j : Nat) : Int)) rfl) rfl (by decide) (cok1 trivial) ?_
                  refine dv (gyes_none rfl) (q_index_sl (l := row e (nth al i)) (i := j) Try.underlying23 Try.sizeOf3 (s10.sl hu13) rfl rfl (by omega)) rfl (by decide) (cok2 trivial trivial) ?_
                  refine dv (gyes_none rfl) (q_load_sl (l := row e (nth al i)) (i := j) Try.isAgg3 (s10.sl hu13) rfl (by omega)) rfl (by decide) (cok1 trivial) ?_
                  refine dv (gyes_none rfl) (OpQ.cast (v' := .pointer (some ⟨bi, (nth (row e (nth al i)) j).toNat, none⟩)) (q_indexI1 (z := (nth (row e (nth al i)) j)) Try.underlying32 Try.sizeOf4 rfl rfl (by omega) (by omega) (s10.rd (j := 0) rfl)) (by rw [Nat.zero_add])) rfl (by decide) (cok2 trivial trivial) ?_
                  refine x_store1 [] hF s10 (by kernel_rfl) (gyes_none rfl) (j := 0) (v := boolv true) rfl Try.sizeOf4 rfl rfl rfl (lc_scalar rfl) (by rw [List.length_map]; omega) trivial (cconst rfl) rfl rfl (F' := [(bi, .cells true ((in2.set ((nth (row e (nth al i)) j).toNat) true).map boolv) 1)]) (by simp only [set_map1]; rfl) (fun H14 s15 => ⟨?_, ?_⟩)
                  · exact trivial
                  refine ⟨_, Wk.refl _ _, ?_⟩
                  show awp _ _ _ _ _ _ _
                  refine awp_regs hF ?_
                  refine dv (gyes_none rfl) (q_mv (v := .int .i64 ((j : Nat) : Int)) rfl) rfl (by decide) (cok1 trivial) ?_
                  refine dv (gyes_none rfl) (OpQ.cast (v' := .int .i64 ((j + 1 : Nat) : Int)) (q_int rfl rfl rfl) (congrArg _ ((i64_in (by omega)).trans (by first | rfl | omega | (push_cast; rfl))))) rfl (by decide) (cok2 trivial (cconst rfl)) ?_
                  refine dv (gyes_none rfl) (q_as (v := .int .i64 ((j + 1 : Nat) : Int)) rfl) rfl (by decide) (cok1 trivial) ?_
                  refine ⟨_, Wk.U [(0, vE), (1, vK), (2, .int .i64 a), (3, .int .i64 b), (9, .slice (some ⟨bi, 0, none⟩) e.length e.length), (10, .int .i64 ((r : Nat) : Int)), (11, .int .i64 ((i : Nat) : Int)), (12, .int .i64 (nth al i)), (13, .int .i64 (((j + 1) : Nat) : Int))] ⟨rfl, rfl, rfl, rfl, rfl, rfl, rfl, rfl, rfl, trivial⟩, ((j + 1), (in2.set (nth (row e (nth al i)) j).toNat true)), ⟨_, _, rfl, s15, h2.add (by omega) hsv (by omega) (by first | exact .inl (by assumption) | exact .inr (by assumption)) (by assumption)⟩, (by omega)⟩
                ·
                  replace c5 := of_decide_eq_false c5
                  refine ⟨_, Wk.refl _ _, ?_⟩
                  show awp _ _ _ _ _ _ _
                  refine awp_cond_f rfl ?_
                  refine awp_skip_wk ?_
                  refine ⟨_, Wk.refl _ _, ?_⟩
                  show awp _ _ _ _ _ _ _
                  refine awp_regs hF ?_
                  refine dv (gyes_none rfl) (q_mv (v := .int .i64 ((j : Nat) : Int)) rfl) rfl (by decide) (cok1 trivial) ?_
                  refine dv (gyes_none rfl) (OpQ.cast (v' := .int .i64 ((j + 1 : Nat) : Int)) (q_int rfl rfl rfl) (congrArg _ ((i64_in (by omega)).trans (by first | rfl | omega | (push_cast; rfl))))) rfl (by decide) (cok2 trivial (cconst rfl)) ?_
                  refine dv (gyes_none rfl) (q_as (v := .int .i64 ((j + 1 : Nat) : Int)) rfl) rfl (by decide) (cok1 trivial) ?_
                  refine ⟨_, Wk.U [(0, vE), (1, vK), (2, .int .i64 a), (3, .int .i64 b), (9, .slice (some ⟨bi, 0, none⟩) e.length e.length), (10, .int .i64 ((r : Nat) : Int)), (11, .int .i64 ((i : Nat) : Int)), (12, .int .i64 (nth al i)), (13, .int .i64 (((j + 1) : Nat) : Int))] ⟨rfl, rfl, rfl, rfl, rfl, rfl, rfl, rfl, rfl, trivial⟩, ((j + 1), in2), ⟨_, _, rfl, s10, h2.skip (by omega) (by assumption)⟩, (by omega)⟩
              ·
                replace c4 := of_decide_eq_false c4
                try have hil := h2.one.len
                refine dv (gyes_none rfl) (q_pt (v := .bool false) rfl rfl) rfl (by decide) (call_ok rfl) ?_
                refine ⟨_, Wk.refl _ _, ?_⟩
                show awp _ _ _ _ _ _ _
                refine awp_cond_f rfl ?_
                refine awp_exit_wk ?_
                refine ⟨_, Wk.refl _ _, ?_⟩
                show awp _ _ _ _ _ _ _
                refine awp_regs hF ?_
                refine dv (gyes_none rfl) (q_mv (v := .int .i64 ((i : Nat) : Int)) rfl) rfl (by decide) (cok1 trivial) ?_
                refine dv (gyes_none rfl) (OpQ.cast (v' := .int .i64 ((i + 1 : Nat) : Int)) (q_int rfl rfl rfl) (congrArg _ ((i64_in (by omega)).trans (by first | rfl | omega | (push_cast; rfl))))) rfl (by decide) (cok2 trivial (cconst rfl)) ?_
                refine dv (gyes_none rfl) (q_as (v := .int .i64 ((i + 1 : Nat) : Int)) rfl) rfl (by decide) (cok1 trivial) ?_
                have hfin : In1 e al a inn (i + 1) in2 := h2.fin (by first | exact .inl ⟨by assumption, by assumption⟩ | exact .inr (by omega))
                refine ⟨_, Wk.U [(0, vE), (1, vK), (2, .int .i64 a), (3, .int .i64 b), (9, .slice (some ⟨bi, 0, none⟩) e.length e.length), (10, .int .i64 ((r : Nat) : Int)), (11, .int .i64 (((i + 1) : Nat) : Int))] ⟨rfl, rfl, rfl, rfl, rfl, rfl, rfl, trivial⟩, ((i + 1), in2), ⟨_, _, rfl, s10, hfin⟩, (by omega)⟩
            ·
              replace c3 := ne_of_beq_false c3
              try have hil := h2.one.len
              refine dv (gyes_none rfl) (q_mv (v := .bool false) rfl) rfl (by decide) (cok1 trivial) ?_
              refine dv (gyes_some rfl rfl) (q_mv (v := .slice (some ⟨bi, 0, none⟩) e.length e.length) rfl) rfl (by decide) (cok1 trivial) ?_
              refine dv (gyes_some rfl rfl) (q_mv (v := .int .i64 (nth al i)) rfl) rfl (by decide) (cok1 trivial) ?_
              refine dv (gyes_some rfl rfl) (OpQ.cast (v' := .pointer (some ⟨bi, (nth al i).toNat, none⟩)) (q_indexI1 (z := (nth al i)) Try.underlying32 Try.sizeOf4 rfl rfl (by omega) (by omega) (s10.rd (j := 0) rfl)) (by rw [Nat.zero_add])) rfl (by decide) (cok2 trivial trivial) ?_
              refine dvb (gyes_some rfl rfl) (q_load (v := boolv (nth in2 ((nth al i).toNat))) Try.isAgg4 rfl (s10.rd (j := 0) rfl) (get_nth (w := 0) (by omega))) rfl (by decide) (cok1 trivial) (fun c6 => ?_) (fun c6 => ?_)
              ·
                try have hil := h2.one.len
                refine dv (gyes_none rfl) (q_pf (v := .bool true) rfl rfl) rfl (by decide) (call_ok rfl) ?_
                refine dv (gyes_none rfl) (q_mv (v := .bool true) rfl) rfl (by decide) (cok1 trivial) ?_
                refine dv (gyes_some rfl rfl) (q_mv (v := .int .i64 ((j : Nat) : Int)) rfl) rfl (by decide) (cok1 trivial) ?_
                refine dv (gyes_some rfl rfl) (q_mv (v := vE) rfl) rfl (by decide) (cok1 trivial) ?_
                refine dv (gyes_some rfl rfl) (q_mv (v := .int .i64 (nth al i)) rfl) rfl (by decide) (cok1 trivial) ?_
                refine dv (gyes_some rfl rfl) (q_index_sl2I (z := (nth al i)) s10 Try.underlying22 Try.sizeOf23 hE rfl rfl (by omega) (by omega)) rfl (by decide) (cok2 trivial trivial) ?_
                obtain ⟨u16, hu16, qu16⟩ := Sl2Z.elem hE (i := ((nth al i).toNat)) (by omega)
                refine dv (gyes_some rfl rfl) (qu16 s10 Try.isAgg23 rfl) rfl (by decide) (cok1 trivial) ?_
                refine dv (gyes_some rfl rfl) (q_len_sl (l := row e (nth al i)) Try.underlying23 (s10.sl hu16) rfl) rfl (by decide) (cok1 trivial) ?_
                refine dvb (gyes_some rfl rfl) (q_int rfl rfl rfl) rfl (by decide) (cok2 trivial trivial) (fun c7 => ?_) (fun c7 => ?_)
                ·
                  replace c7 := of_decide_eq_true c7
                  try have hil := h2.one.len
                  refine dv (gyes_none rfl) (q_pt (v := .bool true) rfl rfl) rfl (by decide) (call_ok rfl) ?_
                  refine ⟨_, Wk.refl _ _, ?_⟩
                  show awp _ _ _ _ _ _ _
                  refine awp_cond_t rfl ?_
                  refine awp_skip_wk ?_
                  refine ⟨_, Wk.refl _ _, ?_⟩
                  show awp _ _ _ _ _ _ _
                  refine awp_seq ?_
                  refine awp_block ?_
                  refine awp_seq ?_
                  refine awp_regs hF ?_
                  refine dv (gyes_none rfl) (q_mv (v := vK) rfl) rfl (by decide) (cok1 trivial) ?_
                  refine dv (gyes_none rfl) (q_mv (v := vE) rfl) rfl (by decide) (cok1 trivial) ?_
                  refine dv (gyes_none rfl) (q_mv (v := .int .i64 (nth al i)) rfl) rfl (by decide) (cok1 trivial) ?_
                  refine dv (gyes_none rfl) (q_index_sl2I (z := (nth al i)) s10 Try.underlying22 Try.sizeOf23 hE rfl rfl (by omega) (by omega)) rfl (by decide) (cok2 trivial trivial) ?_
                  obtain ⟨u17, hu17, qu17⟩ := Sl2Z.elem hE (i := ((nth al i).toNat)) (by omega)
                  refine dv (gyes_none rfl) (qu17 s10 Try.isAgg23 rfl) rfl (by decide) (cok1 trivial) ?_
                  refine dv (gyes_none rfl) (q_mv (v := .int .i64 ((j : Nat) : Int)) rfl) rfl (by decide) (cok1 trivial) ?_
                  refine dv (gyes_none rfl) (q_index_sl (l := row e (nth al i)) (i := j) Try.underlying23 Try.sizeOf3 (s10.sl hu17) rfl rfl (by omega)) rfl (by decide) (cok2 trivial trivial) ?_
                  refine dv (gyes_none rfl) (q_load_sl (l := row e (nth al i)) (i := j) Try.isAgg3 (s10.sl hu17) rfl (by omega)) rfl (by decide) (cok1 trivial) ?_
                  refine dvb (gyes_none rfl) (q_call0 Try.call14 rfl (in_ok al _ (s10.sl hK) (by omega) (nth (row e (nth al i)) j))) rfl (by decide) (call_ok rfl) (fun c8 => ?_) (fun c8 => ?_)
                  ·
                    replace c8 := of_decide_eq_true c8
                    have hvy : Valid e (nth (row e (nth al i)) j) := hsv _ (by assumption)
                    have hvy1 := hvy.1
                    have hvy2 := hvy.2
                    have hil := h2.one.len
                    refine ⟨_, Wk.refl _ _, ?_⟩
                    show awp _ _ _ _ _ _ _
                    refine awp_cond_t rfl ?_
                    refine awp_regs hF ?_
                    refine dv (gyes_none rfl) (q_mv (v := .slice (some ⟨bi, 0, none⟩) e.length e.length) rfl) rfl (by decide) (cok1 trivial) ?_
                    refine dv (gyes_none rfl) (q_mv (v := vE) rfl) rfl (by decide) (cok1 trivial) ?_
                    refine dv (gyes_none rfl) (q_mv (v := .int .i64 (nth al i)) rfl) rfl (by decide) (cok1 trivial) ?_
                    refine dv (gyes_none rfl) (q_index_sl2I (z := (nth al i)) s10 Try.underlying22 Try.sizeOf23 hE rfl rfl (by omega) (by omega)) rfl (by decide) (cok2 trivial trivial) ?_
                    obtain ⟨u18, hu18, qu18⟩ := Sl2Z.elem hE (i := ((nth al i).toNat)) (by omega)
                    refine dv (gyes_none rfl) (qu18 s10 Try.isAgg23 rfl) rfl (by decide) (cok1 trivial) ?_
                    refine dv (gyes_none rfl) (q_mv (v := .int .i64 ((j : Nat) : Int)) rfl) rfl (by decide) (cok1 trivial) ?_
                    refine dv (gyes_none rfl) (q_index_sl (l := row e (nth al i)) (i := j) Try.underlying23 Try.sizeOf3 (s10.sl hu18) rfl rfl (by omega)) rfl (by decide) (cok2 trivial trivial) ?_
                    refine dv (gyes_none rfl) (q_load_sl (l := row e (nth al i)) (i := j) Try.isAgg3 (s10.sl hu18) rfl (by omega)) rfl (by decide) (cok1 trivial) ?_
                    refine dv (gyes_none rfl) (OpQ.cast (v' := .pointer (some ⟨bi, (nth (row e (nth al i)) j).toNat, none⟩)) (q_indexI1 (z := (nth (row e (nth al i)) j)) Try.underlying32 Try.sizeOf4 rfl rfl (by omega) (by omega) (s10.rd (j := 0) rfl)) (by rw [Nat.zero_add])) rfl (by decide) (cok2 trivial trivial) ?_
                    refine x_store1 [] hF s10 (by kernel_rfl) (gyes_none rfl) (j := 0) (v := boolv true) rfl Try.sizeOf4 rfl rfl rfl (lc_scalar rfl) (by rw [List.length_map]; omega) trivial (cconst rfl) rfl rfl (F' := [(bi, .cells true ((in2.set ((nth (row e (nth al i)) j).toNat) true).map boolv) 1)]) (by simp only [set_map1]; rfl) (fun H19 s20 => ⟨?_, ?_⟩)
                    · exact trivial
                    refine ⟨_, Wk.refl _ _, ?_⟩
                    show awp _ _ _ _ _ _ _
                    refine awp_regs hF ?_
                    refine dv (gyes_none rfl) (q_mv (v := .int .i64 ((j : Nat) : Int)) rfl) rfl (by decide) (cok1 trivial) ?_
                    refine dv (gyes_none rfl) (OpQ.cast (v' := .int .i64 ((j + 1 : Nat) : Int)) (q_int rfl rfl rfl) (congrArg _ ((i64_in (by omega)).trans (by first | rfl | omega | (push_cast; rfl))))) rfl (by decide) (cok2 trivial (cconst rfl)) ?_
                    refine dv (gyes_none rfl) (q_as (v := .int .i64 ((j + 1 : Nat) : Int)) rfl) rfl (by decide) (cok1 trivial) ?_
                    refine ⟨_, Wk.U [(0, vE), (1, vK), (2, .int .i64 a), (3, .int .i64 b), (9, .slice (some ⟨bi, 0, none⟩) e.length e.length), (10, .int .i64 ((r : Nat) : Int)), (11, .int .i64 ((i : Nat) : Int)), (12, .int .i64 (nth al i)), (13, .int .i64 (((j + 1) : Nat) : Int))] ⟨rfl, rfl, rfl, rfl, rfl, rfl, rfl, rfl, rfl, trivial⟩, ((j + 1), (in2.set (nth (row e (nth al i)) j).toNat true)), ⟨_, _, rfl, s20, h2.add (by omega) hsv (by omega) (by first | exact .inl (by assumption) | exact .inr (by assumption)) (by assumption)⟩, (by omega)⟩
                  ·
                    replace c8 := of_decide_eq_false c8
                    refine ⟨_, Wk.refl _ _, ?_⟩
                    show awp _ _ _ _ _ _ _
                    refine awp_cond_f rfl ?_
                    refine awp_skip_wk ?_
                    refine ⟨_, Wk.refl _ _, ?_⟩
                    show awp _ _ _ _ _ _ _
                    refine awp_regs hF ?_
                    refine dv (gyes_none rfl) (q_mv (v := .int .i64 ((j : Nat) : Int)) rfl) rfl (by decide) (cok1 trivial) ?_
                    refine dv (gyes_none rfl) (OpQ.cast (v' := .int .i64 ((j + 1 : Nat) : Int)) (q_int rfl rfl rfl) (congrArg _ ((i64_in (by omega)).trans (by first | rfl | omega | (push_cast; rfl))))) rfl (by decide) (cok2 trivial (cconst rfl)) ?_
                    refine dv (gyes_none rfl) (q_as (v := .int .i64 ((j + 1 : Nat) : Int)) rfl) rfl (by decide) (cok1 trivial) ?_
                    refine ⟨_, Wk.U [(0, vE), (1, vK), (2, .int .i64 a), (3, .int .i64 b), (9, .slice (some ⟨bi, 0, none⟩) e.length e.length), (10, .int .i64 ((r : Nat) : Int)), (11, .int .i64 ((i : Nat) : Int)), (12, .int .i64 (nth al i)), (13, .int .i64 (((j + 1) : Nat) : Int))] ⟨rfl, rfl, rfl, rfl, rfl, rfl, rfl, rfl, rfl, trivial⟩, ((j + 1), in2), ⟨_, _, rfl, s10, h2.skip (by omega) (by assumption)⟩, (by omega)⟩
                ·
                  replace c7 := of_decide_eq_false c7
                  try have hil := h2.one.len
                  refine dv (gyes_none rfl) (q_pt (v := .bool false) rfl rfl) rfl (by decide) (call_ok rfl) ?_
                  refine ⟨_, Wk.refl _ _, ?_⟩
                  show awp _ _ _ _ _ _ _
                  refine awp_cond_f rfl ?_
                  refine awp_exit_wk ?_
                  refine ⟨_, Wk.refl _ _, ?_⟩
                  show awp _ _ _ _ _ _ _
                  refine awp_regs hF ?_
                  refine dv (gyes_none rfl) (q_mv (v := .int .i64 ((i : Nat) : Int)) rfl) rfl (by decide) (cok1 trivial) ?_
                  refine dv (gyes_none rfl) (OpQ.cast (v' := .int .i64 ((i + 1 : Nat) : Int)) (q_int rfl rfl rfl) (congrArg _ ((i64_in (by omega)).trans (by first | rfl | omega | (push_cast; rfl))))) rfl (by decide) (cok2 trivial (cconst rfl)) ?_
                  refine dv (gyes_none rfl) (q_as (v := .int .i64 ((i + 1 : Nat) : Int)) rfl) rfl (by decide) (cok1 trivial) ?_
                  have hfin : In1 e al a inn (i + 1) in2 := h2.fin (by first | exact .inl ⟨by assumption, by assumption⟩ | exact .inr (by omega))
                  refine ⟨_, Wk.U [(0, vE), (1, vK), (2, .int .i64 a), (3, .int .i64 b), (9, .slice (some ⟨bi, 0, none⟩) e.length e.length), (10, .int .i64 ((r : Nat) : Int)), (11, .int .i64 (((i + 1) : Nat) : Int))] ⟨rfl, rfl, rfl, rfl, rfl, rfl, rfl, trivial⟩, ((i + 1), in2), ⟨_, _, rfl, s10, hfin⟩, (by omega)⟩
              ·
                try have hil := h2.one.len
                refine dv (gyes_none rfl) (q_pf (v := .bool false) rfl rfl) rfl (by decide) (call_ok rfl) ?_
                refine dv (gyes_none rfl) (q_mv (v := .bool false) rfl) rfl (by decide) (cok1 trivial) ?_
                refine dno rfl (.inl rfl) rfl (by decide) ?_
                refine dno rfl (.inl rfl) rfl (by decide) ?_
                refine dno rfl (.inl rfl) rfl (by decide) ?_
                refine dno rfl (.inl rfl) rfl (by decide) ?_
                refine dno rfl (.inl rfl) rfl (by decide) ?_
                refine dno rfl (.inl rfl) rfl (by decide) ?_
                refine dno rfl (.inl rfl) rfl (by decide) ?_
                refine dv (gyes_none rfl) (q_pf (v := .bool false) rfl rfl) rfl (by decide) (call_ok rfl) ?_
                refine ⟨_, Wk.refl _ _, ?_⟩
                show awp _ _ _ _ _ _ _
                refine awp_cond_f rfl ?_
                refine awp_exit_wk ?_
                refine ⟨_, Wk.refl _ _, ?_⟩
                show awp _ _ _ _ _ _ _
                refine awp_regs hF ?_
                refine dv (gyes_none rfl) (q_mv (v := .int .i64 ((i : Nat) : Int)) rfl) rfl (by decide) (cok1 trivial) ?_
                refine dv (gyes_none rfl) (OpQ.cast (v' := .int .i64 ((i + 1 : Nat) : Int)) (q_int rfl rfl rfl) (congrArg _ ((i64_in (by omega)).trans (by first | rfl | omega | (push_cast; rfl))))) rfl (by decide) (cok2 trivial (cconst rfl)) ?_
                refine dv (gyes_none rfl) (q_as (v := .int .i64 ((i + 1 : Nat) : Int)) rfl) rfl (by decide) (cok1 trivial) ?_
                have hfin : In1 e al a inn (i + 1) in2 := h2.fin (by first | exact .inl ⟨by assumption, by assumption⟩ | exact .inr (by omega))
                refine ⟨_, Wk.U [(0, vE), (1, vK), (2, .int .i64 a), (3, .int .i64 b), (9, .slice (some ⟨bi, 0, none⟩) e.length e.length), (10, .int .i64 ((r : Nat) : Int)), (11, .int .i64 (((i + 1) : Nat) : Int))] ⟨rfl, rfl, rfl, rfl, rfl, rfl, rfl, trivial⟩, ((i + 1), in2), ⟨_, _, rfl, s10, hfin⟩, (by omega)⟩
        ·
          replace c2 := of_decide_eq_false c2
          refine ⟨_, Wk.refl _ _, ?_⟩
          show awp _ _ _ _ _ _ _
          refine awp_cond_f rfl ?_
          refine awp_exit_wk ?_
          refine ⟨_, Wk.refl _ _, ?_⟩
          show awp _ _ _ _ _ _ _
          refine awp_regs hF ?_
          refine dv (gyes_none rfl) (q_mv (v := .int .i64 ((r : Nat) : Int)) rfl) rfl (by decide) (cok1 trivial) ?_
          refine dv (gyes_none rfl) (OpQ.cast (v' := .int .i64 ((r + 1 : Nat) : Int)) (q_int rfl rfl rfl) (congrArg _ ((i64_in (by omega)).trans (by first | rfl | omega | (push_cast; rfl))))) rfl (by decide) (cok2 trivial (cconst rfl)) ?_
          refine dv (gyes_none rfl) (q_as (v := .int .i64 ((r + 1 : Nat) : Int)) rfl) rfl (by decide) (cok1 trivial) ?_
          refine ⟨_, Wk.U [(0, vE), (1, vK), (2, .int .i64 a), (3, .int .i64 b), (9, .slice (some ⟨bi, 0, none⟩) e.length e.length), (10, .int .i64 (((r + 1) : Nat) : Int))] ⟨rfl, rfl, rfl, rfl, rfl, rfl, trivial⟩, ((r + 1), in1), ⟨_, _, rfl, s8, hr1.next h1 (by omega) ha hsv⟩, (by omega)⟩
    ·
      replace c1 := of_decide_eq_false c1
      have hil := hr1.len
      refine ⟨_, Wk.refl _ _, ?_⟩
      show awp _ _ _ _ _ _ _
      refine awp_cond_f rfl ?_
      refine awp_exit_wk ?_
      refine ⟨_, Wk.refl _ _, ?_⟩
      show awp _ _ _ _ _ _ _
      refine awp_seq ?_
      refine awp_regs hF ?_
      refine dv (gyes_none rfl) (q_mv (v := .slice (some ⟨bi, 0, none⟩) e.length e.length) rfl) rfl (by decide) (cok1 trivial) ?_
      refine dv (gyes_none rfl) (q_mv (v := .int .i64 b) rfl) rfl (by decide) (cok1 trivial) ?_
      refine dv (gyes_none rfl) (OpQ.cast (v' := .pointer (some ⟨bi, b.toNat, none⟩)) (q_indexI1 (z := b) Try.underlying32 Try.sizeOf4 rfl rfl (by omega) (by omega) (s6.rd (j := 0) rfl)) (by rw [Nat.zero_add])) rfl (by decide) (cok2 trivial trivial) ?_
      refine dv (gyes_none rfl) (q_load (v := boolv (nth inn b.toNat)) Try.isAgg4 rfl (s6.rd (j := 0) rfl) (get_nth (w := 0) (by omega))) rfl (by decide) (cok1 trivial) ?_
      refine dv (gyes_none rfl) (q_as (v := .bool (nth inn b.toNat)) rfl) rfl (by decide) (cok1 trivial) ?_
      refine ⟨_, Wk.refl _ _, ?_⟩
      show awp _ _ _ _ _ _ _
      refine awp_ret_wk ?_
      refine ⟨_, Wk.refl _ _, ?_⟩
      repeat (with_reducible first | refine then_ret ?_ | refine blk_ret ?_ | refine then_exit ?_ | refine blk_exit ?_ | refine blk_exit' (by decide) ?_ | refine blk_normal ?_ | refine then_normal ?_ | refine retq_ret ?_ | refine retq_normal ?_ | refine ng_normal ?_ | refine ng_ret ?_ | refine ng_exit ?_)
      exact ret_none (v := .bool (nth inn b.toNat)) rfl s6.kp (.tmp rfl .nil) rfl rfl ⟨congrArg _ (hr1.fin (by omega) p hbv hP), rfl⟩

end Go.Proofs.YtbjlabokijchpaaA
