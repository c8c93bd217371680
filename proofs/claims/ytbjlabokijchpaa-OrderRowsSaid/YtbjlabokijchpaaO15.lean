/-
  Walks of functions of the given program, and what they compute.
-/
import Derived.Test.YtbjlabokijchpaaO14
import Derived.Test.YtbjlabokijchpaaProg
import Derived.KernelRfl
namespace Go.Proofs.YtbjlabokijchpaaA
set_option linter.unusedVariables false
open Go Go.RowKit Go.Shelf Go.Proofs
theorem fin_nodup {e : List (List Int)} {al : List Int} : ∀ {left : List Int}, left.Nodup → (fin e al left.length left).Nodup := by
  intro left
  generalize hm : left.length = m
  induction m generalizing left with
  | zero => intro _; rw [List.length_eq_zero_iff.1 hm]; exact .nil
  | succ m ih =>
    intro hn
    have hne : left ≠ [] := fun h => by rw [h] at hm; cases hm
    have h1 := fin_step2 (e := e) (al := al) hn hne
    rw [fin, List.nodup_cons]
    have hlen : (without left (pick e al left)).length = m := by omega
    refine ⟨fun h => ?_, ih hlen h1.2.2⟩
    rw [← hlen, fin_mem h1.2.2, without, List.mem_filter] at h
    simp at h
theorem firstL_mem {e : List (List Int)} {l : List Int} {x : Int} : x ∈ firstL e l ↔ x ∈ onceL e l := fin_mem onceL_nodup x
theorem firstL_nodup (e : List (List Int)) (l : List Int) : (firstL e l).Nodup := fin_nodup onceL_nodup
theorem once_has {e : List (List Int)} {l : List Int} {x : Int} (hx : x ∈ l) (hv : Valid e x) : x ∈ onceL e l := by
  have key : ∀ (l a : List Int), (x ∈ l ∨ x ∈ a) → x ∈ l.foldl (fun a k => if Valid e k ∧ k ∉ a then a ++ [k] else a) a := by
    intro l
    induction l with
    | nil => intro a h; exact h.resolve_left (by simp)
    | cons y l ih =>
      intro a h
      rw [List.foldl_cons]
      apply ih
      by_cases hy : x = y
      · subst hy
        right
        split
        · exact List.mem_append_right _ (by simp)
        · rename_i hc
          exact Classical.byContradiction fun h3 => hc ⟨hv, h3⟩
      · rcases h with h | h
        · exact .inl ((List.mem_cons.1 h).resolve_left hy)
        · right
          split
          · exact List.mem_append_left _ h
          · exact h
  exact key l [] (.inl hx)
theorem count_one {l : List Int} {x : Int} : l.Nodup → x ∈ l → l.count x = 1 := by
  induction l with
  | nil => intro _ h; cases h
  | cons y l ih =>
    intro hn hx
    have h1 := List.nodup_cons.1 hn
    rw [List.count_cons]
    by_cases e : y = x
    · subst e
      rw [List.count_eq_zero_of_not_mem h1.1]; simp
    · rw [ih h1.2 ((List.mem_cons.1 hx).resolve_left (fun h => e h.symm))]; simp [e]
structure CInv (e : List (List Int)) (O : List Int) (i : Nat) (cs : List Nat) : Prop where
  len : cs.length = e.length
  cnt : ∀ x, Valid e x → nth cs x.toNat = (O.take i).count x
theorem CInv.start (e : List (List Int)) (O : List Int) : CInv e O 0 (List.replicate e.length 0) := ⟨by simp, fun x hv => by
  have h1 : x.toNat < e.length := by have := hv.1; have := hv.2; omega
  rw [nth_eq (by simpa using h1)]; simp⟩
theorem CInv.step {e : List (List Int)} {O : List Int} {i : Nat} {cs : List Nat} (h : CInv e O i cs) (hi : i < O.length) (hv : Valid e (nth O i)) : CInv e O (i + 1) (cs.set (nth O i).toNat (nth cs (nth O i).toNat + 1)) := by
  have hl : (nth O i).toNat < cs.length := by have := hv.1; have := hv.2; rw [h.len]; omega
  refine ⟨by rw [List.length_set]; exact h.len, fun x hx => ?_⟩
  have hxl : x.toNat < cs.length := by have := hx.1; have := hx.2; rw [h.len]; omega
  rw [List.take_add_one, List.getElem?_eq_getElem hi, List.count_append, ← h.cnt x hx]
  rw [nth_eq (by rw [List.length_set]; exact hxl), List.getElem_set]
  have e1 : nth O i = O[i] := nth_eq hi
  by_cases e2 : nth O i = x
  · rw [if_pos (by rw [e2])]
    rw [e2] at e1
    rw [e2, ← e1]; simp
  · rw [if_neg (by have := hv.1; have := hx.1; omega), nth_eq hxl]
    have : O[i] ≠ x := fun h => e2 (e1.trans h)
    simp [this]
theorem CInv.one {e : List (List Int)} {l : List Int} {i : Nat} {cs : List Nat} (h : CInv e (firstL e l) i cs) (hi : ¬ i < (firstL e l).length) {x : Int} (hx : x ∈ l) (hv : Valid e x) : nth cs x.toNat = 1 := by
  rw [h.cnt x hv, List.take_of_length_le (by omega)]
  exact count_one (firstL_nodup e l) (firstL_mem.2 (once_has hx hv))
theorem CInv.le {e : List (List Int)} {O : List Int} {i : Nat} {cs : List Nat} (h : CInv e O i cs) {x : Int} (hv : Valid e x) : nth cs x.toNat ≤ O.length := by
  rw [h.cnt x hv]; exact Nat.le_trans List.count_le_length (by rw [List.length_take]; omega)
theorem KR.mono {e : List (List Int)} {a b : List Int} (hab : ∀ x ∈ a, x ∈ b) {x : Int} (h : KR e a x) : KR e b x := by
  induction h with
  | root h hv => exact .root (hab _ h) hv
  | step _ h hv ih => exact .step ih h hv
theorem keptL_at {e : List (List Int)} {rt : List Int} {i : Nat} (hi : i < e.length) : nth (keptL e rt) i = kb e rt (i : Nat) := keptL_nth (x := ((i : Nat) : Int)) ⟨by omega, by omega⟩
theorem kept_mono {e : List (List Int)} {a b : List Int} {i : Nat} (hi : i < e.length) (h1 : nth (keptL e a) i = true) (h2 : nth (keptL e (a ++ b)) i = false) : False := by
  rw [keptL_at hi] at h1 h2
  have := kb_iff.2 ((kb_iff.1 h1).mono (b := a ++ b) fun x hx => List.mem_append_left _ hx)
  rw [h2] at this; cases this
structure GInv (e : List (List Int)) (rt : List Int) (i : Nat) (g : List Int) : Prop where
  len : g.length ≤ i
  mem : ∀ x, x ∈ g ↔ ∃ j : Nat, j < i ∧ x = (j : Nat) ∧ nth (keptL e rt) j = true
theorem GInv.start (e : List (List Int)) (rt : List Int) : GInv e rt 0 [] := ⟨Nat.le_refl _, fun x => by simp⟩
theorem GInv.yes {e : List (List Int)} {rt : List Int} {i : Nat} {g : List Int} (h : GInv e rt i g) (hk : nth (keptL e rt) i = true) : GInv e rt (i + 1) (g ++ [((i : Nat) : Int)]) := by
  refine ⟨by have := h.len; simp; omega, fun x => ?_⟩
  rw [List.mem_append, h.mem, List.mem_singleton]
  constructor
  · rintro (⟨j, h1, h2, h3⟩ | rfl)
    · exact ⟨j, by omega, h2, h3⟩
    · exact ⟨i, by omega, rfl, hk⟩
  · rintro ⟨j, h1, h2, h3⟩
    by_cases e1 : j = i
    · subst e1; exact .inr h2
    · exact .inl ⟨j, by omega, h2, h3⟩
theorem GInv.no {e : List (List Int)} {rt : List Int} {i : Nat} {g : List Int} (h : GInv e rt i g) (hk : nth (keptL e rt) i = false) : GInv e rt (i + 1) g := by
  refine ⟨by have := h.len; omega, fun x => ?_⟩
  rw [h.mem]
  constructor
  · rintro ⟨j, h1, h2, h3⟩; exact ⟨j, by omega, h2, h3⟩
  · rintro ⟨j, h1, h2, h3⟩
    refine ⟨j, ?_, h2, h3⟩
    rcases Nat.lt_or_ge j i with h4 | h4
    · exact h4
    · obtain rfl : j = i := by omega
      rw [hk] at h3; cases h3
theorem GInv.eq {e : List (List Int)} {rt : List Int} {i : Nat} {g : List Int} (h : GInv e rt i g) (hi : ¬ i < (keptL e rt).length) : keptL e g = keptL e rt := by
  rw [keptL_len] at hi
  have hg : ∀ x, x ∈ g → KR e rt x := fun x hx => by
    obtain ⟨j, h1, h2, h3⟩ := (h.mem x).1 hx
    have hj : j < e.length := by
      by_cases hj : j < (keptL e rt).length
      · rwa [keptL_len] at hj
      · unfold nth at h3
        rw [List.getD_eq_getElem?_getD, List.getElem?_eq_none (by omega)] at h3; cases h3
    rw [keptL_at hj] at h3
    rw [h2]; exact kb_iff.1 h3
  have hk : ∀ x, KR e rt x → KR e g x := fun x hx => by
    have hv := hx.valid
    refine .root ((h.mem x).2 ⟨x.toNat, by have := hv.1; have := hv.2; omega, by have := hv.1; omega, ?_⟩) hv
    rw [keptL_nth hv]; exact kb_iff.2 hx
  have hk' : ∀ x, KR e g x → KR e rt x := fun x hx => by
    induction hx with
    | root h1 hv => exact hg _ h1
    | step _ h1 hv ih => exact .step ih h1 hv
  refine keptL_of (keptL_len e g) (fun x hv hm => hk' x ?_) (fun x hx => ?_)
  · unfold Mk' at hm; rw [keptL_nth hv] at hm; exact kb_iff.1 hm
  · unfold Mk'; rw [keptL_nth hx.valid]; exact kb_iff.2 (hk x hx)
set_option maxRecDepth 100000 in
set_option maxHeartbeats 4000000 in
theorem oall_ok {H0 : AHeap} (e : List (List Int)) (vE : Value) (hE : Sl2Z intv (Rd H0) vE e) (al : List Int) (vK : Value) (hK : Sl intv H0 vK al) (rs : List Int) (vR : Value) (hR : Sl intv H0 vR rs) : ACalls Try.prog 5 [vE, vK, vR] H0 (Rets (.bool true) H0) := by
  have hF : Wd Fence.wide := .inl rfl
  have hM : Try.prog.follows .mixedOrders = true := by kernel_rfl
  obtain ⟨sm, es⟩ : ∃ sm, sm = al.take (min al.length 20) := ⟨_, rfl⟩
  have hsm : sm.length ≤ 100 := by rw [es, List.length_take]; omega
  obtain ⟨rt, er⟩ : ∃ rt, rt = rs.take (min rs.length 20) := ⟨_, rfl⟩
  have hrt : rt.length ≤ 100 := by rw [er, List.length_take]; omega
  have hke := keptL_len (rows16 e) rt
  have hke1 := keptL_len (rows16 e) (rt ++ sm)
  have hke2 := (rows16_sized e).1
  have hfl := firstL_len (rows16 e) sm
  have s0 := St.begin H0
  refine acalls_st Try.func5 rfl Try.ntmps5 rfl ?_
  refine awp_seq ?_
  refine awp_regs hF ?_
  refine dv (gyes_none rfl) (q_as (v := .bool false) rfl) rfl (by decide) (cok1 (cconst rfl)) ?_
  refine ⟨_, Wk.refl _ _, ?_⟩
  show awp _ _ _ _ _ _ _
  refine awp_seq ?_
  refine awp_seq ?_
  refine awp_regs hF ?_
  refine dv (gyes_none rfl) (q_call0 Try.call7 rfl (speaks_ok)) rfl (by decide) (cok1 trivial) ?_
  refine dv (gyes_none rfl) (q_not (b := true) rfl) rfl (by decide) (cok1 trivial) ?_
  refine ⟨_, Wk.refl _ _, ?_⟩
  show awp _ _ _ _ _ _ _
  refine awp_cond_f rfl ?_
  refine awp_skip_wk ?_
  refine ⟨_, Wk.refl _ _, ?_⟩
  show awp _ _ _ _ _ _ _
  refine awp_seq ?_
  refine awp_regs hF ?_
  refine dv (gyes_none rfl) (q_mv (v := vE) rfl) rfl (by decide) (cok1 trivial) ?_
  refine x_call [] hF (by kernel_rfl) (gyes_none rfl) Try.call8 rfl (args := [vE]) rfl (made_ok e _ hE) (show _ < _ by decide) (call_ok rfl) rfl rfl (fun _ _ _ _ hd => by cases hd) ?_
  rintro _ H1 ⟨va3, vb4, rfl, hk2, ha5, hb6⟩
  have s7 := s0.rebase hk2
  have hK' := Sl.k0 hK hk2
  have hR' := Sl.k0 hR hk2
  refine ⟨trivial, ?_⟩
  show dList _ _ _ _ _ _ _ _ _ _
  refine dv (gyes_none rfl) (q_mv (v := .tuple #[va3, vb4]) rfl) rfl (by decide) (cok1 trivial) ?_
  refine dv (gyes_none rfl) (q_extract (v := va3) rfl rfl) rfl (by decide) (cok1 trivial) ?_
  refine dv (gyes_none rfl) (q_extract (v := vb4) rfl rfl) rfl (by decide) (cok1 trivial) ?_
  refine dv (gyes_none rfl) (q_as (v := va3) rfl) rfl (by decide) (cok1 trivial) ?_
  refine dv (gyes_none rfl) (q_as (v := vb4) rfl) rfl (by decide) (cok1 trivial) ?_
  refine ⟨_, Wk.refl _ _, ?_⟩
  show awp _ _ _ _ _ _ _
  refine awp_seq ?_
  refine awp_regt hF hM (by kernel_rfl) (by kernel_rfl) ?_
  refine x_new (fun b => .slice (some ⟨b, 0, none⟩) 0 0) s7 (gyes_none rfl) (q_emptyLit Try.underlying23 Try.sizeOf3) rfl (by decide) (by simp [Op.operands, Call.operands]) (fun b8 H9 hb11 s10 => ?_)
  refine dv (gyes_none rfl) (q_mv (v := vK) rfl) rfl (by decide) (cok1 trivial) ?_
  refine dv (gyes_none rfl) (q_mv (v := vK) rfl) rfl (by decide) (cok1 trivial) ?_
  refine dv (gyes_none rfl) (q_len_sl (l := al) Try.underlying23 (s10.sl hK') rfl) rfl (by decide) (cok1 trivial) ?_
  refine dv (gyes_none rfl) (OpQ.cast (v' := .int .i64 ((min al.length 20 : Nat) : Int)) (q_min rfl rfl) (by congr 1; split <;> omega)) rfl (by decide) (cok2 trivial (cconst rfl)) ?_
  obtain ⟨w12, hw12, qw12⟩ := slice_z hK' (min al.length 20) (by omega)
  rw [← es] at hw12
  refine dv (gyes_none rfl) (qw12 s10 Try.underlying23 Try.sizeOf3 rfl rfl) rfl (by decide) (cok2 trivial trivial) ?_
  refine x_new (fun b => .slice (some ⟨b, 0, none⟩) sm.length sm.length) s10 (gyes_none rfl) (q_append_nullS (l := sm) (f := intv) (m' := sm.length) (by simp) Try.underlying23 Try.underlying23 Try.type3 rfl rfl (by decide) rfl rfl rfl (s10.getj (j := 0) rfl) (s10.sl hw12) (fun x => lc_scalar rfl) (by show (2 * _ + 1000) * 8 ≤ _; first | omega | (simp only [List.length_append, List.length_cons, List.length_nil, List.length_take, List.length_drop]; omega))) rfl (by decide) (cok2 trivial trivial) (fun b13 H14 hb16 s15 => ?_)
  refine x_new (fun b => .slice (some ⟨b, 0, none⟩) 0 0) s15 (gyes_none rfl) (q_emptyLit Try.underlying23 Try.sizeOf3) rfl (by decide) (by simp [Op.operands, Call.operands]) (fun b17 H18 hb20 s19 => ?_)
  refine dv (gyes_none rfl) (q_mv (v := vR) rfl) rfl (by decide) (cok1 trivial) ?_
  refine dv (gyes_none rfl) (q_mv (v := vR) rfl) rfl (by decide) (cok1 trivial) ?_
  refine dv (gyes_none rfl) (q_len_sl (l := rs) Try.underlying23 (s19.sl hR') rfl) rfl (by decide) (cok1 trivial) ?_
  refine dv (gyes_none rfl) (OpQ.cast (v' := .int .i64 ((min rs.length 20 : Nat) : Int)) (q_min rfl rfl) (by congr 1; split <;> omega)) rfl (by decide) (cok2 trivial (cconst rfl)) ?_
  obtain ⟨w21, hw21, qw21⟩ := slice_z hR' (min rs.length 20) (by omega)
  rw [← er] at hw21
  refine dv (gyes_none rfl) (qw21 s19 Try.underlying23 Try.sizeOf3 rfl rfl) rfl (by decide) (cok2 trivial trivial) ?_
  refine x_new (fun b => .slice (some ⟨b, 0, none⟩) rt.length rt.length) s19 (gyes_none rfl) (q_append_nullS (l := rt) (f := intv) (m' := rt.length) (by simp) Try.underlying23 Try.underlying23 Try.type3 rfl rfl (by decide) rfl rfl rfl (s19.getj (j := 0) rfl) (s19.sl hw21) (fun x => lc_scalar rfl) (by show (2 * _ + 1000) * 8 ≤ _; first | omega | (simp only [List.length_append, List.length_cons, List.length_nil, List.length_take, List.length_drop]; omega))) rfl (by decide) (cok2 trivial trivial) (fun b22 H23 hb25 s24 => ?_)
  refine dv (gyes_none rfl) (q_as (v := .slice (some ⟨b13, 0, none⟩) sm.length sm.length) rfl) rfl (by decide) (cok1 trivial) ?_
  refine dv (gyes_none rfl) (q_as (v := .slice (some ⟨b22, 0, none⟩) rt.length rt.length) rfl) rfl (by decide) (cok1 trivial) ?_
  refine ⟨_, Wk.refl _ _, ?_⟩
  show awp _ _ _ _ _ _ _
  refine awp_seq ?_
  refine awp_regs hF ?_
  refine dv (gyes_none rfl) (q_mv (v := va3) rfl) rfl (by decide) (cok1 trivial) ?_
  refine dv (gyes_none rfl) (q_mv (v := .slice (some ⟨b13, 0, none⟩) sm.length sm.length) rfl) rfl (by decide) (cok1 trivial) ?_
  refine x_new (fun b => .slice (some ⟨b, 0, none⟩) (firstL (rows16 e) sm).length (firstL (rows16 e) sm).length) s24 (gyes_none rfl) (q_call (Δ := [.cells true ((firstL (rows16 e) sm).map intv) 1]) Try.call10 rfl (by simp [AObj.wr]) (acalls_fresh intv_sc (first_ok (rows16 e) _ (ha5.of s24) (rows16_sized e) sm _ (s24.slj (j := 2) rfl (by first | rfl | (simp; done) | omega) (by first | exact Nat.le_refl _ | omega)) (by omega)))) rfl (by decide) (call_ok rfl) (fun b26 H27 hb29 s28 => ?_)
  refine dv (gyes_none rfl) (q_as (v := .slice (some ⟨b26, 0, none⟩) ((firstL (rows16 e) sm).length) ((firstL (rows16 e) sm).length)) rfl) rfl (by decide) (cok1 trivial) ?_
  refine ⟨_, Wk.refl _ _, ?_⟩
  show awp _ _ _ _ _ _ _
  refine awp_seq ?_
  refine awp_regs hF ?_
  refine dv (gyes_none rfl) (q_mv (v := va3) rfl) rfl (by decide) (cok1 trivial) ?_
  refine dv (gyes_none rfl) (q_len_sl2 s28 Try.underlying25 ha5 rfl) rfl (by decide) (cok1 trivial) ?_
  refine x_new (fun b => .slice (some ⟨b, 0, none⟩) ((rows16 e).length) ((rows16 e).length)) s28 (gyes_none rfl) (q_makeSlice1 (len := ((rows16 e).length)) (m := ((rows16 e).length)) rfl Try.underlying23 Try.typeInfo3 rfl Try.zeroValue3 rfl rfl rfl rfl (by omega) (by omega) (by show 8 * _ ≤ _; omega) (vs := (List.replicate ((rows16 e).length) (0 : Nat)).map i64v) (by simp [i64v])) rfl (by decide) (cok2 trivial trivial) (fun b30 H31 hb33 s32 => ?_)
  refine dv (gyes_none rfl) (q_as (v := .slice (some ⟨b30, 0, none⟩) ((rows16 e).length) ((rows16 e).length)) rfl) rfl (by decide) (cok1 trivial) ?_
  refine ⟨_, Wk.refl _ _, ?_⟩
  show awp _ _ _ _ _ _ _
  refine awp_seq ?_
  refine awp_seq ?_
  refine awp_regs hF ?_
  refine dv (gyes_none rfl) (q_as (v := .int .i64 0) rfl) rfl (by decide) (cok1 (cconst rfl)) ?_
  refine ⟨_, Wk.refl _ _, ?_⟩
  show awp _ _ _ _ _ _ _
  refine awp_block ?_
  refine awp_wk (Wk.U [(1, .slice (some ⟨b13, 0, none⟩) sm.length sm.length), (2, .slice (some ⟨b22, 0, none⟩) rt.length rt.length), (7, va3), (9, .slice (some ⟨b26, 0, none⟩) ((firstL (rows16 e) sm).length) ((firstL (rows16 e) sm).length)), (10, .slice (some ⟨b30, 0, none⟩) ((rows16 e).length) ((rows16 e).length)), (11, .int .i64 0)] ⟨rfl, rfl, rfl, rfl, rfl, rfl, trivial⟩) ?_
  refine awp_loop (fun ((i, cs) : Nat × (List Nat)) st => ∃ (H34 : AHeap), st = ⟨144, U [(1, .slice (some ⟨b13, 0, none⟩) sm.length sm.length), (2, .slice (some ⟨b22, 0, none⟩) rt.length rt.length), (7, va3), (9, .slice (some ⟨b26, 0, none⟩) ((firstL (rows16 e) sm).length) ((firstL (rows16 e) sm).length)), (10, .slice (some ⟨b30, 0, none⟩) ((rows16 e).length) ((rows16 e).length)), (11, .int .i64 ((i : Nat) : Int))], [], H34⟩ ∧ St H0 (none0) (Rd H1) H34 [(b30, .cells true (cs.map i64v) 1), (b26, .cells true ((firstL (rows16 e) sm).map intv) 1), (b22, .cells true (rt.map intv) 1), (b13, .cells true (sm.map intv) 1)] ∧ (CInv (rows16 e) (firstL (rows16 e) sm) i cs)) (fun ((i, cs) : Nat × (List Nat)) => (firstL (rows16 e) sm).length - i) (x0 := (0, (List.replicate (rows16 e).length 0))) ?h0 ?round
  case h0 =>
    exact ⟨_, rfl, (s32.sub (.cons_cons _ (.cons_cons _ (.cons_cons _ (.cons _ (.cons_cons _ (.cons _ (.refl _)))))))), CInv.start _ _⟩
  case round =>
    rintro ⟨i, cs⟩ _ ⟨H34, rfl, s35, hc⟩
    dsimp only at *
    have hcl := hc.len
    refine awp_seq ?_
    refine awp_seq ?_
    refine awp_regs hF ?_
    refine dv (gyes_none rfl) (q_mv (v := .int .i64 ((i : Nat) : Int)) rfl) rfl (by decide) (cok1 trivial) ?_
    refine dv (gyes_none rfl) (q_mv (v := .slice (some ⟨b26, 0, none⟩) ((firstL (rows16 e) sm).length) ((firstL (rows16 e) sm).length)) rfl) rfl (by decide) (cok1 trivial) ?_
    refine dv (gyes_none rfl) (q_len_slice Try.underlying23 rfl (s35.rd (j := 1) rfl)) rfl (by decide) (cok1 trivial) ?_
    refine dvb (gyes_none rfl) (q_int rfl rfl rfl) rfl (by decide) (cok2 trivial trivial) (fun c1 => ?_) (fun c1 => ?_)
    ·
      replace c1 := of_decide_eq_true c1
      have hil : i < (firstL (rows16 e) sm).length := by omega
      have hvx : Valid (rows16 e) (nth (firstL (rows16 e) sm) i) := onceL_valid _ (firstL_mem.1 (nthI_mem hil))
      have hvx1 := hvx.1
      have hvx2 := hvx.2
      have hcb := hc.le hvx
      refine ⟨_, Wk.refl _ _, ?_⟩
      show awp _ _ _ _ _ _ _
      refine awp_cond_t rfl ?_
      refine awp_skip_wk ?_
      refine ⟨_, Wk.refl _ _, ?_⟩
      show awp _ _ _ _ _ _ _
      refine awp_seq ?_
      refine awp_block ?_
      refine awp_regs hF ?_
      refine dv (gyes_none rfl) (q_mv (v := .slice (some ⟨b30, 0, none⟩) ((rows16 e).length) ((rows16 e).length)) rfl) rfl (by decide) (cok1 trivial) ?_
      refine dv (gyes_none rfl) (q_mv (v := .slice (some ⟨b26, 0, none⟩) ((firstL (rows16 e) sm).length) ((firstL (rows16 e) sm).length)) rfl) rfl (by decide) (cok1 trivial) ?_
      refine dv (gyes_none rfl) (q_mv (v := .int .i64 ((i : Nat) : Int)) rfl) rfl (by decide) (cok1 trivial) ?_
      refine dv (gyes_none rfl) (OpQ.cast (v' := .pointer (some ⟨b26, i, none⟩)) (q_index1 (i := i) Try.underlying23 Try.sizeOf3 rfl rfl (by omega) (s35.rd (j := 1) rfl)) (by rw [Nat.zero_add])) rfl (by decide) (cok2 trivial trivial) ?_
      refine dv (gyes_none rfl) (q_load (v := intv (nth (firstL (rows16 e) sm) i)) Try.isAgg3 rfl (s35.rd (j := 1) rfl) (get_nth (w := 0) (by omega))) rfl (by decide) (cok1 trivial) ?_
      refine dv (gyes_none rfl) (OpQ.cast (v' := .pointer (some ⟨b30, (nth (firstL (rows16 e) sm) i).toNat, none⟩)) (q_indexI1 (z := (nth (firstL (rows16 e) sm) i)) Try.underlying23 Try.sizeOf3 rfl rfl (by omega) (by omega) (s35.rd (j := 0) rfl)) (by rw [Nat.zero_add])) rfl (by decide) (cok2 trivial trivial) ?_
      refine dv (gyes_none rfl) (q_load (v := i64v (nth cs ((nth (firstL (rows16 e) sm) i).toNat))) Try.isAgg3 rfl (s35.rd (j := 0) rfl) (get_nth (w := 0) (by omega))) rfl (by decide) (cok1 trivial) ?_
      refine dv (gyes_none rfl) (OpQ.cast (v' := .int .i64 ((nth cs ((nth (firstL (rows16 e) sm) i).toNat) + 1 : Nat) : Int)) (q_int rfl rfl rfl) (congrArg _ ((i64_in (by omega)).trans (by first | rfl | omega | (push_cast; rfl))))) rfl (by decide) (cok2 trivial (cconst rfl)) ?_
      refine dv (gyes_none rfl) (OpQ.cast (v' := .pointer (some ⟨b30, (nth (firstL (rows16 e) sm) i).toNat, none⟩)) (q_indexI1 (z := (nth (firstL (rows16 e) sm) i)) Try.underlying23 Try.sizeOf3 rfl rfl (by omega) (by omega) (s35.rd (j := 0) rfl)) (by rw [Nat.zero_add])) rfl (by decide) (cok2 trivial trivial) ?_
      refine x_store1 [] hF s35 (by kernel_rfl) (gyes_none rfl) (j := 0) (v := i64v (nth cs ((nth (firstL (rows16 e) sm) i).toNat) + 1)) rfl Try.sizeOf3 rfl rfl rfl (lc_scalar rfl) (by rw [List.length_map]; omega) trivial trivial rfl rfl (F' := [(b30, .cells true ((cs.set ((nth (firstL (rows16 e) sm) i).toNat) (nth cs ((nth (firstL (rows16 e) sm) i).toNat) + 1)).map i64v) 1), (b26, .cells true ((firstL (rows16 e) sm).map intv) 1), (b22, .cells true (rt.map intv) 1), (b13, .cells true (sm.map intv) 1)]) (by simp only [set_map1]; rfl) (fun H36 s37 => ⟨?_, ?_⟩)
      · exact trivial
      refine ⟨_, Wk.refl _ _, ?_⟩
      show awp _ _ _ _ _ _ _
      refine awp_regs hF ?_
      refine dv (gyes_none rfl) (q_mv (v := .int .i64 ((i : Nat) : Int)) rfl) rfl (by decide) (cok1 trivial) ?_
      refine dv (gyes_none rfl) (OpQ.cast (v' := .int .i64 ((i + 1 : Nat) : Int)) (q_int rfl rfl rfl) (congrArg _ ((i64_in (by omega)).trans (by first | rfl | omega | (push_cast; rfl))))) rfl (by decide) (cok2 trivial (cconst rfl)) ?_
      refine dv (gyes_none rfl) (q_as (v := .int .i64 ((i + 1 : Nat) : Int)) rfl) rfl (by decide) (cok1 trivial) ?_
      refine ⟨_, Wk.U [(1, .slice (some ⟨b13, 0, none⟩) sm.length sm.length), (2, .slice (some ⟨b22, 0, none⟩) rt.length rt.length), (7, va3), (9, .slice (some ⟨b26, 0, none⟩) ((firstL (rows16 e) sm).length) ((firstL (rows16 e) sm).length)), (10, .slice (some ⟨b30, 0, none⟩) ((rows16 e).length) ((rows16 e).length)), (11, .int .i64 (((i + 1) : Nat) : Int))] ⟨rfl, rfl, rfl, rfl, rfl, rfl, trivial⟩, ((i + 1), (cs.set (nth (firstL (rows16 e) sm) i).toNat (nth cs (nth (firstL (rows16 e) sm) i).toNat + 1))), ⟨_, rfl, s37, hc.step hil hvx⟩, (by omega)⟩
    ·
      replace c1 := of_decide_eq_false c1
      refine ⟨_, Wk.refl _ _, ?_⟩
      show awp _ _ _ _ _ _ _
      refine awp_cond_f rfl ?_
      refine awp_exit_wk ?_
      refine ⟨_, Wk.refl _ _, ?_⟩
      show awp _ _ _ _ _ _ _
      refine awp_seq ?_
      refine awp_seq ?_
      refine awp_regs hF ?_
      refine dv (gyes_none rfl) (q_as (v := .int .i64 0) rfl) rfl (by decide) (cok1 (cconst rfl)) ?_
      refine ⟨_, Wk.refl _ _, ?_⟩
      show awp _ _ _ _ _ _ _
      refine awp_block ?_
      refine awp_wk (Wk.U [(1, .slice (some ⟨b13, 0, none⟩) sm.length sm.length), (2, .slice (some ⟨b22, 0, none⟩) rt.length rt.length), (7, va3), (10, .slice (some ⟨b30, 0, none⟩) ((rows16 e).length) ((rows16 e).length)), (12, .int .i64 0)] ⟨rfl, rfl, rfl, rfl, rfl, trivial⟩) ?_
      refine awp_loop (fun (i2 : Nat) st => ∃ (H38 : AHeap), st = ⟨144, U [(1, .slice (some ⟨b13, 0, none⟩) sm.length sm.length), (2, .slice (some ⟨b22, 0, none⟩) rt.length rt.length), (7, va3), (10, .slice (some ⟨b30, 0, none⟩) ((rows16 e).length) ((rows16 e).length)), (12, .int .i64 ((i2 : Nat) : Int))], [], H38⟩ ∧ St H0 (none0) (Rd H1) H38 [(b30, .cells true (cs.map i64v) 1), (b26, .cells true ((firstL (rows16 e) sm).map intv) 1), (b22, .cells true (rt.map intv) 1), (b13, .cells true (sm.map intv) 1)]) (fun (i2 : Nat) => sm.length - i2) (x0 := (0)) ?h0 ?round
      case h0 =>
        exact ⟨_, rfl, s35⟩
      case round =>
        rintro i2 _ ⟨H38, rfl, s39⟩
        refine awp_seq ?_
        refine awp_seq ?_
        refine awp_regs hF ?_
        refine dv (gyes_none rfl) (q_mv (v := .int .i64 ((i2 : Nat) : Int)) rfl) rfl (by decide) (cok1 trivial) ?_
        refine dv (gyes_none rfl) (q_mv (v := .slice (some ⟨b13, 0, none⟩) sm.length sm.length) rfl) rfl (by decide) (cok1 trivial) ?_
        refine dv (gyes_none rfl) (q_len_slice Try.underlying23 rfl (s39.rd (j := 3) rfl)) rfl (by decide) (cok1 trivial) ?_
        refine dvb (gyes_none rfl) (q_int rfl rfl rfl) rfl (by decide) (cok2 trivial trivial) (fun c2 => ?_) (fun c2 => ?_)
        ·
          replace c2 := of_decide_eq_true c2
          refine ⟨_, Wk.refl _ _, ?_⟩
          show awp _ _ _ _ _ _ _
          refine awp_cond_t rfl ?_
          refine awp_skip_wk ?_
          refine ⟨_, Wk.refl _ _, ?_⟩
          show awp _ _ _ _ _ _ _
          refine awp_seq ?_
          refine awp_block ?_
          refine awp_seq ?_
          refine awp_regs hF ?_
          refine dv (gyes_none rfl) (q_mv (v := .slice (some ⟨b13, 0, none⟩) sm.length sm.length) rfl) rfl (by decide) (cok1 trivial) ?_
          refine dv (gyes_none rfl) (q_mv (v := .int .i64 ((i2 : Nat) : Int)) rfl) rfl (by decide) (cok1 trivial) ?_
          refine dv (gyes_none rfl) (OpQ.cast (v' := .pointer (some ⟨b13, i2, none⟩)) (q_index1 (i := i2) Try.underlying23 Try.sizeOf3 rfl rfl (by omega) (s39.rd (j := 3) rfl)) (by rw [Nat.zero_add])) rfl (by decide) (cok2 trivial trivial) ?_
          refine dv (gyes_none rfl) (q_load (v := intv (nth sm i2)) Try.isAgg3 rfl (s39.rd (j := 3) rfl) (get_nth (w := 0) (by omega))) rfl (by decide) (cok1 trivial) ?_
          refine dvb (gyes_none rfl) (q_int rfl rfl rfl) rfl (by decide) (cok2 trivial (cconst rfl)) (fun c3 => ?_) (fun c3 => ?_)
          ·
            replace c3 := of_decide_eq_true c3
            refine dv (gyes_none rfl) (q_mv (v := .bool true) rfl) rfl (by decide) (cok1 trivial) ?_
            refine dv (gyes_some rfl rfl) (q_mv (v := .slice (some ⟨b13, 0, none⟩) sm.length sm.length) rfl) rfl (by decide) (cok1 trivial) ?_
            refine dv (gyes_some rfl rfl) (q_mv (v := .int .i64 ((i2 : Nat) : Int)) rfl) rfl (by decide) (cok1 trivial) ?_
            refine dv (gyes_some rfl rfl) (OpQ.cast (v' := .pointer (some ⟨b13, i2, none⟩)) (q_index1 (i := i2) Try.underlying23 Try.sizeOf3 rfl rfl (by omega) (s39.rd (j := 3) rfl)) (by rw [Nat.zero_add])) rfl (by decide) (cok2 trivial trivial) ?_
            refine dv (gyes_some rfl rfl) (q_load (v := intv (nth sm i2)) Try.isAgg3 rfl (s39.rd (j := 3) rfl) (get_nth (w := 0) (by omega))) rfl (by decide) (cok1 trivial) ?_
            refine dv (gyes_some rfl rfl) (q_mv (v := va3) rfl) rfl (by decide) (cok1 trivial) ?_
            refine dv (gyes_some rfl rfl) (q_len_sl2 s39 Try.underlying25 ha5 rfl) rfl (by decide) (cok1 trivial) ?_
            refine dvb (gyes_some rfl rfl) (q_int rfl rfl rfl) rfl (by decide) (cok2 trivial trivial) (fun c4 => ?_) (fun c4 => ?_)
            ·
              replace c4 := of_decide_eq_true c4
              have hvi : Valid (rows16 e) (nth sm i2) := ⟨by omega, by omega⟩
              have hone := hc.one (by omega) (nthI_mem (by omega)) hvi
              refine dv (gyes_none rfl) (q_pt (v := .bool true) rfl rfl) rfl (by decide) (call_ok rfl) ?_
              refine dv (gyes_none rfl) (q_mv (v := .bool true) rfl) rfl (by decide) (cok1 trivial) ?_
              refine dv (gyes_some rfl rfl) (q_mv (v := .slice (some ⟨b30, 0, none⟩) ((rows16 e).length) ((rows16 e).length)) rfl) rfl (by decide) (cok1 trivial) ?_
              refine dv (gyes_some rfl rfl) (q_mv (v := .slice (some ⟨b13, 0, none⟩) sm.length sm.length) rfl) rfl (by decide) (cok1 trivial) ?_
              refine dv (gyes_some rfl rfl) (q_mv (v := .int .i64 ((i2 : Nat) : Int)) rfl) rfl (by decide) (cok1 trivial) ?_
              refine dv (gyes_some rfl rfl) (OpQ.cast (v' := .pointer (some ⟨b13, i2, none⟩)) (q_index1 (i := i2) Try.underlying23 Try.sizeOf3 rfl rfl (by omega) (s39.rd (j := 3) rfl)) (by rw [Nat.zero_add])) rfl (by decide) (cok2 trivial trivial) ?_
              refine dv (gyes_some rfl rfl) (q_load (v := intv (nth sm i2)) Try.isAgg3 rfl (s39.rd (j := 3) rfl) (get_nth (w := 0) (by omega))) rfl (by decide) (cok1 trivial) ?_
              refine dv (gyes_some rfl rfl) (OpQ.cast (v' := .pointer (some ⟨b30, (nth sm i2).toNat, none⟩)) (q_indexI1 (z := (nth sm i2)) Try.underlying23 Try.sizeOf3 rfl rfl (by omega) (by omega) (s39.rd (j := 0) rfl)) (by rw [Nat.zero_add])) rfl (by decide) (cok2 trivial trivial) ?_
              refine dv (gyes_some rfl rfl) (q_load (v := i64v (nth cs ((nth sm i2).toNat))) Try.isAgg3 rfl (s39.rd (j := 0) rfl) (get_nth (w := 0) (by omega))) rfl (by decide) (cok1 trivial) ?_
              refine dv (gyes_some rfl rfl) (OpQ.cast (v' := .bool false) (q_int rfl rfl rfl) (congrArg Value.bool (by rw [hone]; rfl))) rfl (by decide) (cok2 trivial (cconst rfl)) ?_
              refine dv (gyes_none rfl) (q_pt (v := .bool false) rfl rfl) rfl (by decide) (call_ok rfl) ?_
              refine ⟨_, Wk.refl _ _, ?_⟩
              show awp _ _ _ _ _ _ _
              refine awp_cond_f rfl ?_
              refine awp_skip_wk ?_
              refine ⟨_, Wk.refl _ _, ?_⟩
              show awp _ _ _ _ _ _ _
              refine awp_regs hF ?_
              refine dv (gyes_none rfl) (q_mv (v := .int .i64 ((i2 : Nat) : Int)) rfl) rfl (by decide) (cok1 trivial) ?_
              refine dv (gyes_none rfl) (OpQ.cast (v' := .int .i64 ((i2 + 1 : Nat) : Int)) (q_int rfl rfl rfl) (congrArg _ ((i64_in (by omega)).trans (by first | rfl | omega | (push_cast; rfl))))) rfl (by decide) (cok2 trivial (cconst rfl)) ?_
              refine dv (gyes_none rfl) (q_as (v := .int .i64 ((i2 + 1 : Nat) : Int)) rfl) rfl (by decide) (cok1 trivial) ?_
              refine ⟨_, Wk.U [(1, .slice (some ⟨b13, 0, none⟩) sm.length sm.length), (2, .slice (some ⟨b22, 0, none⟩) rt.length rt.length), (7, va3), (10, .slice (some ⟨b30, 0, none⟩) ((rows16 e).length) ((rows16 e).length)), (12, .int .i64 (((i2 + 1) : Nat) : Int))] ⟨rfl, rfl, rfl, rfl, rfl, trivial⟩, (i2 + 1), ⟨_, rfl, s39⟩, (by omega)⟩
            ·
              replace c4 := of_decide_eq_false c4
              refine dv (gyes_none rfl) (q_pt (v := .bool false) rfl rfl) rfl (by decide) (call_ok rfl) ?_
              refine dv (gyes_none rfl) (q_mv (v := .bool false) rfl) rfl (by decide) (cok1 trivial) ?_
              refine dno rfl (.inl rfl) rfl (by decide) ?_
              refine dno rfl (.inl rfl) rfl (by decide) ?_
              refine dno rfl (.inl rfl) rfl (by decide) ?_
              refine dno rfl (.inl rfl) rfl (by decide) ?_
              refine dno rfl (.inl rfl) rfl (by decide) ?_
              refine dno rfl (.inl rfl) rfl (by decide) ?_
              refine dno rfl (.inl rfl) rfl (by decide) ?_
              refine dno rfl (.inl rfl) rfl (by decide) ?_
              refine dv (gyes_none rfl) (q_pf (v := .bool false) rfl rfl) rfl (by decide) (call_ok rfl) ?_
              refine ⟨_, Wk.refl _ _, ?_⟩
              show awp _ _ _ _ _ _ _
              refine awp_cond_f rfl ?_
              refine awp_skip_wk ?_
              refine ⟨_, Wk.refl _ _, ?_⟩
              show awp _ _ _ _ _ _ _
              refine awp_regs hF ?_
              refine dv (gyes_none rfl) (q_mv (v := .int .i64 ((i2 : Nat) : Int)) rfl) rfl (by decide) (cok1 trivial) ?_
              refine dv (gyes_none rfl) (OpQ.cast (v' := .int .i64 ((i2 + 1 : Nat) : Int)) (q_int rfl rfl rfl) (congrArg _ ((i64_in (by omega)).trans (by first | rfl | omega | (push_cast; rfl))))) rfl (by decide) (cok2 trivial (cconst rfl)) ?_
              refine dv (gyes_none rfl) (q_as (v := .int .i64 ((i2 + 1 : Nat) : Int)) rfl) rfl (by decide) (cok1 trivial) ?_
              refine ⟨_, Wk.U [(1, .slice (some ⟨b13, 0, none⟩) sm.length sm.length), (2, .slice (some ⟨b22, 0, none⟩) rt.length rt.length), (7, va3), (10, .slice (some ⟨b30, 0, none⟩) ((rows16 e).length) ((rows16 e).length)), (12, .int .i64 (((i2 + 1) : Nat) : Int))] ⟨rfl, rfl, rfl, rfl, rfl, trivial⟩, (i2 + 1), ⟨_, rfl, s39⟩, (by omega)⟩
          ·
            replace c3 := of_decide_eq_false c3
            refine dv (gyes_none rfl) (q_mv (v := .bool false) rfl) rfl (by decide) (cok1 trivial) ?_
            refine dno rfl (.inl rfl) rfl (by decide) ?_
            refine dno rfl (.inl rfl) rfl (by decide) ?_
            refine dno rfl (.inl rfl) rfl (by decide) ?_
            refine dno rfl (.inl rfl) rfl (by decide) ?_
            refine dno rfl (.inl rfl) rfl (by decide) ?_
            refine dno rfl (.inl rfl) rfl (by decide) ?_
            refine dno rfl (.inl rfl) rfl (by decide) ?_
            refine dv (gyes_none rfl) (q_pf (v := .bool false) rfl rfl) rfl (by decide) (call_ok rfl) ?_
            refine dv (gyes_none rfl) (q_mv (v := .bool false) rfl) rfl (by decide) (cok1 trivial) ?_
            refine dno rfl (.inl rfl) rfl (by decide) ?_
            refine dno rfl (.inl rfl) rfl (by decide) ?_
            refine dno rfl (.inl rfl) rfl (by decide) ?_
            refine dno rfl (.inl rfl) rfl (by decide) ?_
            refine dno rfl (.inl rfl) rfl (by decide) ?_
            refine dno rfl (.inl rfl) rfl (by decide) ?_
            refine dno rfl (.inl rfl) rfl (by decide) ?_
            refine dno rfl (.inl rfl) rfl (by decide) ?_
            refine dv (gyes_none rfl) (q_pf (v := .bool false) rfl rfl) rfl (by decide) (call_ok rfl) ?_
            refine ⟨_, Wk.refl _ _, ?_⟩
            show awp _ _ _ _ _ _ _
            refine awp_cond_f rfl ?_
            refine awp_skip_wk ?_
            refine ⟨_, Wk.refl _ _, ?_⟩
            show awp _ _ _ _ _ _ _
            refine awp_regs hF ?_
            refine dv (gyes_none rfl) (q_mv (v := .int .i64 ((i2 : Nat) : Int)) rfl) rfl (by decide) (cok1 trivial) ?_
            refine dv (gyes_none rfl) (OpQ.cast (v' := .int .i64 ((i2 + 1 : Nat) : Int)) (q_int rfl rfl rfl) (congrArg _ ((i64_in (by omega)).trans (by first | rfl | omega | (push_cast; rfl))))) rfl (by decide) (cok2 trivial (cconst rfl)) ?_
            refine dv (gyes_none rfl) (q_as (v := .int .i64 ((i2 + 1 : Nat) : Int)) rfl) rfl (by decide) (cok1 trivial) ?_
            refine ⟨_, Wk.U [(1, .slice (some ⟨b13, 0, none⟩) sm.length sm.length), (2, .slice (some ⟨b22, 0, none⟩) rt.length rt.length), (7, va3), (10, .slice (some ⟨b30, 0, none⟩) ((rows16 e).length) ((rows16 e).length)), (12, .int .i64 (((i2 + 1) : Nat) : Int))] ⟨rfl, rfl, rfl, rfl, rfl, trivial⟩, (i2 + 1), ⟨_, rfl, s39⟩, (by omega)⟩
        ·
          replace c2 := of_decide_eq_false c2
          refine ⟨_, Wk.refl _ _, ?_⟩
          show awp _ _ _ _ _ _ _
          refine awp_cond_f rfl ?_
          refine awp_exit_wk ?_
          refine ⟨_, Wk.refl _ _, ?_⟩
          show awp _ _ _ _ _ _ _
          refine awp_seq ?_
          refine awp_regs hF ?_
          refine dv (gyes_none rfl) (q_mv (v := va3) rfl) rfl (by decide) (cok1 trivial) ?_
          refine dv (gyes_none rfl) (q_mv (v := .slice (some ⟨b22, 0, none⟩) rt.length rt.length) rfl) rfl (by decide) (cok1 trivial) ?_
          refine x_new (fun b => .slice (some ⟨b, 0, none⟩) (keptL (rows16 e) rt).length (keptL (rows16 e) rt).length) s39 (gyes_none rfl) (q_call (Δ := [.cells true ((keptL (rows16 e) rt).map boolv) 1]) Try.call12 rfl (by simp [AObj.wr]) (acalls_fresh boolv_sc (kept_ok (rows16 e) _ (ha5.of s39) (rows16_sized e) rt _ (s39.slj (j := 2) rfl (by first | rfl | (simp; done) | omega) (by first | exact Nat.le_refl _ | omega)) (by first | omega | (rw [List.length_append]; omega))))) rfl (by decide) (call_ok rfl) (fun b40 H41 hb43 s42 => ?_)
          refine dv (gyes_none rfl) (q_as (v := .slice (some ⟨b40, 0, none⟩) ((keptL (rows16 e) rt).length) ((keptL (rows16 e) rt).length)) rfl) rfl (by decide) (cok1 trivial) ?_
          refine ⟨_, Wk.refl _ _, ?_⟩
          show awp _ _ _ _ _ _ _
          refine awp_seq ?_
          refine awp_regs hF ?_
          refine dv (gyes_none rfl) (q_mv (v := va3) rfl) rfl (by decide) (cok1 trivial) ?_
          refine x_new (fun b => .slice (some ⟨b, 0, none⟩) 0 0) s42 (gyes_none rfl) (q_emptyLit Try.underlying23 Try.sizeOf3) rfl (by decide) (by simp [Op.operands, Call.operands]) (fun b44 H45 hb47 s46 => ?_)
          refine dv (gyes_none rfl) (q_mv (v := .slice (some ⟨b22, 0, none⟩) rt.length rt.length) rfl) rfl (by decide) (cok1 trivial) ?_
          refine x_new (fun b => .slice (some ⟨b, 0, none⟩) rt.length rt.length) s46 (gyes_none rfl) (q_append_nullS (l := rt) (f := intv) (m' := rt.length) (by simp) Try.underlying23 Try.underlying23 Try.type3 rfl rfl (by decide) rfl rfl rfl (s46.getj (j := 0) rfl) (s46.slj (j := 4) rfl rfl (Nat.le_refl _)) (fun x => lc_scalar rfl) (by show (2 * _ + 1000) * 8 ≤ _; first | omega | (simp only [List.length_append, List.length_cons, List.length_nil, List.length_take, List.length_drop]; omega))) rfl (by decide) (cok2 trivial trivial) (fun b48 H49 hb51 s50 => ?_)
          refine dv (gyes_none rfl) (q_mv (v := .slice (some ⟨b13, 0, none⟩) sm.length sm.length) rfl) rfl (by decide) (cok1 trivial) ?_
          refine x_append (l := sm) (f := intv) [] hF s50 (by kernel_rfl) (j := 0) ((rt ++ sm).length) (by simp) (gyes_none rfl) Try.underlying23 Try.underlying23 Try.type3 rfl rfl (by decide) rfl rfl rfl rfl (s50.slj (j := 6) rfl rfl (Nat.le_refl _)) (fun x => lc_scalar rfl) (by simp) (by show (2 * _ + 1000) * 8 ≤ _; first | omega | (simp only [List.length_append, List.length_cons, List.length_nil, List.length_take, List.length_drop]; omega)) trivial trivial (by decide) rfl rfl (vs' := (rt ++ sm).map intv) (by simp) (fun b52 H53 hb55 s54 => ⟨?_, ?_⟩)
          · exact trivial
          refine x_new (fun b => .slice (some ⟨b, 0, none⟩) (keptL (rows16 e) (rt ++ sm)).length (keptL (rows16 e) (rt ++ sm)).length) s54 (gyes_none rfl) (q_call (Δ := [.cells true ((keptL (rows16 e) (rt ++ sm)).map boolv) 1]) Try.call12 rfl (by simp [AObj.wr]) (acalls_fresh boolv_sc (kept_ok (rows16 e) _ (ha5.of s54) (rows16_sized e) (rt ++ sm) _ (s54.slj (j := 0) rfl (by first | rfl | (simp; done) | omega) (by first | exact Nat.le_refl _ | omega)) (by first | omega | (rw [List.length_append]; omega))))) rfl (by decide) (call_ok rfl) (fun b56 H57 hb59 s58 => ?_)
          refine dv (gyes_none rfl) (q_as (v := .slice (some ⟨b56, 0, none⟩) ((keptL (rows16 e) (rt ++ sm)).length) ((keptL (rows16 e) (rt ++ sm)).length)) rfl) rfl (by decide) (cok1 trivial) ?_
          refine ⟨_, Wk.refl _ _, ?_⟩
          show awp _ _ _ _ _ _ _
          refine awp_seq ?_
          refine awp_regs hF ?_
          refine dv (gyes_none rfl) (q_as (v := .slice none 0 0) rfl) rfl (by decide) (cok1 (cconst rfl)) ?_
          refine ⟨_, Wk.refl _ _, ?_⟩
          show awp _ _ _ _ _ _ _
          refine awp_seq ?_
          refine awp_seq ?_
          refine awp_regs hF ?_
          refine dv (gyes_none rfl) (q_as (v := .int .i64 0) rfl) rfl (by decide) (cok1 (cconst rfl)) ?_
          refine ⟨_, Wk.refl _ _, ?_⟩
          show awp _ _ _ _ _ _ _
          refine awp_block ?_
          refine awp_nil s58 15 1 rfl (fun b60 H61 hb63 s62 => ?_)
          refine awp_wk (Wk.U [(7, va3), (13, .slice (some ⟨b40, 0, none⟩) ((keptL (rows16 e) rt).length) ((keptL (rows16 e) rt).length)), (14, .slice (some ⟨b56, 0, none⟩) ((keptL (rows16 e) (rt ++ sm)).length) ((keptL (rows16 e) (rt ++ sm)).length)), (15, .slice (some ⟨b60, 0, none⟩) (([] : List Int).length) (([] : List Int).length)), (16, .int .i64 0)] ⟨rfl, rfl, rfl, rfl, rfl, trivial⟩) ?_
          refine awp_loop (fun ((i3, g) : Nat × (List Int)) st => ∃ (H64 : AHeap) (bg : Nat), st = ⟨144, U [(7, va3), (13, .slice (some ⟨b40, 0, none⟩) ((keptL (rows16 e) rt).length) ((keptL (rows16 e) rt).length)), (14, .slice (some ⟨b56, 0, none⟩) ((keptL (rows16 e) (rt ++ sm)).length) ((keptL (rows16 e) (rt ++ sm)).length)), (15, .slice (some ⟨bg, 0, none⟩) g.length g.length), (16, .int .i64 ((i3 : Nat) : Int))], [], H64⟩ ∧ St H0 (none0) (Rd H1) H64 [(bg, .cells true (g.map intv) 1), (b56, .cells true ((keptL (rows16 e) (rt ++ sm)).map boolv) 1), (b52, .cells true ((rt ++ sm).map intv) 1), (b40, .cells true ((keptL (rows16 e) rt).map boolv) 1), (b30, .cells true (cs.map i64v) 1), (b26, .cells true ((firstL (rows16 e) sm).map intv) 1), (b22, .cells true (rt.map intv) 1), (b13, .cells true (sm.map intv) 1)] ∧ (GInv (rows16 e) rt i3 g) ∧ (i3 ≤ (keptL (rows16 e) rt).length)) (fun ((i3, g) : Nat × (List Int)) => (keptL (rows16 e) rt).length - i3) (x0 := (0, ([] : List Int))) ?h0 ?round
          case h0 =>
            exact ⟨_, _, rfl, (s62.sub (.cons_cons _ (.cons_cons _ (.cons_cons _ (.cons _ (.cons_cons _ (.cons_cons _ (.cons_cons _ (.cons_cons _ (.cons_cons _ (.refl _))))))))))), GInv.start _ _, Nat.zero_le _⟩
          case round =>
            rintro ⟨i3, g⟩ _ ⟨H64, bg, rfl, s65, hg, hgi⟩
            dsimp only at *
            have hgl := hg.len
            refine awp_seq ?_
            refine awp_seq ?_
            refine awp_regs hF ?_
            refine dv (gyes_none rfl) (q_mv (v := .int .i64 ((i3 : Nat) : Int)) rfl) rfl (by decide) (cok1 trivial) ?_
            refine dv (gyes_none rfl) (q_mv (v := .slice (some ⟨b40, 0, none⟩) ((keptL (rows16 e) rt).length) ((keptL (rows16 e) rt).length)) rfl) rfl (by decide) (cok1 trivial) ?_
            refine dv (gyes_none rfl) (q_len_slice Try.underlying32 rfl (s65.rd (j := 3) rfl)) rfl (by decide) (cok1 trivial) ?_
            refine dvb (gyes_none rfl) (q_int rfl rfl rfl) rfl (by decide) (cok2 trivial trivial) (fun c5 => ?_) (fun c5 => ?_)
            ·
              replace c5 := of_decide_eq_true c5
              refine ⟨_, Wk.refl _ _, ?_⟩
              show awp _ _ _ _ _ _ _
              refine awp_cond_t rfl ?_
              refine awp_skip_wk ?_
              refine ⟨_, Wk.refl _ _, ?_⟩
              show awp _ _ _ _ _ _ _
              refine awp_seq ?_
              refine awp_block ?_
              refine awp_seq ?_
              refine awp_seq ?_
              refine awp_regs hF ?_
              refine dv (gyes_none rfl) (q_mv (v := .slice (some ⟨b40, 0, none⟩) ((keptL (rows16 e) rt).length) ((keptL (rows16 e) rt).length)) rfl) rfl (by decide) (cok1 trivial) ?_
              refine dv (gyes_none rfl) (q_mv (v := .int .i64 ((i3 : Nat) : Int)) rfl) rfl (by decide) (cok1 trivial) ?_
              refine dv (gyes_none rfl) (OpQ.cast (v' := .pointer (some ⟨b40, i3, none⟩)) (q_index1 (i := i3) Try.underlying32 Try.sizeOf4 rfl rfl (by omega) (s65.rd (j := 3) rfl)) (by rw [Nat.zero_add])) rfl (by decide) (cok2 trivial trivial) ?_
              refine dvb (gyes_none rfl) (q_load (v := boolv (nth (keptL (rows16 e) rt) i3)) Try.isAgg4 rfl (s65.rd (j := 3) rfl) (get_nth (w := 0) (by omega))) rfl (by decide) (cok1 trivial) (fun c6 => ?_) (fun c6 => ?_)
              ·
                refine ⟨_, Wk.refl _ _, ?_⟩
                show awp _ _ _ _ _ _ _
                refine awp_cond_t rfl ?_
                refine awp_regs hF ?_
                refine dv (gyes_none rfl) (q_mv (v := .slice (some ⟨bg, 0, none⟩) g.length g.length) rfl) rfl (by decide) (cok1 trivial) ?_
                refine dv (gyes_none rfl) (q_mv (v := .int .i64 ((i3 : Nat) : Int)) rfl) rfl (by decide) (cok1 trivial) ?_
                refine x_new (fun b => .slice (some ⟨b, 0, none⟩) 1 1) s65 (gyes_none rfl) (q_buildSliceL (ds := [.int .i64 ((i3 : Nat) : Int)]) [.int .i64 ((i3 : Nat) : Int)] rfl Try.underlying23 Try.sizeOf3 Try.zeroValue3 rfl (by decide) (by decide) ⟨rfl, trivial⟩ (lvsC (by exact trivial) lvs0) rfl rfl) rfl (by decide) (cok1 trivial) (fun b66 H67 hb69 s68 => ?_)
                refine x_append (l := [((i3 : Nat) : Int)]) (f := intv) [] hF s68 (by kernel_rfl) (j := 1) ((g ++ [((i3 : Nat) : Int)]).length) (by simp) (gyes_none rfl) Try.underlying23 Try.underlying23 Try.type3 rfl rfl (by decide) rfl rfl rfl rfl (s68.slj (l := [((i3 : Nat) : Int)]) (f := intv) (j := 0) rfl rfl (Nat.le_refl _)) (fun x => lc_scalar rfl) (by simp) (by show (2 * _ + 1000) * 8 ≤ _; first | omega | (simp only [List.length_append, List.length_cons, List.length_nil, List.length_take, List.length_drop]; omega)) trivial trivial (by decide) rfl rfl (vs' := (g ++ [((i3 : Nat) : Int)]).map intv) (by simp) (fun b70 H71 hb73 s72 => ⟨?_, ?_⟩)
                · exact trivial
                refine dv (gyes_none rfl) (q_as (v := .slice (some ⟨b70, 0, none⟩) ((g ++ [((i3 : Nat) : Int)]).length) ((g ++ [((i3 : Nat) : Int)]).length)) rfl) rfl (by decide) (cok1 trivial) ?_
                refine ⟨_, Wk.refl _ _, ?_⟩
                show awp _ _ _ _ _ _ _
                refine awp_seq ?_
                refine awp_regs hF ?_
                refine dv (gyes_none rfl) (q_mv (v := .slice (some ⟨b40, 0, none⟩) ((keptL (rows16 e) rt).length) ((keptL (rows16 e) rt).length)) rfl) rfl (by decide) (cok1 trivial) ?_
                refine dv (gyes_none rfl) (q_mv (v := .int .i64 ((i3 : Nat) : Int)) rfl) rfl (by decide) (cok1 trivial) ?_
                refine dv (gyes_none rfl) (OpQ.cast (v' := .pointer (some ⟨b40, i3, none⟩)) (q_index1 (i := i3) Try.underlying32 Try.sizeOf4 rfl rfl (by omega) (s72.rd (j := 4) rfl)) (by rw [Nat.zero_add])) rfl (by decide) (cok2 trivial trivial) ?_
                refine dvb (gyes_none rfl) (q_load (v := boolv (nth (keptL (rows16 e) rt) i3)) Try.isAgg4 rfl (s72.rd (j := 4) rfl) (get_nth (w := 0) (by omega))) rfl (by decide) (cok1 trivial) (fun c7 => ?_) (fun c7 => ?_)
                ·
                  refine dv (gyes_none rfl) (q_mv (v := .bool true) rfl) rfl (by decide) (cok1 trivial) ?_
                  refine dv (gyes_some rfl rfl) (q_mv (v := .slice (some ⟨b56, 0, none⟩) ((keptL (rows16 e) (rt ++ sm)).length) ((keptL (rows16 e) (rt ++ sm)).length)) rfl) rfl (by decide) (cok1 trivial) ?_
                  refine dv (gyes_some rfl rfl) (q_mv (v := .int .i64 ((i3 : Nat) : Int)) rfl) rfl (by decide) (cok1 trivial) ?_
                  refine dv (gyes_some rfl rfl) (OpQ.cast (v' := .pointer (some ⟨b56, i3, none⟩)) (q_index1 (i := i3) Try.underlying32 Try.sizeOf4 rfl rfl (by omega) (s72.rd (j := 2) rfl)) (by rw [Nat.zero_add])) rfl (by decide) (cok2 trivial trivial) ?_
                  refine dvb (gyes_some rfl rfl) (q_load (v := boolv (nth (keptL (rows16 e) (rt ++ sm)) i3)) Try.isAgg4 rfl (s72.rd (j := 2) rfl) (get_nth (w := 0) (by omega))) rfl (by decide) (cok1 trivial) (fun c8 => ?_) (fun c8 => ?_)
                  ·
                    refine dv (gyes_some rfl rfl) (q_not (b := true) rfl) rfl (by decide) (cok1 trivial) ?_
                    refine dv (gyes_none rfl) (q_pt (v := .bool false) rfl rfl) rfl (by decide) (call_ok rfl) ?_
                    refine ⟨_, Wk.refl _ _, ?_⟩
                    show awp _ _ _ _ _ _ _
                    refine awp_cond_f rfl ?_
                    refine awp_skip_wk ?_
                    refine ⟨_, Wk.refl _ _, ?_⟩
                    show awp _ _ _ _ _ _ _
                    refine awp_regs hF ?_
                    refine dv (gyes_none rfl) (q_mv (v := .int .i64 ((i3 : Nat) : Int)) rfl) rfl (by decide) (cok1 trivial) ?_
                    refine dv (gyes_none rfl) (OpQ.cast (v' := .int .i64 ((i3 + 1 : Nat) : Int)) (q_int rfl rfl rfl) (congrArg _ ((i64_in (by omega)).trans (by first | rfl | omega | (push_cast; rfl))))) rfl (by decide) (cok2 trivial (cconst rfl)) ?_
                    refine dv (gyes_none rfl) (q_as (v := .int .i64 ((i3 + 1 : Nat) : Int)) rfl) rfl (by decide) (cok1 trivial) ?_
                    refine ⟨_, Wk.U [(7, va3), (13, .slice (some ⟨b40, 0, none⟩) ((keptL (rows16 e) rt).length) ((keptL (rows16 e) rt).length)), (14, .slice (some ⟨b56, 0, none⟩) ((keptL (rows16 e) (rt ++ sm)).length) ((keptL (rows16 e) (rt ++ sm)).length)), (15, .slice (some ⟨b70, 0, none⟩) ((g ++ [((i3 : Nat) : Int)]).length) ((g ++ [((i3 : Nat) : Int)]).length)), (16, .int .i64 (((i3 + 1) : Nat) : Int))] ⟨rfl, rfl, rfl, rfl, rfl, trivial⟩, ((i3 + 1), (g ++ [((i3 : Nat) : Int)])), ⟨_, _, rfl, (s72.sub (.cons _ (.cons_cons _ (.cons_cons _ (.cons_cons _ (.cons_cons _ (.cons_cons _ (.cons_cons _ (.cons_cons _ (.cons_cons _ (.refl _))))))))))), hg.yes (by assumption), (by dsimp only; omega)⟩, (by omega)⟩
                  ·
                    exact (kept_mono (i := i3) (by omega) (by assumption) c8).elim --closed
                ·
                  refine dv (gyes_none rfl) (q_mv (v := .bool false) rfl) rfl (by decide) (cok1 trivial) ?_
                  refine dno rfl (.inl rfl) rfl (by decide) ?_
                  refine dno rfl (.inl rfl) rfl (by decide) ?_
                  refine dno rfl (.inl rfl) rfl (by decide) ?_
                  refine dno rfl (.inl rfl) rfl (by decide) ?_
                  refine dno rfl (.inl rfl) rfl (by decide) ?_
                  refine dv (gyes_none rfl) (q_pf (v := .bool false) rfl rfl) rfl (by decide) (call_ok rfl) ?_
                  refine ⟨_, Wk.refl _ _, ?_⟩
                  show awp _ _ _ _ _ _ _
                  refine awp_cond_f rfl ?_
                  refine awp_skip_wk ?_
                  refine ⟨_, Wk.refl _ _, ?_⟩
                  show awp _ _ _ _ _ _ _
                  refine awp_regs hF ?_
                  refine dv (gyes_none rfl) (q_mv (v := .int .i64 ((i3 : Nat) : Int)) rfl) rfl (by decide) (cok1 trivial) ?_
                  refine dv (gyes_none rfl) (OpQ.cast (v' := .int .i64 ((i3 + 1 : Nat) : Int)) (q_int rfl rfl rfl) (congrArg _ ((i64_in (by omega)).trans (by first | rfl | omega | (push_cast; rfl))))) rfl (by decide) (cok2 trivial (cconst rfl)) ?_
                  refine dv (gyes_none rfl) (q_as (v := .int .i64 ((i3 + 1 : Nat) : Int)) rfl) rfl (by decide) (cok1 trivial) ?_
                  refine ⟨_, Wk.U [(7, va3), (13, .slice (some ⟨b40, 0, none⟩) ((keptL (rows16 e) rt).length) ((keptL (rows16 e) rt).length)), (14, .slice (some ⟨b56, 0, none⟩) ((keptL (rows16 e) (rt ++ sm)).length) ((keptL (rows16 e) (rt ++ sm)).length)), (15, .slice (some ⟨b70, 0, none⟩) ((g ++ [((i3 : Nat) : Int)]).length) ((g ++ [((i3 : Nat) : Int)]).length)), (16, .int .i64 (((i3 + 1) : Nat) : Int))] ⟨rfl, rfl, rfl, rfl, rfl, trivial⟩, ((i3 + 1), (g ++ [((i3 : Nat) : Int)])), ⟨_, _, rfl, (s72.sub (.cons _ (.cons_cons _ (.cons_cons _ (.cons_cons _ (.cons_cons _ (.cons_cons _ (.cons_cons _ (.cons_cons _ (.cons_cons _ (.refl _))))))))))), hg.yes (by assumption), (by dsimp only; omega)⟩, (by omega)⟩
              ·
                refine ⟨_, Wk.refl _ _, ?_⟩
                show awp _ _ _ _ _ _ _
                refine awp_cond_f rfl ?_
                refine awp_skip_wk ?_
                refine ⟨_, Wk.refl _ _, ?_⟩
                show awp _ _ _ _ _ _ _
                refine awp_seq ?_
                refine awp_regs hF ?_
                refine dv (gyes_none rfl) (q_mv (v := .slice (some ⟨b40, 0, none⟩) ((keptL (rows16 e) rt).length) ((keptL (rows16 e) rt).length)) rfl) rfl (by decide) (cok1 trivial) ?_
                refine dv (gyes_none rfl) (q_mv (v := .int .i64 ((i3 : Nat) : Int)) rfl) rfl (by decide) (cok1 trivial) ?_
                refine dv (gyes_none rfl) (OpQ.cast (v' := .pointer (some ⟨b40, i3, none⟩)) (q_index1 (i := i3) Try.underlying32 Try.sizeOf4 rfl rfl (by omega) (s65.rd (j := 3) rfl)) (by rw [Nat.zero_add])) rfl (by decide) (cok2 trivial trivial) ?_
                refine dvb (gyes_none rfl) (q_load (v := boolv (nth (keptL (rows16 e) rt) i3)) Try.isAgg4 rfl (s65.rd (j := 3) rfl) (get_nth (w := 0) (by omega))) rfl (by decide) (cok1 trivial) (fun c9 => ?_) (fun c9 => ?_)
                ·
                  refine dv (gyes_none rfl) (q_mv (v := .bool true) rfl) rfl (by decide) (cok1 trivial) ?_
                  refine dv (gyes_some rfl rfl) (q_mv (v := .slice (some ⟨b56, 0, none⟩) ((keptL (rows16 e) (rt ++ sm)).length) ((keptL (rows16 e) (rt ++ sm)).length)) rfl) rfl (by decide) (cok1 trivial) ?_
                  refine dv (gyes_some rfl rfl) (q_mv (v := .int .i64 ((i3 : Nat) : Int)) rfl) rfl (by decide) (cok1 trivial) ?_
                  refine dv (gyes_some rfl rfl) (OpQ.cast (v' := .pointer (some ⟨b56, i3, none⟩)) (q_index1 (i := i3) Try.underlying32 Try.sizeOf4 rfl rfl (by omega) (s65.rd (j := 1) rfl)) (by rw [Nat.zero_add])) rfl (by decide) (cok2 trivial trivial) ?_
                  refine dvb (gyes_some rfl rfl) (q_load (v := boolv (nth (keptL (rows16 e) (rt ++ sm)) i3)) Try.isAgg4 rfl (s65.rd (j := 1) rfl) (get_nth (w := 0) (by omega))) rfl (by decide) (cok1 trivial) (fun c10 => ?_) (fun c10 => ?_)
                  ·
                    refine dv (gyes_some rfl rfl) (q_not (b := true) rfl) rfl (by decide) (cok1 trivial) ?_
                    refine dv (gyes_none rfl) (q_pt (v := .bool false) rfl rfl) rfl (by decide) (call_ok rfl) ?_
                    refine ⟨_, Wk.refl _ _, ?_⟩
                    show awp _ _ _ _ _ _ _
                    refine awp_cond_f rfl ?_
                    refine awp_skip_wk ?_
                    refine ⟨_, Wk.refl _ _, ?_⟩
                    show awp _ _ _ _ _ _ _
                    refine awp_regs hF ?_
                    refine dv (gyes_none rfl) (q_mv (v := .int .i64 ((i3 : Nat) : Int)) rfl) rfl (by decide) (cok1 trivial) ?_
                    refine dv (gyes_none rfl) (OpQ.cast (v' := .int .i64 ((i3 + 1 : Nat) : Int)) (q_int rfl rfl rfl) (congrArg _ ((i64_in (by omega)).trans (by first | rfl | omega | (push_cast; rfl))))) rfl (by decide) (cok2 trivial (cconst rfl)) ?_
                    refine dv (gyes_none rfl) (q_as (v := .int .i64 ((i3 + 1 : Nat) : Int)) rfl) rfl (by decide) (cok1 trivial) ?_
                    refine ⟨_, Wk.U [(7, va3), (13, .slice (some ⟨b40, 0, none⟩) ((keptL (rows16 e) rt).length) ((keptL (rows16 e) rt).length)), (14, .slice (some ⟨b56, 0, none⟩) ((keptL (rows16 e) (rt ++ sm)).length) ((keptL (rows16 e) (rt ++ sm)).length)), (15, .slice (some ⟨bg, 0, none⟩) g.length g.length), (16, .int .i64 (((i3 + 1) : Nat) : Int))] ⟨rfl, rfl, rfl, rfl, rfl, trivial⟩, ((i3 + 1), g), ⟨_, _, rfl, s65, hg.no (by assumption), (by dsimp only; omega)⟩, (by omega)⟩
                  ·
                    exact (kept_mono (i := i3) (by omega) (by assumption) c10).elim --closed
                ·
                  refine dv (gyes_none rfl) (q_mv (v := .bool false) rfl) rfl (by decide) (cok1 trivial) ?_
                  refine dno rfl (.inl rfl) rfl (by decide) ?_
                  refine dno rfl (.inl rfl) rfl (by decide) ?_
                  refine dno rfl (.inl rfl) rfl (by decide) ?_
                  refine dno rfl (.inl rfl) rfl (by decide) ?_
                  refine dno rfl (.inl rfl) rfl (by decide) ?_
                  refine dv (gyes_none rfl) (q_pf (v := .bool false) rfl rfl) rfl (by decide) (call_ok rfl) ?_
                  refine ⟨_, Wk.refl _ _, ?_⟩
                  show awp _ _ _ _ _ _ _
                  refine awp_cond_f rfl ?_
                  refine awp_skip_wk ?_
                  refine ⟨_, Wk.refl _ _, ?_⟩
                  show awp _ _ _ _ _ _ _
                  refine awp_regs hF ?_
                  refine dv (gyes_none rfl) (q_mv (v := .int .i64 ((i3 : Nat) : Int)) rfl) rfl (by decide) (cok1 trivial) ?_
                  refine dv (gyes_none rfl) (OpQ.cast (v' := .int .i64 ((i3 + 1 : Nat) : Int)) (q_int rfl rfl rfl) (congrArg _ ((i64_in (by omega)).trans (by first | rfl | omega | (push_cast; rfl))))) rfl (by decide) (cok2 trivial (cconst rfl)) ?_
                  refine dv (gyes_none rfl) (q_as (v := .int .i64 ((i3 + 1 : Nat) : Int)) rfl) rfl (by decide) (cok1 trivial) ?_
                  refine ⟨_, Wk.U [(7, va3), (13, .slice (some ⟨b40, 0, none⟩) ((keptL (rows16 e) rt).length) ((keptL (rows16 e) rt).length)), (14, .slice (some ⟨b56, 0, none⟩) ((keptL (rows16 e) (rt ++ sm)).length) ((keptL (rows16 e) (rt ++ sm)).length)), (15, .slice (some ⟨bg, 0, none⟩) g.length g.length), (16, .int .i64 (((i3 + 1) : Nat) : Int))] ⟨rfl, rfl, rfl, rfl, rfl, trivial⟩, ((i3 + 1), g), ⟨_, _, rfl, s65, hg.no (by assumption), (by dsimp only; omega)⟩, (by omega)⟩
            ·
              replace c5 := of_decide_eq_false c5
              have hgg : keptL (rows16 e) g = (keptL (rows16 e) rt) := hg.eq (by omega)
              refine ⟨_, Wk.refl _ _, ?_⟩
              show awp _ _ _ _ _ _ _
              refine awp_cond_f rfl ?_
              refine awp_exit_wk ?_
              refine ⟨_, Wk.refl _ _, ?_⟩
              show awp _ _ _ _ _ _ _
              refine awp_seq ?_
              refine awp_regs hF ?_
              refine dv (gyes_none rfl) (q_mv (v := va3) rfl) rfl (by decide) (cok1 trivial) ?_
              refine dv (gyes_none rfl) (q_mv (v := .slice (some ⟨bg, 0, none⟩) g.length g.length) rfl) rfl (by decide) (cok1 trivial) ?_
              refine x_new (fun b => .slice (some ⟨b, 0, none⟩) (keptL (rows16 e) rt).length (keptL (rows16 e) rt).length) s65 (gyes_none rfl) (q_call (Δ := [.cells true ((keptL (rows16 e) rt).map boolv) 1]) Try.call12 rfl (by simp [AObj.wr]) (acalls_fresh boolv_sc (hgg ▸ kept_ok (rows16 e) _ (ha5.of s65) (rows16_sized e) g _ (s65.slj (j := 0) rfl (by first | rfl | (simp; done) | omega) (by first | exact Nat.le_refl _ | omega)) (by first | omega | (rw [List.length_append]; omega))))) rfl (by decide) (call_ok rfl) (fun b74 H75 hb77 s76 => ?_)
              refine dv (gyes_none rfl) (q_as (v := .slice (some ⟨b74, 0, none⟩) ((keptL (rows16 e) rt).length) ((keptL (rows16 e) rt).length)) rfl) rfl (by decide) (cok1 trivial) ?_
              refine ⟨_, Wk.refl _ _, ?_⟩
              show awp _ _ _ _ _ _ _
              refine awp_seq ?_
              refine awp_seq ?_
              refine awp_regs hF ?_
              refine dv (gyes_none rfl) (q_as (v := .int .i64 0) rfl) rfl (by decide) (cok1 (cconst rfl)) ?_
              refine ⟨_, Wk.refl _ _, ?_⟩
              show awp _ _ _ _ _ _ _
              refine awp_block ?_
              refine awp_wk (Wk.U [(13, .slice (some ⟨b40, 0, none⟩) ((keptL (rows16 e) rt).length) ((keptL (rows16 e) rt).length)), (17, .slice (some ⟨b74, 0, none⟩) ((keptL (rows16 e) rt).length) ((keptL (rows16 e) rt).length)), (18, .int .i64 0)] ⟨rfl, rfl, rfl, trivial⟩) ?_
              refine awp_loop (fun (i4 : Nat) st => ∃ (H78 : AHeap), st = ⟨144, U [(13, .slice (some ⟨b40, 0, none⟩) ((keptL (rows16 e) rt).length) ((keptL (rows16 e) rt).length)), (17, .slice (some ⟨b74, 0, none⟩) ((keptL (rows16 e) rt).length) ((keptL (rows16 e) rt).length)), (18, .int .i64 ((i4 : Nat) : Int))], [], H78⟩ ∧ St H0 (none0) (Rd H1) H78 [(b74, .cells true ((keptL (rows16 e) rt).map boolv) 1), (bg, .cells true (g.map intv) 1), (b56, .cells true ((keptL (rows16 e) (rt ++ sm)).map boolv) 1), (b52, .cells true ((rt ++ sm).map intv) 1), (b40, .cells true ((keptL (rows16 e) rt).map boolv) 1), (b30, .cells true (cs.map i64v) 1), (b26, .cells true ((firstL (rows16 e) sm).map intv) 1), (b22, .cells true (rt.map intv) 1), (b13, .cells true (sm.map intv) 1)]) (fun (i4 : Nat) => (keptL (rows16 e) rt).length - i4) (x0 := (0)) ?h0 ?round
              case h0 =>
                exact ⟨_, rfl, s76⟩
              case round =>
                rintro i4 _ ⟨H78, rfl, s79⟩
                refine awp_seq ?_
                refine awp_seq ?_
                refine awp_regs hF ?_
                refine dv (gyes_none rfl) (q_mv (v := .int .i64 ((i4 : Nat) : Int)) rfl) rfl (by decide) (cok1 trivial) ?_
                refine dv (gyes_none rfl) (q_mv (v := .slice (some ⟨b40, 0, none⟩) ((keptL (rows16 e) rt).length) ((keptL (rows16 e) rt).length)) rfl) rfl (by decide) (cok1 trivial) ?_
                refine dv (gyes_none rfl) (q_len_slice Try.underlying32 rfl (s79.rd (j := 4) rfl)) rfl (by decide) (cok1 trivial) ?_
                refine dvb (gyes_none rfl) (q_int rfl rfl rfl) rfl (by decide) (cok2 trivial trivial) (fun c11 => ?_) (fun c11 => ?_)
                ·
                  replace c11 := of_decide_eq_true c11
                  refine ⟨_, Wk.refl _ _, ?_⟩
                  show awp _ _ _ _ _ _ _
                  refine awp_cond_t rfl ?_
                  refine awp_skip_wk ?_
                  refine ⟨_, Wk.refl _ _, ?_⟩
                  show awp _ _ _ _ _ _ _
                  refine awp_seq ?_
                  refine awp_block ?_
                  refine awp_seq ?_
                  refine awp_regt hF hM (by kernel_rfl) (by kernel_rfl) ?_
                  refine dv (gyes_none rfl) (q_mv (v := .slice (some ⟨b40, 0, none⟩) ((keptL (rows16 e) rt).length) ((keptL (rows16 e) rt).length)) rfl) rfl (by decide) (cok1 trivial) ?_
                  refine dv (gyes_none rfl) (q_mv (v := .int .i64 ((i4 : Nat) : Int)) rfl) rfl (by decide) (cok1 trivial) ?_
                  refine dv (gyes_none rfl) (OpQ.cast (v' := .pointer (some ⟨b40, i4, none⟩)) (q_index1 (i := i4) Try.underlying32 Try.sizeOf4 rfl rfl (by omega) (s79.rd (j := 4) rfl)) (by rw [Nat.zero_add])) rfl (by decide) (cok2 trivial trivial) ?_
                  refine dv (gyes_none rfl) (q_load (v := boolv (nth (keptL (rows16 e) rt) i4)) Try.isAgg4 rfl (s79.rd (j := 4) rfl) (get_nth (w := 0) (by omega))) rfl (by decide) (cok1 trivial) ?_
                  refine dv (gyes_none rfl) (q_mv (v := .slice (some ⟨b74, 0, none⟩) ((keptL (rows16 e) rt).length) ((keptL (rows16 e) rt).length)) rfl) rfl (by decide) (cok1 trivial) ?_
                  refine dv (gyes_none rfl) (q_mv (v := .int .i64 ((i4 : Nat) : Int)) rfl) rfl (by decide) (cok1 trivial) ?_
                  refine dv (gyes_none rfl) (OpQ.cast (v' := .pointer (some ⟨b74, i4, none⟩)) (q_index1 (i := i4) Try.underlying32 Try.sizeOf4 rfl rfl (by omega) (s79.rd (j := 0) rfl)) (by rw [Nat.zero_add])) rfl (by decide) (cok2 trivial trivial) ?_
                  refine dv (gyes_none rfl) (q_load (v := boolv (nth (keptL (rows16 e) rt) i4)) Try.isAgg4 rfl (s79.rd (j := 0) rfl) (get_nth (w := 0) (by omega))) rfl (by decide) (cok1 trivial) ?_
                  refine dv (gyes_none rfl) (OpQ.cast (v' := .bool false) (q_boolne Try.underlying4 rfl rfl) (congrArg Value.bool (bne_self_eq_false _))) rfl (by decide) (cok2 trivial trivial) ?_
                  refine ⟨_, Wk.refl _ _, ?_⟩
                  show awp _ _ _ _ _ _ _
                  refine awp_cond_f rfl ?_
                  refine awp_skip_wk ?_
                  refine ⟨_, Wk.refl _ _, ?_⟩
                  show awp _ _ _ _ _ _ _
                  refine awp_regs hF ?_
                  refine dv (gyes_none rfl) (q_mv (v := .int .i64 ((i4 : Nat) : Int)) rfl) rfl (by decide) (cok1 trivial) ?_
                  refine dv (gyes_none rfl) (OpQ.cast (v' := .int .i64 ((i4 + 1 : Nat) : Int)) (q_int rfl rfl rfl) (congrArg _ ((i64_in (by omega)).trans (by first | rfl | omega | (push_cast; rfl))))) rfl (by decide) (cok2 trivial (cconst rfl)) ?_
                  refine dv (gyes_none rfl) (q_as (v := .int .i64 ((i4 + 1 : Nat) : Int)) rfl) rfl (by decide) (cok1 trivial) ?_
                  refine ⟨_, Wk.U [(13, .slice (some ⟨b40, 0, none⟩) ((keptL (rows16 e) rt).length) ((keptL (rows16 e) rt).length)), (17, .slice (some ⟨b74, 0, none⟩) ((keptL (rows16 e) rt).length) ((keptL (rows16 e) rt).length)), (18, .int .i64 (((i4 + 1) : Nat) : Int))] ⟨rfl, rfl, rfl, trivial⟩, (i4 + 1), ⟨_, rfl, s79⟩, (by omega)⟩
                ·
                  replace c11 := of_decide_eq_false c11
                  refine ⟨_, Wk.refl _ _, ?_⟩
                  show awp _ _ _ _ _ _ _
                  refine awp_cond_f rfl ?_
                  refine awp_exit_wk ?_
                  refine ⟨_, Wk.refl _ _, ?_⟩
                  show awp _ _ _ _ _ _ _
                  refine awp_seq ?_
                  refine awp_regs hF ?_
                  refine dv (gyes_none rfl) (q_as (v := .bool true) rfl) rfl (by decide) (cok1 (cconst rfl)) ?_
                  refine ⟨_, Wk.refl _ _, ?_⟩
                  show awp _ _ _ _ _ _ _
                  refine awp_ret_wk ?_
                  refine ⟨_, Wk.refl _ _, ?_⟩
                  repeat (with_reducible first | refine then_ret ?_ | refine blk_ret ?_ | refine then_exit ?_ | refine blk_exit ?_ | refine blk_exit' (by decide) ?_ | refine blk_normal ?_ | refine then_normal ?_ | refine retq_ret ?_ | refine retq_normal ?_ | refine ng_normal ?_ | refine ng_ret ?_ | refine ng_exit ?_)
                  exact ret_none (v := .bool true) rfl s79.kp (.tmp rfl .nil) rfl rfl ⟨rfl, rfl⟩

end Go.Proofs.YtbjlabokijchpaaA
