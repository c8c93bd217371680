/-
  Walks over abstract states: texts of one claim, merged.
-/
import Derived.Test.YthfndghgfabbjaaM4
import Derived.Test.YthfndghgfabbjaaProg
import Derived.KernelRfl
/-
  Walks of functions of the given program, and what they compute.
-/
namespace Go.Proofs.YthfndghgfabbjaaA
set_option linter.unusedVariables false
open Go Go.RowKit Go.Shelf Go.Proofs
def cntT (e : List DEnt) (k : Nat) : Nat → Nat
  | 0 => 0
  | i + 1 => if (nth e i).1 = k then cntT e k i + 1 else cntT e k i
def fstT (e : List DEnt) (k : Nat) : Nat → Nat
  | 0 => 0
  | i + 1 => if (nth e i).1 = k then (if cntT e k i = 0 then (nth e i).2 else fstT e k i) else fstT e k i
theorem cnt_y {e : List DEnt} {k i : Nat} (h : (nth e i).1 = k) : cntT e k (i + 1) = cntT e k i + 1 := if_pos h
theorem cnt_n {e : List DEnt} {k i : Nat} (h : (nth e i).1 ≠ k) : cntT e k (i + 1) = cntT e k i := if_neg h
theorem fst_y {e : List DEnt} {k i : Nat} (h : (nth e i).1 = k) : fstT e k (i + 1) = if cntT e k i = 0 then (nth e i).2 else fstT e k i := if_pos h
theorem fst_n {e : List DEnt} {k i : Nat} (h : (nth e i).1 ≠ k) : fstT e k (i + 1) = fstT e k i := if_neg h
theorem cnt_le {e : List DEnt} {k : Nat} : ∀ i, cntT e k i ≤ i
  | 0 => Nat.le_refl _
  | i + 1 => by
    have := cnt_le (e := e) (k := k) i
    unfold cntT; split <;> omega
theorem cnt_mono {e : List DEnt} {k i : Nat} : ∀ d, cntT e k i ≤ cntT e k (i + d)
  | 0 => Nat.le_refl _
  | d + 1 => by
    have := cnt_mono (e := e) (k := k) (i := i) d
    rw [← Nat.add_assoc]
    show _ ≤ cntT e k (i + d + 1)
    by_cases h : (nth e (i + d)).1 = k
    · rw [cnt_y h]; omega
    · rw [cnt_n h]; exact this
def told (n : Nat) (stop : Int) : Nat := if 0 < stop then min n stop.toNat else n
theorem told_min {ct : Nat} {stop : Int} (h : 1 ≤ stop) : (if stop < (ct : Int) then stop else (ct : Int)) = ((told ct stop : Nat) : Int) := by
  have e : told ct stop = min ct stop.toNat := if_pos (by omega)
  rw [e]
  split <;> omega
theorem getV_cnt {e : List DEnt} {k : Nat} : ∀ i, i ≤ e.length → (cntT e k i = 0 → fstT e k i = 0 ∧ ∀ j, j < i → ((nth e j).1 == k) = false) ∧ (0 < cntT e k i → getV e k = (fstT e k i, true))
  | 0, _ => ⟨fun _ => ⟨rfl, fun j h => absurd h (Nat.not_lt_zero _)⟩, fun h => absurd h (Nat.lt_irrefl _)⟩
  | i + 1, hi => by
    obtain ⟨h1, h2⟩ := getV_cnt (e := e) (k := k) i (by omega)
    by_cases h : (nth e i).1 = k
    · rw [cnt_y h, fst_y h]
      refine ⟨fun h => by omega, fun _ => ?_⟩
      split
      · rename_i h0; exact getV_yes (by omega) h (h1 h0).2
      · exact h2 (by omega)
    · rw [cnt_n h, fst_n h]
      exact ⟨fun h0 => ⟨(h1 h0).1, lt_succ_casesN (h1 h0).2 (beq_eq_false_iff_ne.2 h)⟩, h2⟩
theorem getV_run {e : List DEnt} {k i : Nat} {stop : Int} (hi : i ≤ e.length) (hn : cntT e k i = told (cntT e k e.length) stop) : getV e k = (fstT e k i, decide (0 < cntT e k i)) := by
  have h1 := getV_cnt (e := e) (k := k) i hi
  have h2 := getV_cnt (e := e) (k := k) e.length (Nat.le_refl _)
  by_cases h : cntT e k i = 0
  · have h3 : cntT e k e.length = 0 := by unfold told at hn; split at hn <;> omega
    rw [getV_no (h2.1 h3).2, (h1.1 h).1, decide_eq_false (by omega)]
  · rw [h1.2 (by omega), decide_eq_true (by omega)]
theorem St.turn2 {H0 : AHeap} {X : Nat → Prop} {Z : Rs} {H H' : AHeap} {F : List (Nat × AObj)} (h : St H0 X Z H F) {j9 jl b9 bl bn : Nat} {o9 ol o9' on : AObj} (h9 : F[j9]? = some (b9, o9)) (hl : F[jl]? = some (bl, ol)) (hij : j9 ≠ jl) (k : Kp (· ∈ [b9, bl]) H H') (hb : H.length ≤ bn ∨ bn ∈ [b9, bl]) (hne : bn ≠ b9) (h9' : H'[b9]? = some o9') (hn : H'[bn]? = some on) : St H0 X Z H' ((F.set j9 (b9, o9')).set jl (bn, on)) := by
  have m9 : b9 ∈ F.map (·.1) := List.mem_map.2 ⟨_, List.mem_of_getElem? h9, rfl⟩
  have ml : bl ∈ F.map (·.1) := List.mem_map.2 ⟨_, List.mem_of_getElem? hl, rfl⟩
  have hjl := (List.getElem?_eq_some_iff.1 hl).1
  refine h.turn k _ ?_ (fun p hp => ?_) (fun b hb => ?_)
  · have e1 : ((F.set j9 (b9, o9')).set jl (bn, on)).map (·.1) = (F.map (·.1)).set jl bn := by rw [List.map_set, keys_set h9]
    rw [e1]
    refine nodup_of_inj fun i j x hi hj => ?_
    rw [List.getElem?_set] at hi hj
    have nb : ∀ q, q ≠ jl → (F.map (·.1))[q]? ≠ some bn := fun q hq e => by
      rw [List.getElem?_map] at e
      obtain ⟨y, hy, hy2⟩ := Option.map_eq_some_iff.1 e
      rcases hb with hb | hb
      · have := lt_of_some (h.getj (b := y.1) (o := y.2) hy)
        omega
      · rcases List.mem_cons.1 hb with hb | hb
        · exact hne hb
        · have hb : bn = bl := by simpa using hb
          exact h.ne hy hl hq (hy2.trans hb)
    by_cases ei : jl = i
    · by_cases ej : jl = j
      · omega
      · rw [if_pos ei, if_pos (by simpa using hjl)] at hi
        rw [if_neg ej] at hj
        cases hi
        exact absurd hj (nb j (Ne.symm ej))
    · rw [if_neg ei] at hi
      by_cases ej : jl = j
      · rw [if_pos ej, if_pos (by simpa using hjl)] at hj
        cases hj
        exact absurd hi (nb i (Ne.symm ei))
      · rw [if_neg ej] at hj
        exact nodup_inj h.nd hi hj
  · rcases mem_set_cases hp with rfl | ⟨i, hi, hp⟩
    · refine .inr ⟨hn, hb.imp id fun hb => ?_⟩
      rcases List.mem_cons.1 hb with hb | hb
      · exact absurd hb hne
      · have hb : bn = bl := by simpa using hb
        show bn ∈ _
        rw [hb]; exact ml
    · rw [List.getElem?_set] at hp
      by_cases e : j9 = i
      · rw [if_pos e, if_pos (List.getElem?_eq_some_iff.1 h9).1] at hp
        cases hp
        exact .inr ⟨h9', .inr m9⟩
      · rw [if_neg e] at hp
        refine .inl ⟨List.mem_of_getElem? hp, fun hm => ?_⟩
        rcases List.mem_cons.1 hm with hm | hm
        · exact h.ne hp h9 (Ne.symm e) hm
        · have hm : p.1 = bl := by simpa using hm
          exact h.ne hp hl hi hm
  · rcases List.mem_cons.1 hb with rfl | hb
    · exact m9
    · have hb : b = bl := by simpa using hb
      rw [hb]; exact ml
set_option maxRecDepth 100000 in
set_option maxHeartbeats 4000000 in
theorem fclos_ok {H0 : AHeap} (x n f : Nat) (hn : n ≤ 1000000) (stop : Int) (qn qf qs : Nat) (hnd : [qn, qf].Nodup) (hbs : qs ∉ [qn, qf]) (h1 : H0[qn]? = some (.cells true [.int .i64 ((n : Nat) : Int)] 1)) (h2 : H0[qf]? = some (.cells true [.int .u64 ((f : Nat) : Int)] 1)) (h5 : Rd H0 qs [.int .i64 stop] 1) : ACalls Try.prog 23 [.int .u64 ((x : Nat) : Int), .pointer (some ⟨qn, 0, none⟩), .pointer (some ⟨qf, 0, none⟩), .pointer (some ⟨qs, 0, none⟩)] H0 (fun v H' => v = .bool (((n + 1 : Nat) : Int) != stop) ∧ Kp (· ∈ [qn, qf]) H0 H' ∧ H'[qn]? = some (.cells true [.int .i64 ((n + 1 : Nat) : Int)] 1) ∧ H'[qf]? = some (.cells true [.int .u64 ((if n = 0 then x else f : Nat) : Int)] 1)) := by
  have hF : Wd Fence.wide := .inl rfl
  have hM : Try.prog.follows .mixedOrders = true := by kernel_rfl
  have s0 : St H0 (· ∈ [qn, qf]) (Off H0 [qn, qf]) H0 [(qn, .cells true [.int .i64 ((n : Nat) : Int)] 1), (qf, .cells true [.int .u64 ((f : Nat) : Int)] 1)] := St.beginL [(qn, .cells true [.int .i64 ((n : Nat) : Int)] 1), (qf, .cells true [.int .u64 ((f : Nat) : Int)] 1)] hnd (allAt_mem ⟨h1, h2, trivial⟩)
  refine acalls_st Try.func23 rfl Try.ntmps23 rfl ?_
  refine awp_seq ?_
  refine awp_regs hF ?_
  refine dv (gyes_none rfl) (q_as (v := .bool false) rfl) rfl (by decide) (cok1 (cconst rfl)) ?_
  refine ⟨_, Wk.refl _ _, ?_⟩
  show awp _ _ _ _ _ _ _
  refine awp_seq ?_
  refine awp_seq ?_
  refine awp_regs hF ?_
  refine dv (gyes_none rfl) (q_load (v := .int .i64 ((n : Nat) : Int)) Try.isAgg3 rfl (s0.rd (j := 0) rfl) rfl) rfl (by decide) (cok1 trivial) ?_
  refine dvb (gyes_none rfl) (q_int rfl rfl rfl) rfl (by decide) (cok2 trivial (cconst rfl)) (fun c1 => ?_) (fun c1 => ?_)
  ·
    replace c1 := eq_of_beq c1
    refine ⟨_, Wk.refl _ _, ?_⟩
    show awp _ _ _ _ _ _ _
    refine awp_cond_t rfl ?_
    refine awp_regs hF ?_
    refine dv (gyes_none rfl) (q_mv (v := .int .u64 ((x : Nat) : Int)) rfl) rfl (by decide) (cok1 trivial) ?_
    refine x_store1 [] hF s0 (by kernel_rfl) (gyes_none rfl) (j := 1) (v := .int .u64 ((x : Nat) : Int)) rfl Try.sizeOf25 rfl rfl rfl (lc_scalar rfl) (Nat.le_of_ble_eq_true rfl) trivial trivial rfl rfl (F' := [(qn, .cells true [.int .i64 ((n : Nat) : Int)] 1), (qf, .cells true [.int .u64 ((x : Nat) : Int)] 1)]) rfl (fun H1 s2 => ⟨?_, ?_⟩)
    · exact trivial
    refine ⟨_, Wk.refl _ _, ?_⟩
    show awp _ _ _ _ _ _ _
    refine awp_seq ?_
    refine awp_regs hF ?_
    refine dv (gyes_none rfl) (q_load (v := .int .i64 ((n : Nat) : Int)) Try.isAgg3 rfl (s2.rd (j := 0) rfl) rfl) rfl (by decide) (cok1 trivial) ?_
    refine dv (gyes_none rfl) (OpQ.cast (v' := .int .i64 ((n + 1 : Nat) : Int)) (q_int rfl rfl rfl) (congrArg _ ((i64_in (by omega)).trans (by first | rfl | omega | (push_cast; rfl))))) rfl (by decide) (cok2 trivial (cconst rfl)) ?_
    refine x_store1 [] hF s2 (by kernel_rfl) (gyes_none rfl) (j := 0) (v := .int .i64 ((n + 1 : Nat) : Int)) rfl Try.sizeOf3 rfl rfl rfl (lc_scalar rfl) (Nat.le_of_ble_eq_true rfl) trivial trivial rfl rfl (F' := [(qn, .cells true [.int .i64 ((n + 1 : Nat) : Int)] 1), (qf, .cells true [.int .u64 ((x : Nat) : Int)] 1)]) rfl (fun H3 s4 => ⟨?_, ?_⟩)
    · exact trivial
    refine ⟨_, Wk.refl _ _, ?_⟩
    show awp _ _ _ _ _ _ _
    refine awp_seq ?_
    refine awp_regs hF ?_
    refine dv (gyes_none rfl) (q_load (v := .int .i64 ((n + 1 : Nat) : Int)) Try.isAgg3 rfl (s4.rd (j := 0) rfl) rfl) rfl (by decide) (cok1 trivial) ?_
    refine dv (gyes_none rfl) (q_load (v := .int .i64 stop) Try.isAgg3 rfl (s4.zrd ⟨h5, hbs⟩) rfl) rfl (by decide) (cok1 trivial) ?_
    refine dv (gyes_none rfl) (q_int rfl rfl rfl) rfl (by decide) (cok2 trivial trivial) ?_
    refine dv (gyes_none rfl) (q_as (v := .bool ((((n + 1 : Nat) : Int) : Int) != stop)) rfl) rfl (by decide) (cok1 trivial) ?_
    refine ⟨_, Wk.refl _ _, ?_⟩
    show awp _ _ _ _ _ _ _
    refine awp_ret_wk ?_
    refine ⟨_, Wk.refl _ _, ?_⟩
    repeat (with_reducible first | refine then_ret ?_ | refine blk_ret ?_ | refine then_exit ?_ | refine blk_exit ?_ | refine blk_exit' (by decide) ?_ | refine blk_normal ?_ | refine then_normal ?_ | refine retq_ret ?_ | refine retq_normal ?_ | refine ng_normal ?_ | refine ng_ret ?_ | refine ng_exit ?_)
    refine ret_is (v := .bool ((((n + 1 : Nat) : Int) : Int) != stop)) rfl (.tmp rfl .nil) rfl ?_
    exact ⟨rfl, s4.kp, s4.getj (j := 0) rfl, by rw [if_pos (by omega)]; exact s4.getj (j := 1) rfl⟩
  ·
    replace c1 := ne_of_beq_false c1
    refine ⟨_, Wk.refl _ _, ?_⟩
    show awp _ _ _ _ _ _ _
    refine awp_cond_f rfl ?_
    refine awp_skip_wk ?_
    refine ⟨_, Wk.refl _ _, ?_⟩
    show awp _ _ _ _ _ _ _
    refine awp_seq ?_
    refine awp_regs hF ?_
    refine dv (gyes_none rfl) (q_load (v := .int .i64 ((n : Nat) : Int)) Try.isAgg3 rfl (s0.rd (j := 0) rfl) rfl) rfl (by decide) (cok1 trivial) ?_
    refine dv (gyes_none rfl) (OpQ.cast (v' := .int .i64 ((n + 1 : Nat) : Int)) (q_int rfl rfl rfl) (congrArg _ ((i64_in (by omega)).trans (by first | rfl | omega | (push_cast; rfl))))) rfl (by decide) (cok2 trivial (cconst rfl)) ?_
    refine x_store1 [] hF s0 (by kernel_rfl) (gyes_none rfl) (j := 0) (v := .int .i64 ((n + 1 : Nat) : Int)) rfl Try.sizeOf3 rfl rfl rfl (lc_scalar rfl) (Nat.le_of_ble_eq_true rfl) trivial trivial rfl rfl (F' := [(qn, .cells true [.int .i64 ((n + 1 : Nat) : Int)] 1), (qf, .cells true [.int .u64 ((f : Nat) : Int)] 1)]) rfl (fun H5 s6 => ⟨?_, ?_⟩)
    · exact trivial
    refine ⟨_, Wk.refl _ _, ?_⟩
    show awp _ _ _ _ _ _ _
    refine awp_seq ?_
    refine awp_regs hF ?_
    refine dv (gyes_none rfl) (q_load (v := .int .i64 ((n + 1 : Nat) : Int)) Try.isAgg3 rfl (s6.rd (j := 0) rfl) rfl) rfl (by decide) (cok1 trivial) ?_
    refine dv (gyes_none rfl) (q_load (v := .int .i64 stop) Try.isAgg3 rfl (s6.zrd ⟨h5, hbs⟩) rfl) rfl (by decide) (cok1 trivial) ?_
    refine dv (gyes_none rfl) (q_int rfl rfl rfl) rfl (by decide) (cok2 trivial trivial) ?_
    refine dv (gyes_none rfl) (q_as (v := .bool ((((n + 1 : Nat) : Int) : Int) != stop)) rfl) rfl (by decide) (cok1 trivial) ?_
    refine ⟨_, Wk.refl _ _, ?_⟩
    show awp _ _ _ _ _ _ _
    refine awp_ret_wk ?_
    refine ⟨_, Wk.refl _ _, ?_⟩
    repeat (with_reducible first | refine then_ret ?_ | refine blk_ret ?_ | refine then_exit ?_ | refine blk_exit ?_ | refine blk_exit' (by decide) ?_ | refine blk_normal ?_ | refine then_normal ?_ | refine retq_ret ?_ | refine retq_normal ?_ | refine ng_normal ?_ | refine ng_ret ?_ | refine ng_exit ?_)
    refine ret_is (v := .bool ((((n + 1 : Nat) : Int) : Int) != stop)) rfl (.tmp rfl .nil) rfl ?_
    exact ⟨rfl, s6.kp, s6.getj (j := 0) rfl, by rw [if_neg (by omega)]; exact s6.getj (j := 1) rfl⟩
theorem frun_ok {H0 : AHeap} {F : List (Nat × AObj)} {Z : Rs} {H : AHeap} (hs : St H0 none0 Z H F) (k : Nat) (vT : Value) (e : List DEnt) (hl : e.length ≤ 1000) (stop : Int) (qn qf qs bi bk jn jf : Nat) (h1 : F[jn]? = some (qn, .cells true [.int .i64 0] 1)) (h2 : F[jf]? = some (qf, .cells true [.int .u64 0] 1)) (hij : jn ≠ jf)
    (hqs : qs ∉ [qn, qf]) (hbi : bi ∉ [qn, qf]) (hbk : bk ∉ [qn, qf]) (h5 : Rd H qs [.int .i64 stop] 1) (hRi : Rd H bi [vT] 1) (hRk : Rd H bk [.int .u64 ((k : Nat) : Int)] 1) (hT : SlSZ entc 2 (Off H [qn, qf]) vT e) :
    ACalls Try.prog 40 [.func (.func 23) #[] #[.pointer (some ⟨qn, 0, none⟩), .pointer (some ⟨qf, 0, none⟩), .pointer (some ⟨qs, 0, none⟩)], .pointer (some ⟨bi, 0, none⟩), .pointer (some ⟨bk, 0, none⟩)] H (fun v H' => v = .tuple #[] ∧ Kp (· ∈ [qn, qf]) H H' ∧ ∃ i, i ≤ e.length ∧ cntT e k i = told (cntT e k e.length) stop ∧ H'[qn]? = some (.cells true [.int .i64 ((cntT e k i : Nat) : Int)] 1) ∧ H'[qf]? = some (.cells true [.int .u64 ((fstT e k i : Nat) : Int)] 1)) := by
  have hne : qn ≠ qf := hs.nej h1 h2 hij
  let Iv : Nat → AHeap → Prop := fun i H' => Kp (· ∈ [qn, qf]) H H' ∧ i ≤ e.length ∧ (stop ≤ 0 ∨ ((cntT e k i : Nat) : Int) < stop) ∧ H'[qn]? = some (.cells true [.int .i64 ((cntT e k i : Nat) : Int)] 1) ∧ H'[qf]? = some (.cells true [.int .u64 ((fstT e k i : Nat) : Int)] 1)
  let Et : Nat → AHeap → Prop := fun i H' => Kp (· ∈ [qn, qf]) H H' ∧ i ≤ e.length ∧ ((cntT e k i : Nat) : Int) = stop ∧ 0 < stop ∧ H'[qn]? = some (.cells true [.int .i64 ((cntT e k i : Nat) : Int)] 1) ∧ H'[qf]? = some (.cells true [.int .u64 ((fstT e k i : Nat) : Int)] 1)
  refine (all1_ok (H0 := H) k vT e (by omega) _ bi bk Iv Et ?h0 ?hm ?hsk ?hb ?hy).mono ?_
  case h0 => exact ⟨.refl _ _, Nat.zero_le _, by rcases Int.lt_or_le 0 stop with h | h; exact .inr h; exact .inl h, hs.getj h1, hs.getj h2⟩
  case hm =>
    rintro i H1 H2 ⟨q1, q4, q5, q6, q7⟩ kk
    exact ⟨q1.trans (kk.mono fun _ h => h.elim), q4, q5, (kk.get _ (lt_of_some q6) (fun h => h)).trans q6, (kk.get _ (lt_of_some q7) (fun h => h)).trans q7⟩
  case hsk =>
    rintro i H1 ⟨q1, q4, q5, q6, q7⟩ hi hn
    exact ⟨q1, by omega, by rw [cnt_n hn]; exact q5, by rw [cnt_n hn]; exact q6, by rw [fst_n hn]; exact q7⟩
  case hb =>
    rintro i H1 ⟨q1, _⟩
    exact ⟨q1.rd hRi hbi, q1.rd hRk hbk, hT.mono fun b vs sz h => q1.rd h.1 h.2⟩
  case hy =>
    rintro i H1 ⟨q1, q4, q5, q6, q7⟩ hi hk1
    have hcl := cnt_le (e := e) (k := k) i
    refine ylds_func Try.call23 ((fclos_ok (H0 := H1) (nth e i).2 (cntT e k i) (fstT e k i) (by omega) stop qn qf qs (by simp [hne]) hqs q6 q7 (q1.rd h5 hqs)).mono ?_)
    rintro v H2 ⟨rfl, r1, r4, r5⟩
    have hkp : Kp (· ∈ [qn, qf]) H H2 := q1.trans r1
    rw [← cnt_y hk1] at r4
    rw [← fst_y hk1] at r5
    have hc := cnt_y hk1
    refine ⟨_, rfl, fun h => ⟨hkp, by omega, ?_, r4, r5⟩, fun h => ⟨hkp, by omega, ?_, ?_, r4, r5⟩⟩
    · have h1 := bne_iff_ne.1 h
      rw [hc]; omega
    · have h1 := bne_eq_false_iff_eq.1 h
      rw [hc]; exact h1
    · have h1 := bne_eq_false_iff_eq.1 h
      omega
  rintro v H' ⟨rfl, h | ⟨i, hi, h⟩⟩
  · obtain ⟨q1, q4, q5, q6, q7⟩ := h
    exact ⟨rfl, q1, e.length, Nat.le_refl _, by unfold told; split <;> omega, q6, q7⟩
  · obtain ⟨q1, q4, q5, q6, q7, q8⟩ := h
    have := cnt_mono (e := e) (k := k) (i := i + 1) (e.length - (i + 1))
    rw [show i + 1 + (e.length - (i + 1)) = e.length by omega] at this
    exact ⟨rfl, q1, i + 1, q4, by unfold told; rw [if_pos q6]; omega, q7, q8⟩
set_option maxRecDepth 100000 in
set_option maxHeartbeats 4000000 in
theorem dynFirst_ok {H0 : AHeap} (vl : Value) (l : List DEnt) (hl : SlS entc 2 H0 vl l) (hlw : ∀ x ∈ l, EntW x) (k0 : Nat) (hk0 : k0 < 18446744073709551616) (stop : Int) : ACalls Try.prog 6 [vl, .int .u64 ((k0 : Nat) : Int), .int .i64 stop] H0 (Rets (.bool true) H0) := by
  have hF : Wd Fence.wide := .inl rfl
  have hM : Try.prog.follows .mixedOrders = true := by kernel_rfl
  have s0 := St.begin H0
  refine acalls_st Try.func6 rfl Try.ntmps6 rfl ?_
  refine awp_seq ?_
  refine awp_regs hF ?_
  refine x_new (fun b => .pointer (some ⟨b, 0, none⟩)) s0 (gyes_none rfl) (q_box (v := .int .i64 stop) (vs := [.int .i64 stop]) 1 rfl (by exact trivial) rfl) rfl (by decide) (cok1 trivial) (fun b1 H2 hb4 s3 => ?_)
  refine dv (gyes_none rfl) (q_as (v := .bool false) rfl) rfl (by decide) (cok1 (cconst rfl)) ?_
  refine ⟨_, Wk.refl _ _, ?_⟩
  show awp _ _ _ _ _ _ _
  refine awp_seq ?_
  refine awp_seq ?_
  refine awp_regs hF ?_
  refine dv (gyes_none rfl) (q_call0 Try.call7 rfl (speaks_ok)) rfl (by decide) (cok1 trivial) ?_
  refine dv (gyes_none rfl) (q_not (b := true) rfl) rfl (by decide) (cok1 trivial) ?_
  refine ⟨_, Wk.refl _ _, ?_⟩
  show awp _ _ _ _ _ _ _
  refine awp_cond_f rfl ?_
  refine awp_skip_wk ?_
  refine ⟨_, Wk.refl _ _, ?_⟩
  show awp _ _ _ _ _ _ _
  refine awp_seq ?_
  refine awp_regs hF ?_
  refine dv (gyes_none rfl) (q_as (v := .slice none 0 0) rfl) rfl (by decide) (cok1 (cconst rfl)) ?_
  refine ⟨_, Wk.refl _ _, ?_⟩
  show awp _ _ _ _ _ _ _
  refine awp_seq ?_
  refine awp_seq ?_
  refine awp_regs hF ?_
  refine dv (gyes_none rfl) (q_as (v := .int .i64 0) rfl) rfl (by decide) (cok1 (cconst rfl)) ?_
  refine ⟨_, Wk.refl _ _, ?_⟩
  show awp _ _ _ _ _ _ _
  refine awp_block ?_
  refine awp_nil s3 7 2 rfl (fun b5 H6 hb8 s7 => ?_)
  refine awp_wk (Wk.U [(0, vl), (1, .int .u64 ((k0 : Nat) : Int)), (5, .pointer (some ⟨b1, 0, none⟩)), (7, .slice (some ⟨b5, 0, none⟩) 0 0), (8, .int .i64 0)] ⟨rfl, rfl, rfl, rfl, rfl, trivial⟩) ?_
  refine awp_loop (fun (i : Nat) st => ∃ (H9 : AHeap) (bl : Nat), st = ⟨79, U [(0, vl), (1, .int .u64 ((k0 : Nat) : Int)), (5, .pointer (some ⟨b1, 0, none⟩)), (7, .slice (some ⟨bl, 0, none⟩) i i), (8, .int .i64 ((i : Nat) : Int))], [], H9⟩ ∧ St H0 (none0) (Rd H0) H9 [(bl, .cells true (fl entc (l.take i)) 2), (b1, .cells true [.int .i64 stop] 1)] ∧ (i ≤ l.length ∧ i ≤ 40)) (fun (i : Nat) => 40 - i) (x0 := (0)) ?h0 ?round
  case h0 =>
    exact ⟨_, _, rfl, s7, ⟨Nat.zero_le _, Nat.zero_le _⟩⟩
  case round =>
    rintro i _ ⟨H9, bl, rfl, s10, hi⟩
    have hti : (l.take i).length = i := by rw [List.length_take]; omega
    refine awp_seq ?_
    refine awp_seq ?_
    refine awp_regs hF ?_
    refine dv (gyes_none rfl) (q_mv (v := .int .i64 ((i : Nat) : Int)) rfl) rfl (by decide) (cok1 trivial) ?_
    refine dv (gyes_none rfl) (q_mv (v := vl) rfl) rfl (by decide) (cok1 trivial) ?_
    refine dv (gyes_none rfl) (q_len_sls (l := l) Try.underlying22 (s10.sls hl) rfl) rfl (by decide) (cok1 trivial) ?_
    refine dvb (gyes_none rfl) (q_int rfl rfl rfl) rfl (by decide) (cok2 trivial trivial) (fun c1 => ?_) (fun c1 => ?_)
    ·
      replace c1 := of_decide_eq_true c1
      refine dv (gyes_none rfl) (q_mv (v := .bool true) rfl) rfl (by decide) (cok1 trivial) ?_
      refine dv (gyes_some rfl rfl) (q_mv (v := .int .i64 ((i : Nat) : Int)) rfl) rfl (by decide) (cok1 trivial) ?_
      refine dvb (gyes_some rfl rfl) (q_int rfl rfl rfl) rfl (by decide) (cok2 trivial (cconst rfl)) (fun c2 => ?_) (fun c2 => ?_)
      ·
        replace c2 := of_decide_eq_true c2
        refine dv (gyes_none rfl) (q_pt (v := .bool true) rfl rfl) rfl (by decide) (call_ok rfl) ?_
        refine ⟨_, Wk.refl _ _, ?_⟩
        show awp _ _ _ _ _ _ _
        refine awp_cond_t rfl ?_
        refine awp_skip_wk ?_
        refine ⟨_, Wk.refl _ _, ?_⟩
        show awp _ _ _ _ _ _ _
        refine awp_seq ?_
        refine awp_block ?_
        refine awp_regs hF ?_
        refine dv (gyes_none rfl) (q_mv (v := .slice (some ⟨bl, 0, none⟩) i i) rfl) rfl (by decide) (cok1 trivial) ?_
        refine dv (gyes_none rfl) (q_mv (v := vl) rfl) rfl (by decide) (cok1 trivial) ?_
        refine dv (gyes_none rfl) (q_mv (v := .int .i64 ((i : Nat) : Int)) rfl) rfl (by decide) (cok1 trivial) ?_
        refine dv (gyes_none rfl) (q_index_sls (l := l) (i := i) Try.underlying22 Try.sizeOf28 (s10.sls hl) entc_w rfl rfl (by omega)) rfl (by decide) (cok2 trivial trivial) ?_
        refine dv (gyes_none rfl) (q_loadA_sls (l := l) (i := i) Try.isAgg28 Try.sizeOf28 (s10.sls hl) entc_w rfl (by omega)) rfl (by decide) (cok1 trivial) ?_
        refine x_new (fun b => .slice (some ⟨b, 0, none⟩) 1 1) s10 (gyes_none rfl) (q_buildSliceL (ds := [.int .u64 (((nth l i).1 : Nat) : Int), .int .u64 (((nth l i).2 : Nat) : Int)]) [.agg #[.int .u64 (((nth l i).1 : Nat) : Int), .int .u64 (((nth l i).2 : Nat) : Int)]] rfl Try.underlying43 Try.sizeOf48 Try.zeroValue48 rfl (by decide) (by decide) ⟨rfl, trivial⟩ (lvsC (by exact trivial) lvs0) rfl rfl) rfl (by decide) (cok1 trivial) (fun b11 H12 hb14 s13 => ?_)
        refine x_appendS (m := 2) (l := [((nth l i).1, (nth l i).2)]) (l0 := l.take i) (l' := l.take (i + 1)) (f := entc) [] hF s13 (by kernel_rfl) (j := 1) (i + 1) rfl (gyes_none rfl) Try.underlying43 Try.underlying43 Try.type48 rfl rfl (by decide) rfl entc_w rfl rfl rfl (s13.slsj (l := [((nth l i).1, (nth l i).2)]) entc_w (j := 0) rfl rfl (Nat.le_refl _)) (fun x _ u hu => lc_scalar (entc_sc x u hu)) hti.symm (by show (2 * (i + 1) + 1000) * 16 ≤ _; omega) trivial trivial (by decide) rfl rfl (take_snoc (by omega)) (fun b15 H16 hb18 s17 => ⟨?_, ?_⟩)
        · exact trivial
        refine dv (gyes_none rfl) (q_as (v := .slice (some ⟨b15, 0, none⟩) (i + 1) (i + 1)) rfl) rfl (by decide) (cok1 trivial) ?_
        refine ⟨_, Wk.refl _ _, ?_⟩
        show awp _ _ _ _ _ _ _
        refine awp_regs hF ?_
        refine dv (gyes_none rfl) (q_mv (v := .int .i64 ((i : Nat) : Int)) rfl) rfl (by decide) (cok1 trivial) ?_
        refine dv (gyes_none rfl) (OpQ.cast (v' := .int .i64 ((i + 1 : Nat) : Int)) (q_int rfl rfl rfl) (congrArg _ ((i64_in (by omega)).trans (by first | rfl | omega | (push_cast; rfl))))) rfl (by decide) (cok2 trivial (cconst rfl)) ?_
        refine dv (gyes_none rfl) (q_as (v := .int .i64 ((i + 1 : Nat) : Int)) rfl) rfl (by decide) (cok1 trivial) ?_
        refine ⟨_, Wk.U [(0, vl), (1, .int .u64 ((k0 : Nat) : Int)), (5, .pointer (some ⟨b1, 0, none⟩)), (7, .slice (some ⟨b15, 0, none⟩) (i + 1) (i + 1)), (8, .int .i64 (((i + 1) : Nat) : Int))] ⟨rfl, rfl, rfl, rfl, rfl, trivial⟩, (i + 1), ⟨_, _, rfl, (s17.sub (.cons _ (.cons_cons _ (.cons_cons _ (.refl _))))), ⟨by omega, by omega⟩⟩, (by omega)⟩
      ·
        replace c2 := of_decide_eq_false c2
        refine dv (gyes_none rfl) (q_pt (v := .bool false) rfl rfl) rfl (by decide) (call_ok rfl) ?_
        refine ⟨_, Wk.refl _ _, ?_⟩
        show awp _ _ _ _ _ _ _
        refine awp_cond_f rfl ?_
        refine awp_exit_wk ?_
        refine ⟨_, Wk.refl _ _, ?_⟩
        show awp _ _ _ _ _ _ _
        refine awp_seq ?_
        refine awp_regs hF ?_
        refine dv (gyes_none rfl) (q_mv (v := .slice (some ⟨bl, 0, none⟩) i i) rfl) rfl (by decide) (cok1 trivial) ?_
        refine dv (gyes_none rfl) (q_mv (v := .int .u64 ((k0 : Nat) : Int)) rfl) rfl (by decide) (cok1 trivial) ?_
        refine dv (gyes_none rfl) (q_call0 Try.call14 rfl (get_t_ok k0 hk0 _ (l.take i) (s10.slsj entc_w (j := 0) rfl hti (Nat.le_refl _)) (by omega))) rfl (by decide) (call_ok rfl) ?_
        refine dv (gyes_none rfl) (q_mv (v := .tuple #[.int .u64 (((getV (l.take i) k0).1 : Nat) : Int), .bool ((getV (l.take i) k0).2)]) rfl) rfl (by decide) (cok1 trivial) ?_
        refine dv (gyes_none rfl) (q_extract (v := .int .u64 (((getV (l.take i) k0).1 : Nat) : Int)) rfl rfl) rfl (by decide) (cok1 trivial) ?_
        refine dv (gyes_none rfl) (q_extract (v := .bool ((getV (l.take i) k0).2)) rfl rfl) rfl (by decide) (cok1 trivial) ?_
        refine dv (gyes_none rfl) (q_as (v := .int .u64 (((getV (l.take i) k0).1 : Nat) : Int)) rfl) rfl (by decide) (cok1 trivial) ?_
        refine dv (gyes_none rfl) (q_as (v := .bool ((getV (l.take i) k0).2)) rfl) rfl (by decide) (cok1 trivial) ?_
        refine ⟨_, Wk.refl _ _, ?_⟩
        show awp _ _ _ _ _ _ _
        refine awp_seq ?_
        refine awp_regs hF ?_
        refine x_new (fun b => .pointer (some ⟨b, 0, none⟩)) s10 (gyes_none rfl) (q_alloc (vs := [.int .i64 0]) 1 Try.zeroValue3 (by first | exact flat_scalar rfl | exact flat_agg rfl) rfl) rfl (by decide) (by simp [Op.operands, Call.operands]) (fun b19 H20 hb22 s21 => ?_)
        refine x_store1 [] hF s21 (by kernel_rfl) (gyes_none rfl) (j := 0) (v := .int .i64 0) rfl Try.sizeOf3 rfl rfl rfl (lc_scalar rfl) (Nat.le_of_ble_eq_true rfl) trivial (cconst rfl) rfl rfl (F' := [(b19, .cells true [.int .i64 0] 1), (bl, .cells true (fl entc (l.take i)) 2), (b1, .cells true [.int .i64 stop] 1)]) rfl (fun H23 s24 => ⟨?_, ?_⟩)
        · exact trivial
        refine ⟨_, Wk.refl _ _, ?_⟩
        show awp _ _ _ _ _ _ _
        refine awp_seq ?_
        refine awp_regs hF ?_
        refine x_new (fun b => .pointer (some ⟨b, 0, none⟩)) s24 (gyes_none rfl) (q_alloc (vs := [.int .u64 0]) 1 Try.zeroValue25 (by first | exact flat_scalar rfl | exact flat_agg rfl) rfl) rfl (by decide) (by simp [Op.operands, Call.operands]) (fun b25 H26 hb28 s27 => ?_)
        refine x_store1 [] hF s27 (by kernel_rfl) (gyes_none rfl) (j := 0) (v := .int .u64 0) rfl Try.sizeOf25 rfl rfl rfl (lc_scalar rfl) (Nat.le_of_ble_eq_true rfl) trivial (cconst rfl) rfl rfl (F' := [(b25, .cells true [.int .u64 0] 1), (b19, .cells true [.int .i64 0] 1), (bl, .cells true (fl entc (l.take i)) 2), (b1, .cells true [.int .i64 stop] 1)]) rfl (fun H29 s30 => ⟨?_, ?_⟩)
        · exact trivial
        refine ⟨_, Wk.refl _ _, ?_⟩
        show awp _ _ _ _ _ _ _
        refine awp_seq ?_
        refine awp_regs hF ?_
        refine dv (gyes_none rfl) (q_mv (v := .slice (some ⟨bl, 0, none⟩) i i) rfl) rfl (by decide) (cok1 trivial) ?_
        refine dv (gyes_none rfl) (q_mv (v := .int .u64 ((k0 : Nat) : Int)) rfl) rfl (by decide) (cok1 trivial) ?_
        refine x_call [] hF (by kernel_rfl) (gyes_none rfl) Try.call17 rfl (args := [.slice (some ⟨bl, 0, none⟩) i i, .int .u64 ((k0 : Nat) : Int)]) rfl (all_ok k0 (.slice (some ⟨bl, 0, none⟩) i i) (l.take i) (s30.slsj entc_w (j := 2) rfl hti (Nat.le_refl _))) (show _ < _ by decide) (call_ok rfl) rfl rfl (fun _ _ _ _ hd => by cases hd) ?_
        rintro _ H33 ⟨b31, b32, rfl, hn34⟩
        have s35 := s30.callL hn34
        refine ⟨trivial, ?_⟩
        show dList _ _ _ _ _ _ _ _ _ _
        refine dv (gyes_none rfl) (q_makeFuncL [.pointer (some ⟨b19, 0, none⟩), .pointer (some ⟨b25, 0, none⟩), .pointer (some ⟨b1, 0, none⟩)] ⟨rfl, rfl, rfl, trivial⟩) rfl (by decide) (call_ok rfl) ?_
        refine x_call [] hF (by kernel_rfl) (gyes_none rfl) Try.call40 rfl (args := [.func (.func 23) #[] #[.pointer (some ⟨b19, 0, none⟩), .pointer (some ⟨b25, 0, none⟩), .pointer (some ⟨b1, 0, none⟩)], .pointer (some ⟨b32, 0, none⟩), .pointer (some ⟨b31, 0, none⟩)]) rfl (frun_ok s35 k0 _ (l.take i) (by omega) stop b19 b25 b1 b32 b31 3 2 rfl rfl (by decide) (nin2 (s35.nej (i := 5) (j := 3) rfl rfl (by decide)) (s35.nej (i := 5) (j := 2) rfl rfl (by decide))) (nin2 (s35.nej (i := 1) (j := 3) rfl rfl (by decide)) (s35.nej (i := 1) (j := 2) rfl rfl (by decide))) (nin2 (s35.nej (i := 0) (j := 3) rfl rfl (by decide)) (s35.nej (i := 0) (j := 2) rfl rfl (by decide))) (s35.rd (j := 5) rfl) (s35.rd (j := 1) rfl) (s35.rd (j := 0) rfl) (slsz_full entc_w ⟨s35.rd (j := 4) rfl, (nin2 (s35.nej (i := 4) (j := 3) rfl rfl (by decide)) (s35.nej (i := 4) (j := 2) rfl rfl (by decide)))⟩ hti (Nat.le_refl _))) (show _ < _ by decide) (call_ok rfl) rfl rfl (fun _ _ _ _ hd => by cases hd) ?_
        rintro _ H36 ⟨rfl, hk37, iq, hiq, hnum, h38, h39⟩
        have s40 := s35.turn2 (j9 := 3) (jl := 2) rfl rfl (by decide) hk37 (.inr (by simp)) (s35.nej (i := 2) (j := 3) rfl rfl (by decide)) h38 h39
        have hv := getV_run hiq hnum
        refine ⟨trivial, ?_⟩
        show dList _ _ _ _ _ _ _ _ _ _
        refine ⟨_, Wk.refl _ _, ?_⟩
        show awp _ _ _ _ _ _ _
        refine awp_seq ?_
        refine awp_regs hF ?_
        refine dv (gyes_none rfl) (q_as (v := .int .i64 0) rfl) rfl (by decide) (cok1 (cconst rfl)) ?_
        refine ⟨_, Wk.refl _ _, ?_⟩
        show awp _ _ _ _ _ _ _
        refine awp_seq ?_
        refine awp_seq ?_
        refine awp_regs hF ?_
        refine dv (gyes_none rfl) (q_as (v := .int .i64 0) rfl) rfl (by decide) (cok1 (cconst rfl)) ?_
        refine ⟨_, Wk.refl _ _, ?_⟩
        show awp _ _ _ _ _ _ _
        refine awp_block ?_
        refine awp_wk (Wk.U [(1, .int .u64 ((k0 : Nat) : Int)), (5, .pointer (some ⟨b1, 0, none⟩)), (7, .slice (some ⟨bl, 0, none⟩) i i), (9, .int .u64 (((getV (l.take i) k0).1 : Nat) : Int)), (10, .bool ((getV (l.take i) k0).2)), (11, .pointer (some ⟨b19, 0, none⟩)), (12, .pointer (some ⟨b25, 0, none⟩)), (13, .int .i64 0), (14, .int .i64 0)] ⟨rfl, rfl, rfl, rfl, rfl, rfl, rfl, rfl, rfl, trivial⟩) ?_
        refine awp_loop (fun ((q, ct) : Nat × Nat) st => ∃ (H41 : AHeap), st = ⟨79, U [(1, .int .u64 ((k0 : Nat) : Int)), (5, .pointer (some ⟨b1, 0, none⟩)), (7, .slice (some ⟨bl, 0, none⟩) i i), (9, .int .u64 (((getV (l.take i) k0).1 : Nat) : Int)), (10, .bool ((getV (l.take i) k0).2)), (11, .pointer (some ⟨b19, 0, none⟩)), (12, .pointer (some ⟨b25, 0, none⟩)), (13, .int .i64 ((ct : Nat) : Int)), (14, .int .i64 ((q : Nat) : Int))], [], H41⟩ ∧ St H0 (none0) (Rd H0) H41 [(b31, .cells true [.int .u64 ((k0 : Nat) : Int)] 1), (b32, .cells true [.slice (some ⟨bl, 0, none⟩) i i] 1), (b25, .cells true [.int .u64 ((fstT (l.take i) k0 iq : Nat) : Int)] 1), (b19, .cells true [.int .i64 ((cntT (l.take i) k0 iq : Nat) : Int)] 1), (bl, .cells true (fl entc (l.take i)) 2), (b1, .cells true [.int .i64 stop] 1)] ∧ (ct = cntT (l.take i) k0 q ∧ q ≤ i)) (fun ((q, ct) : Nat × Nat) => i - q) (x0 := (0, 0)) ?h0 ?round
        case h0 =>
          exact ⟨_, rfl, s40, ⟨rfl, Nat.zero_le _⟩⟩
        case round =>
          rintro ⟨q, ct⟩ _ ⟨H41, rfl, s42, hct⟩
          dsimp only at *
          have hcl := cnt_le (e := (l.take i)) (k := k0) q
          refine awp_seq ?_
          refine awp_seq ?_
          refine awp_regs hF ?_
          refine dv (gyes_none rfl) (q_mv (v := .int .i64 ((q : Nat) : Int)) rfl) rfl (by decide) (cok1 trivial) ?_
          refine dv (gyes_none rfl) (q_mv (v := .slice (some ⟨bl, 0, none⟩) i i) rfl) rfl (by decide) (cok1 trivial) ?_
          refine dv (gyes_none rfl) (q_len_slice Try.underlying43 rfl (s42.rd (j := 4) rfl)) rfl (by decide) (cok1 trivial) ?_
          refine dvb (gyes_none rfl) (q_int rfl rfl rfl) rfl (by decide) (cok2 trivial trivial) (fun c3 => ?_) (fun c3 => ?_)
          ·
            replace c3 := of_decide_eq_true c3
            refine ⟨_, Wk.refl _ _, ?_⟩
            show awp _ _ _ _ _ _ _
            refine awp_cond_t rfl ?_
            refine awp_skip_wk ?_
            refine ⟨_, Wk.refl _ _, ?_⟩
            show awp _ _ _ _ _ _ _
            refine awp_seq ?_
            refine awp_block ?_
            refine awp_seq ?_
            refine awp_regs hF ?_
            refine dv (gyes_none rfl) (q_mv (v := .slice (some ⟨bl, 0, none⟩) i i) rfl) rfl (by decide) (cok1 trivial) ?_
            refine dv (gyes_none rfl) (q_mv (v := .int .i64 ((q : Nat) : Int)) rfl) rfl (by decide) (cok1 trivial) ?_
            refine dv (gyes_none rfl) (OpQ.cast (v' := .pointer (some ⟨bl, q * 2, none⟩)) (q_index (u := 0) (i := q) Try.underlying43 Try.sizeOf48 rfl rfl (by omega) (s42.rd (j := 4) rfl)) (by rw [Nat.zero_add])) rfl (by decide) (cok2 trivial trivial) ?_
            refine dv (gyes_none rfl) (q_field Try.underlying48 rfl Try.sizeOf25 rfl (s42.rd (j := 4) rfl)) rfl (by decide) (cok1 trivial) ?_
            refine dv (gyes_none rfl) (q_load (v := .int .u64 (((nth (l.take i) q).1 : Nat) : Int)) Try.isAgg25 rfl (s42.rd (j := 4) rfl) ((fl_get0 entc_w (by omega) (by decide)).trans rfl)) rfl (by decide) (cok1 trivial) ?_
            refine dv (gyes_none rfl) (q_mv (v := .int .u64 ((k0 : Nat) : Int)) rfl) rfl (by decide) (cok1 trivial) ?_
            refine dvb (gyes_none rfl) (q_int rfl rfl rfl) rfl (by decide) (cok2 trivial trivial) (fun c4 => ?_) (fun c4 => ?_)
            ·
              replace c4 := eq_of_beq c4
              refine ⟨_, Wk.refl _ _, ?_⟩
              show awp _ _ _ _ _ _ _
              refine awp_cond_t rfl ?_
              refine awp_regs hF ?_
              refine dv (gyes_none rfl) (q_mv (v := .int .i64 ((ct : Nat) : Int)) rfl) rfl (by decide) (cok1 trivial) ?_
              refine dv (gyes_none rfl) (OpQ.cast (v' := .int .i64 ((ct + 1 : Nat) : Int)) (q_int rfl rfl rfl) (congrArg _ ((i64_in (by omega)).trans (by first | rfl | omega | (push_cast; rfl))))) rfl (by decide) (cok2 trivial (cconst rfl)) ?_
              refine dv (gyes_none rfl) (q_as (v := .int .i64 ((ct + 1 : Nat) : Int)) rfl) rfl (by decide) (cok1 trivial) ?_
              refine ⟨_, Wk.refl _ _, ?_⟩
              show awp _ _ _ _ _ _ _
              refine awp_regs hF ?_
              refine dv (gyes_none rfl) (q_mv (v := .int .i64 ((q : Nat) : Int)) rfl) rfl (by decide) (cok1 trivial) ?_
              refine dv (gyes_none rfl) (OpQ.cast (v' := .int .i64 ((q + 1 : Nat) : Int)) (q_int rfl rfl rfl) (congrArg _ ((i64_in (by omega)).trans (by first | rfl | omega | (push_cast; rfl))))) rfl (by decide) (cok2 trivial (cconst rfl)) ?_
              refine dv (gyes_none rfl) (q_as (v := .int .i64 ((q + 1 : Nat) : Int)) rfl) rfl (by decide) (cok1 trivial) ?_
              refine ⟨_, Wk.U [(1, .int .u64 ((k0 : Nat) : Int)), (5, .pointer (some ⟨b1, 0, none⟩)), (7, .slice (some ⟨bl, 0, none⟩) i i), (9, .int .u64 (((getV (l.take i) k0).1 : Nat) : Int)), (10, .bool ((getV (l.take i) k0).2)), (11, .pointer (some ⟨b19, 0, none⟩)), (12, .pointer (some ⟨b25, 0, none⟩)), (13, .int .i64 (((ct + 1) : Nat) : Int)), (14, .int .i64 (((q + 1) : Nat) : Int))] ⟨rfl, rfl, rfl, rfl, rfl, rfl, rfl, rfl, rfl, trivial⟩, ((q + 1), (ct + 1)), ⟨_, rfl, s42, ⟨by rw [cnt_y (by omega), ← hct.1], by dsimp only; omega⟩⟩, (by omega)⟩
            ·
              replace c4 := ne_of_beq_false c4
              refine ⟨_, Wk.refl _ _, ?_⟩
              show awp _ _ _ _ _ _ _
              refine awp_cond_f rfl ?_
              refine awp_skip_wk ?_
              refine ⟨_, Wk.refl _ _, ?_⟩
              show awp _ _ _ _ _ _ _
              refine awp_regs hF ?_
              refine dv (gyes_none rfl) (q_mv (v := .int .i64 ((q : Nat) : Int)) rfl) rfl (by decide) (cok1 trivial) ?_
              refine dv (gyes_none rfl) (OpQ.cast (v' := .int .i64 ((q + 1 : Nat) : Int)) (q_int rfl rfl rfl) (congrArg _ ((i64_in (by omega)).trans (by first | rfl | omega | (push_cast; rfl))))) rfl (by decide) (cok2 trivial (cconst rfl)) ?_
              refine dv (gyes_none rfl) (q_as (v := .int .i64 ((q + 1 : Nat) : Int)) rfl) rfl (by decide) (cok1 trivial) ?_
              refine ⟨_, Wk.U [(1, .int .u64 ((k0 : Nat) : Int)), (5, .pointer (some ⟨b1, 0, none⟩)), (7, .slice (some ⟨bl, 0, none⟩) i i), (9, .int .u64 (((getV (l.take i) k0).1 : Nat) : Int)), (10, .bool ((getV (l.take i) k0).2)), (11, .pointer (some ⟨b19, 0, none⟩)), (12, .pointer (some ⟨b25, 0, none⟩)), (13, .int .i64 ((ct : Nat) : Int)), (14, .int .i64 (((q + 1) : Nat) : Int))] ⟨rfl, rfl, rfl, rfl, rfl, rfl, rfl, rfl, rfl, trivial⟩, ((q + 1), ct), ⟨_, rfl, s42, ⟨by rw [cnt_n (by omega), ← hct.1], by dsimp only; omega⟩⟩, (by omega)⟩
          ·
            replace c3 := of_decide_eq_false c3
            have hcf : ct = cntT (l.take i) k0 (l.take i).length := by rw [hti, hct.1, show q = i by omega]
            refine ⟨_, Wk.refl _ _, ?_⟩
            show awp _ _ _ _ _ _ _
            refine awp_cond_f rfl ?_
            refine awp_exit_wk ?_
            refine ⟨_, Wk.refl _ _, ?_⟩
            show awp _ _ _ _ _ _ _
            refine awp_seq ?_
            refine awp_seq ?_
            refine awp_regs hF ?_
            refine dv (gyes_none rfl) (q_load (v := .int .i64 stop) Try.isAgg3 rfl (s42.rd (j := 5) rfl) rfl) rfl (by decide) (cok1 trivial) ?_
            refine dvb (gyes_none rfl) (q_int rfl rfl rfl) rfl (by decide) (cok2 trivial (cconst rfl)) (fun c5 => ?_) (fun c5 => ?_)
            ·
              replace c5 := of_decide_eq_true c5
              refine ⟨_, Wk.refl _ _, ?_⟩
              show awp _ _ _ _ _ _ _
              refine awp_cond_t rfl ?_
              refine awp_regs hF ?_
              refine dv (gyes_none rfl) (q_mv (v := .int .i64 ((ct : Nat) : Int)) rfl) rfl (by decide) (cok1 trivial) ?_
              refine dv (gyes_none rfl) (q_load (v := .int .i64 stop) Try.isAgg3 rfl (s42.rd (j := 5) rfl) rfl) rfl (by decide) (cok1 trivial) ?_
              refine dv (gyes_none rfl) (OpQ.cast (v' := .int .i64 ((told ct stop : Nat) : Int)) (q_min rfl rfl) (congrArg _ (told_min (by omega)))) rfl (by decide) (cok2 trivial trivial) ?_
              refine dv (gyes_none rfl) (q_as (v := .int .i64 ((told ct stop : Nat) : Int)) rfl) rfl (by decide) (cok1 trivial) ?_
              refine ⟨_, Wk.refl _ _, ?_⟩
              show awp _ _ _ _ _ _ _
              refine awp_seq ?_
              refine awp_regs hF ?_
              refine dv (gyes_none rfl) (q_mv (v := .bool ((getV (l.take i) k0).2)) rfl) rfl (by decide) (cok1 trivial) ?_
              refine dv (gyes_none rfl) (q_load (v := .int .i64 ((cntT (l.take i) k0 iq : Nat) : Int)) Try.isAgg3 rfl (s42.rd (j := 3) rfl) rfl) rfl (by decide) (cok1 trivial) ?_
              refine dv (gyes_none rfl) (q_int rfl rfl rfl) rfl (by decide) (cok2 trivial (cconst rfl)) ?_
              refine dv (gyes_none rfl) (OpQ.cast (v' := .bool true) (q_booleq Try.underlying4 rfl rfl) (congrArg Value.bool (by rw [hv]; simp))) rfl (by decide) (cok2 trivial trivial) ?_
              refine dv (gyes_none rfl) (q_mv (v := .bool true) rfl) rfl (by decide) (cok1 trivial) ?_
              refine dv (gyes_some rfl rfl) (q_mv (v := .int .u64 (((getV (l.take i) k0).1 : Nat) : Int)) rfl) rfl (by decide) (cok1 trivial) ?_
              refine dv (gyes_some rfl rfl) (q_load (v := .int .u64 ((fstT (l.take i) k0 iq : Nat) : Int)) Try.isAgg25 rfl (s42.rd (j := 2) rfl) rfl) rfl (by decide) (cok1 trivial) ?_
              refine dv (gyes_some rfl rfl) (OpQ.cast (v' := .bool true) (q_int rfl rfl rfl) (congrArg Value.bool (by rw [hv]; exact beq_self_eq_true _))) rfl (by decide) (cok2 trivial trivial) ?_
              refine dv (gyes_none rfl) (q_pt (v := .bool true) rfl rfl) rfl (by decide) (call_ok rfl) ?_
              refine dv (gyes_none rfl) (q_mv (v := .bool true) rfl) rfl (by decide) (cok1 trivial) ?_
              refine dv (gyes_some rfl rfl) (q_load (v := .int .i64 ((cntT (l.take i) k0 iq : Nat) : Int)) Try.isAgg3 rfl (s42.rd (j := 3) rfl) rfl) rfl (by decide) (cok1 trivial) ?_
              refine dv (gyes_some rfl rfl) (q_mv (v := .int .i64 ((told ct stop : Nat) : Int)) rfl) rfl (by decide) (cok1 trivial) ?_
              refine dv (gyes_some rfl rfl) (OpQ.cast (v' := .bool true) (q_int rfl rfl rfl) (congrArg Value.bool (by rw [hnum, hcf]; exact beq_self_eq_true _))) rfl (by decide) (cok2 trivial trivial) ?_
              refine dv (gyes_none rfl) (q_pt (v := .bool true) rfl rfl) rfl (by decide) (call_ok rfl) ?_
              refine dv (gyes_none rfl) (q_as (v := .bool true) rfl) rfl (by decide) (cok1 trivial) ?_
              refine ⟨_, Wk.refl _ _, ?_⟩
              show awp _ _ _ _ _ _ _
              refine awp_ret_wk ?_
              refine ⟨_, Wk.refl _ _, ?_⟩
              repeat (with_reducible first | refine then_ret ?_ | refine blk_ret ?_ | refine then_exit ?_ | refine blk_exit ?_ | refine blk_exit' (by decide) ?_ | refine blk_normal ?_ | refine then_normal ?_ | refine retq_ret ?_ | refine retq_normal ?_ | refine ng_normal ?_ | refine ng_ret ?_ | refine ng_exit ?_)
              exact ret_none (v := .bool true) rfl s42.kp (.tmp rfl .nil) rfl rfl ⟨rfl, rfl⟩
            ·
              replace c5 := of_decide_eq_false c5
              refine ⟨_, Wk.refl _ _, ?_⟩
              show awp _ _ _ _ _ _ _
              refine awp_cond_f rfl ?_
              refine awp_skip_wk ?_
              refine ⟨_, Wk.refl _ _, ?_⟩
              show awp _ _ _ _ _ _ _
              refine awp_seq ?_
              refine awp_regs hF ?_
              refine dv (gyes_none rfl) (q_mv (v := .bool ((getV (l.take i) k0).2)) rfl) rfl (by decide) (cok1 trivial) ?_
              refine dv (gyes_none rfl) (q_load (v := .int .i64 ((cntT (l.take i) k0 iq : Nat) : Int)) Try.isAgg3 rfl (s42.rd (j := 3) rfl) rfl) rfl (by decide) (cok1 trivial) ?_
              refine dv (gyes_none rfl) (q_int rfl rfl rfl) rfl (by decide) (cok2 trivial (cconst rfl)) ?_
              refine dv (gyes_none rfl) (OpQ.cast (v' := .bool true) (q_booleq Try.underlying4 rfl rfl) (congrArg Value.bool (by rw [hv]; simp))) rfl (by decide) (cok2 trivial trivial) ?_
              refine dv (gyes_none rfl) (q_mv (v := .bool true) rfl) rfl (by decide) (cok1 trivial) ?_
              refine dv (gyes_some rfl rfl) (q_mv (v := .int .u64 (((getV (l.take i) k0).1 : Nat) : Int)) rfl) rfl (by decide) (cok1 trivial) ?_
              refine dv (gyes_some rfl rfl) (q_load (v := .int .u64 ((fstT (l.take i) k0 iq : Nat) : Int)) Try.isAgg25 rfl (s42.rd (j := 2) rfl) rfl) rfl (by decide) (cok1 trivial) ?_
              refine dv (gyes_some rfl rfl) (OpQ.cast (v' := .bool true) (q_int rfl rfl rfl) (congrArg Value.bool (by rw [hv]; exact beq_self_eq_true _))) rfl (by decide) (cok2 trivial trivial) ?_
              refine dv (gyes_none rfl) (q_pt (v := .bool true) rfl rfl) rfl (by decide) (call_ok rfl) ?_
              refine dv (gyes_none rfl) (q_mv (v := .bool true) rfl) rfl (by decide) (cok1 trivial) ?_
              refine dv (gyes_some rfl rfl) (q_load (v := .int .i64 ((cntT (l.take i) k0 iq : Nat) : Int)) Try.isAgg3 rfl (s42.rd (j := 3) rfl) rfl) rfl (by decide) (cok1 trivial) ?_
              refine dv (gyes_some rfl rfl) (q_mv (v := .int .i64 ((ct : Nat) : Int)) rfl) rfl (by decide) (cok1 trivial) ?_
              refine dv (gyes_some rfl rfl) (OpQ.cast (v' := .bool true) (q_int rfl rfl rfl) (congrArg Value.bool (by rw [hnum, hcf]; unfold told; rw [if_neg (by omega)]; exact beq_self_eq_true _))) rfl (by decide) (cok2 trivial trivial) ?_
              refine dv (gyes_none rfl) (q_pt (v := .bool true) rfl rfl) rfl (by decide) (call_ok rfl) ?_
              refine dv (gyes_none rfl) (q_as (v := .bool true) rfl) rfl (by decide) (cok1 trivial) ?_
              refine ⟨_, Wk.refl _ _, ?_⟩
              show awp _ _ _ _ _ _ _
              refine awp_ret_wk ?_
              refine ⟨_, Wk.refl _ _, ?_⟩
              repeat (with_reducible first | refine then_ret ?_ | refine blk_ret ?_ | refine then_exit ?_ | refine blk_exit ?_ | refine blk_exit' (by decide) ?_ | refine blk_normal ?_ | refine then_normal ?_ | refine retq_ret ?_ | refine retq_normal ?_ | refine ng_normal ?_ | refine ng_ret ?_ | refine ng_exit ?_)
              exact ret_none (v := .bool true) rfl s42.kp (.tmp rfl .nil) rfl rfl ⟨rfl, rfl⟩
    ·
      replace c1 := of_decide_eq_false c1
      refine dv (gyes_none rfl) (q_mv (v := .bool false) rfl) rfl (by decide) (cok1 trivial) ?_
      refine dno rfl (.inl rfl) rfl (by decide) ?_
      refine dno rfl (.inl rfl) rfl (by decide) ?_
      refine dv (gyes_none rfl) (q_pf (v := .bool false) rfl rfl) rfl (by decide) (call_ok rfl) ?_
      refine ⟨_, Wk.refl _ _, ?_⟩
      show awp _ _ _ _ _ _ _
      refine awp_cond_f rfl ?_
      refine awp_exit_wk ?_
      refine ⟨_, Wk.refl _ _, ?_⟩
      show awp _ _ _ _ _ _ _
      refine awp_seq ?_
      refine awp_regs hF ?_
      refine dv (gyes_none rfl) (q_mv (v := .slice (some ⟨bl, 0, none⟩) i i) rfl) rfl (by decide) (cok1 trivial) ?_
      refine dv (gyes_none rfl) (q_mv (v := .int .u64 ((k0 : Nat) : Int)) rfl) rfl (by decide) (cok1 trivial) ?_
      refine dv (gyes_none rfl) (q_call0 Try.call14 rfl (get_t_ok k0 hk0 _ (l.take i) (s10.slsj entc_w (j := 0) rfl hti (Nat.le_refl _)) (by omega))) rfl (by decide) (call_ok rfl) ?_
      refine dv (gyes_none rfl) (q_mv (v := .tuple #[.int .u64 (((getV (l.take i) k0).1 : Nat) : Int), .bool ((getV (l.take i) k0).2)]) rfl) rfl (by decide) (cok1 trivial) ?_
      refine dv (gyes_none rfl) (q_extract (v := .int .u64 (((getV (l.take i) k0).1 : Nat) : Int)) rfl rfl) rfl (by decide) (cok1 trivial) ?_
      refine dv (gyes_none rfl) (q_extract (v := .bool ((getV (l.take i) k0).2)) rfl rfl) rfl (by decide) (cok1 trivial) ?_
      refine dv (gyes_none rfl) (q_as (v := .int .u64 (((getV (l.take i) k0).1 : Nat) : Int)) rfl) rfl (by decide) (cok1 trivial) ?_
      refine dv (gyes_none rfl) (q_as (v := .bool ((getV (l.take i) k0).2)) rfl) rfl (by decide) (cok1 trivial) ?_
      refine ⟨_, Wk.refl _ _, ?_⟩
      show awp _ _ _ _ _ _ _
      refine awp_seq ?_
      refine awp_regs hF ?_
      refine x_new (fun b => .pointer (some ⟨b, 0, none⟩)) s10 (gyes_none rfl) (q_alloc (vs := [.int .i64 0]) 1 Try.zeroValue3 (by first | exact flat_scalar rfl | exact flat_agg rfl) rfl) rfl (by decide) (by simp [Op.operands, Call.operands]) (fun b43 H44 hb46 s45 => ?_)
      refine x_store1 [] hF s45 (by kernel_rfl) (gyes_none rfl) (j := 0) (v := .int .i64 0) rfl Try.sizeOf3 rfl rfl rfl (lc_scalar rfl) (Nat.le_of_ble_eq_true rfl) trivial (cconst rfl) rfl rfl (F' := [(b43, .cells true [.int .i64 0] 1), (bl, .cells true (fl entc (l.take i)) 2), (b1, .cells true [.int .i64 stop] 1)]) rfl (fun H47 s48 => ⟨?_, ?_⟩)
      · exact trivial
      refine ⟨_, Wk.refl _ _, ?_⟩
      show awp _ _ _ _ _ _ _
      refine awp_seq ?_
      refine awp_regs hF ?_
      refine x_new (fun b => .pointer (some ⟨b, 0, none⟩)) s48 (gyes_none rfl) (q_alloc (vs := [.int .u64 0]) 1 Try.zeroValue25 (by first | exact flat_scalar rfl | exact flat_agg rfl) rfl) rfl (by decide) (by simp [Op.operands, Call.operands]) (fun b49 H50 hb52 s51 => ?_)
      refine x_store1 [] hF s51 (by kernel_rfl) (gyes_none rfl) (j := 0) (v := .int .u64 0) rfl Try.sizeOf25 rfl rfl rfl (lc_scalar rfl) (Nat.le_of_ble_eq_true rfl) trivial (cconst rfl) rfl rfl (F' := [(b49, .cells true [.int .u64 0] 1), (b43, .cells true [.int .i64 0] 1), (bl, .cells true (fl entc (l.take i)) 2), (b1, .cells true [.int .i64 stop] 1)]) rfl (fun H53 s54 => ⟨?_, ?_⟩)
      · exact trivial
      refine ⟨_, Wk.refl _ _, ?_⟩
      show awp _ _ _ _ _ _ _
      refine awp_seq ?_
      refine awp_regs hF ?_
      refine dv (gyes_none rfl) (q_mv (v := .slice (some ⟨bl, 0, none⟩) i i) rfl) rfl (by decide) (cok1 trivial) ?_
      refine dv (gyes_none rfl) (q_mv (v := .int .u64 ((k0 : Nat) : Int)) rfl) rfl (by decide) (cok1 trivial) ?_
      refine x_call [] hF (by kernel_rfl) (gyes_none rfl) Try.call17 rfl (args := [.slice (some ⟨bl, 0, none⟩) i i, .int .u64 ((k0 : Nat) : Int)]) rfl (all_ok k0 (.slice (some ⟨bl, 0, none⟩) i i) (l.take i) (s54.slsj entc_w (j := 2) rfl hti (Nat.le_refl _))) (show _ < _ by decide) (call_ok rfl) rfl rfl (fun _ _ _ _ hd => by cases hd) ?_
      rintro _ H57 ⟨b55, b56, rfl, hn58⟩
      have s59 := s54.callL hn58
      refine ⟨trivial, ?_⟩
      show dList _ _ _ _ _ _ _ _ _ _
      refine dv (gyes_none rfl) (q_makeFuncL [.pointer (some ⟨b43, 0, none⟩), .pointer (some ⟨b49, 0, none⟩), .pointer (some ⟨b1, 0, none⟩)] ⟨rfl, rfl, rfl, trivial⟩) rfl (by decide) (call_ok rfl) ?_
      refine x_call [] hF (by kernel_rfl) (gyes_none rfl) Try.call40 rfl (args := [.func (.func 23) #[] #[.pointer (some ⟨b43, 0, none⟩), .pointer (some ⟨b49, 0, none⟩), .pointer (some ⟨b1, 0, none⟩)], .pointer (some ⟨b56, 0, none⟩), .pointer (some ⟨b55, 0, none⟩)]) rfl (frun_ok s59 k0 _ (l.take i) (by omega) stop b43 b49 b1 b56 b55 3 2 rfl rfl (by decide) (nin2 (s59.nej (i := 5) (j := 3) rfl rfl (by decide)) (s59.nej (i := 5) (j := 2) rfl rfl (by decide))) (nin2 (s59.nej (i := 1) (j := 3) rfl rfl (by decide)) (s59.nej (i := 1) (j := 2) rfl rfl (by decide))) (nin2 (s59.nej (i := 0) (j := 3) rfl rfl (by decide)) (s59.nej (i := 0) (j := 2) rfl rfl (by decide))) (s59.rd (j := 5) rfl) (s59.rd (j := 1) rfl) (s59.rd (j := 0) rfl) (slsz_full entc_w ⟨s59.rd (j := 4) rfl, (nin2 (s59.nej (i := 4) (j := 3) rfl rfl (by decide)) (s59.nej (i := 4) (j := 2) rfl rfl (by decide)))⟩ hti (Nat.le_refl _))) (show _ < _ by decide) (call_ok rfl) rfl rfl (fun _ _ _ _ hd => by cases hd) ?_
      rintro _ H60 ⟨rfl, hk61, iq, hiq, hnum, h62, h63⟩
      have s64 := s59.turn2 (j9 := 3) (jl := 2) rfl rfl (by decide) hk61 (.inr (by simp)) (s59.nej (i := 2) (j := 3) rfl rfl (by decide)) h62 h63
      have hv := getV_run hiq hnum
      refine ⟨trivial, ?_⟩
      show dList _ _ _ _ _ _ _ _ _ _
      refine ⟨_, Wk.refl _ _, ?_⟩
      show awp _ _ _ _ _ _ _
      refine awp_seq ?_
      refine awp_regs hF ?_
      refine dv (gyes_none rfl) (q_as (v := .int .i64 0) rfl) rfl (by decide) (cok1 (cconst rfl)) ?_
      refine ⟨_, Wk.refl _ _, ?_⟩
      show awp _ _ _ _ _ _ _
      refine awp_seq ?_
      refine awp_seq ?_
      refine awp_regs hF ?_
      refine dv (gyes_none rfl) (q_as (v := .int .i64 0) rfl) rfl (by decide) (cok1 (cconst rfl)) ?_
      refine ⟨_, Wk.refl _ _, ?_⟩
      show awp _ _ _ _ _ _ _
      refine awp_block ?_
      refine awp_wk (Wk.U [(1, .int .u64 ((k0 : Nat) : Int)), (5, .pointer (some ⟨b1, 0, none⟩)), (7, .slice (some ⟨bl, 0, none⟩) i i), (9, .int .u64 (((getV (l.take i) k0).1 : Nat) : Int)), (10, .bool ((getV (l.take i) k0).2)), (11, .pointer (some ⟨b43, 0, none⟩)), (12, .pointer (some ⟨b49, 0, none⟩)), (13, .int .i64 0), (14, .int .i64 0)] ⟨rfl, rfl, rfl, rfl, rfl, rfl, rfl, rfl, rfl, trivial⟩) ?_
      refine awp_loop (fun ((q, ct) : Nat × Nat) st => ∃ (H65 : AHeap), st = ⟨79, U [(1, .int .u64 ((k0 : Nat) : Int)), (5, .pointer (some ⟨b1, 0, none⟩)), (7, .slice (some ⟨bl, 0, none⟩) i i), (9, .int .u64 (((getV (l.take i) k0).1 : Nat) : Int)), (10, .bool ((getV (l.take i) k0).2)), (11, .pointer (some ⟨b43, 0, none⟩)), (12, .pointer (some ⟨b49, 0, none⟩)), (13, .int .i64 ((ct : Nat) : Int)), (14, .int .i64 ((q : Nat) : Int))], [], H65⟩ ∧ St H0 (none0) (Rd H0) H65 [(b55, .cells true [.int .u64 ((k0 : Nat) : Int)] 1), (b56, .cells true [.slice (some ⟨bl, 0, none⟩) i i] 1), (b49, .cells true [.int .u64 ((fstT (l.take i) k0 iq : Nat) : Int)] 1), (b43, .cells true [.int .i64 ((cntT (l.take i) k0 iq : Nat) : Int)] 1), (bl, .cells true (fl entc (l.take i)) 2), (b1, .cells true [.int .i64 stop] 1)] ∧ (ct = cntT (l.take i) k0 q ∧ q ≤ i)) (fun ((q, ct) : Nat × Nat) => i - q) (x0 := (0, 0)) ?h0 ?round
      case h0 =>
        exact ⟨_, rfl, s64, ⟨rfl, Nat.zero_le _⟩⟩
      case round =>
        rintro ⟨q, ct⟩ _ ⟨H65, rfl, s66, hct⟩
        dsimp only at *
        have hcl := cnt_le (e := (l.take i)) (k := k0) q
        refine awp_seq ?_
        refine awp_seq ?_
        refine awp_regs hF ?_
        refine dv (gyes_none rfl) (q_mv (v := .int .i64 ((q : Nat) : Int)) rfl) rfl (by decide) (cok1 trivial) ?_
        refine dv (gyes_none rfl) (q_mv (v := .slice (some ⟨bl, 0, none⟩) i i) rfl) rfl (by decide) (cok1 trivial) ?_
        refine dv (gyes_none rfl) (q_len_slice Try.underlying43 rfl (s66.rd (j := 4) rfl)) rfl (by decide) (cok1 trivial) ?_
        refine dvb (gyes_none rfl) (q_int rfl rfl rfl) rfl (by decide) (cok2 trivial trivial) (fun c6 => ?_) (fun c6 => ?_)
        ·
          replace c6 := of_decide_eq_true c6
          refine ⟨_, Wk.refl _ _, ?_⟩
          show awp _ _ _ _ _ _ _
          refine awp_cond_t rfl ?_
          refine awp_skip_wk ?_
          refine ⟨_, Wk.refl _ _, ?_⟩
          show awp _ _ _ _ _ _ _
          refine awp_seq ?_
          refine awp_block ?_
          refine awp_seq ?_
          refine awp_regs hF ?_
          refine dv (gyes_none rfl) (q_mv (v := .slice (some ⟨bl, 0, none⟩) i i) rfl) rfl (by decide) (cok1 trivial) ?_
          refine dv (gyes_none rfl) (q_mv (v := .int .i64 ((q : Nat) : Int)) rfl) rfl (by decide) (cok1 trivial) ?_
          refine dv (gyes_none rfl) (OpQ.cast (v' := .pointer (some ⟨bl, q * 2, none⟩)) (q_index (u := 0) (i := q) Try.underlying43 Try.sizeOf48 rfl rfl (by omega) (s66.rd (j := 4) rfl)) (by rw [Nat.zero_add])) rfl (by decide) (cok2 trivial trivial) ?_
          refine dv (gyes_none rfl) (q_field Try.underlying48 rfl Try.sizeOf25 rfl (s66.rd (j := 4) rfl)) rfl (by decide) (cok1 trivial) ?_
          refine dv (gyes_none rfl) (q_load (v := .int .u64 (((nth (l.take i) q).1 : Nat) : Int)) Try.isAgg25 rfl (s66.rd (j := 4) rfl) ((fl_get0 entc_w (by omega) (by decide)).trans rfl)) rfl (by decide) (cok1 trivial) ?_
          refine dv (gyes_none rfl) (q_mv (v := .int .u64 ((k0 : Nat) : Int)) rfl) rfl (by decide) (cok1 trivial) ?_
          refine dvb (gyes_none rfl) (q_int rfl rfl rfl) rfl (by decide) (cok2 trivial trivial) (fun c7 => ?_) (fun c7 => ?_)
          ·
            replace c7 := eq_of_beq c7
            refine ⟨_, Wk.refl _ _, ?_⟩
            show awp _ _ _ _ _ _ _
            refine awp_cond_t rfl ?_
            refine awp_regs hF ?_
            refine dv (gyes_none rfl) (q_mv (v := .int .i64 ((ct : Nat) : Int)) rfl) rfl (by decide) (cok1 trivial) ?_
            refine dv (gyes_none rfl) (OpQ.cast (v' := .int .i64 ((ct + 1 : Nat) : Int)) (q_int rfl rfl rfl) (congrArg _ ((i64_in (by omega)).trans (by first | rfl | omega | (push_cast; rfl))))) rfl (by decide) (cok2 trivial (cconst rfl)) ?_
            refine dv (gyes_none rfl) (q_as (v := .int .i64 ((ct + 1 : Nat) : Int)) rfl) rfl (by decide) (cok1 trivial) ?_
            refine ⟨_, Wk.refl _ _, ?_⟩
            show awp _ _ _ _ _ _ _
            refine awp_regs hF ?_
            refine dv (gyes_none rfl) (q_mv (v := .int .i64 ((q : Nat) : Int)) rfl) rfl (by decide) (cok1 trivial) ?_
            refine dv (gyes_none rfl) (OpQ.cast (v' := .int .i64 ((q + 1 : Nat) : Int)) (q_int rfl rfl rfl) (congrArg _ ((i64_in (by omega)).trans (by first | rfl | omega | (push_cast; rfl))))) rfl (by decide) (cok2 trivial (cconst rfl)) ?_
            refine dv (gyes_none rfl) (q_as (v := .int .i64 ((q + 1 : Nat) : Int)) rfl) rfl (by decide) (cok1 trivial) ?_
            refine ⟨_, Wk.U [(1, .int .u64 ((k0 : Nat) : Int)), (5, .pointer (some ⟨b1, 0, none⟩)), (7, .slice (some ⟨bl, 0, none⟩) i i), (9, .int .u64 (((getV (l.take i) k0).1 : Nat) : Int)), (10, .bool ((getV (l.take i) k0).2)), (11, .pointer (some ⟨b43, 0, none⟩)), (12, .pointer (some ⟨b49, 0, none⟩)), (13, .int .i64 (((ct + 1) : Nat) : Int)), (14, .int .i64 (((q + 1) : Nat) : Int))] ⟨rfl, rfl, rfl, rfl, rfl, rfl, rfl, rfl, rfl, trivial⟩, ((q + 1), (ct + 1)), ⟨_, rfl, s66, ⟨by rw [cnt_y (by omega), ← hct.1], by dsimp only; omega⟩⟩, (by omega)⟩
          ·
            replace c7 := ne_of_beq_false c7
            refine ⟨_, Wk.refl _ _, ?_⟩
            show awp _ _ _ _ _ _ _
            refine awp_cond_f rfl ?_
            refine awp_skip_wk ?_
            refine ⟨_, Wk.refl _ _, ?_⟩
            show awp _ _ _ _ _ _ _
            refine awp_regs hF ?_
            refine dv (gyes_none rfl) (q_mv (v := .int .i64 ((q : Nat) : Int)) rfl) rfl (by decide) (cok1 trivial) ?_
            refine dv (gyes_none rfl) (OpQ.cast (v' := .int .i64 ((q + 1 : Nat) : Int)) (q_int rfl rfl rfl) (congrArg _ ((i64_in (by omega)).trans (by first | rfl | omega | (push_cast; rfl))))) rfl (by decide) (cok2 trivial (cconst rfl)) ?_
            refine dv (gyes_none rfl) (q_as (v := .int .i64 ((q + 1 : Nat) : Int)) rfl) rfl (by decide) (cok1 trivial) ?_
            refine ⟨_, Wk.U [(1, .int .u64 ((k0 : Nat) : Int)), (5, .pointer (some ⟨b1, 0, none⟩)), (7, .slice (some ⟨bl, 0, none⟩) i i), (9, .int .u64 (((getV (l.take i) k0).1 : Nat) : Int)), (10, .bool ((getV (l.take i) k0).2)), (11, .pointer (some ⟨b43, 0, none⟩)), (12, .pointer (some ⟨b49, 0, none⟩)), (13, .int .i64 ((ct : Nat) : Int)), (14, .int .i64 (((q + 1) : Nat) : Int))] ⟨rfl, rfl, rfl, rfl, rfl, rfl, rfl, rfl, rfl, trivial⟩, ((q + 1), ct), ⟨_, rfl, s66, ⟨by rw [cnt_n (by omega), ← hct.1], by dsimp only; omega⟩⟩, (by omega)⟩
        ·
          replace c6 := of_decide_eq_false c6
          have hcf : ct = cntT (l.take i) k0 (l.take i).length := by rw [hti, hct.1, show q = i by omega]
          refine ⟨_, Wk.refl _ _, ?_⟩
          show awp _ _ _ _ _ _ _
          refine awp_cond_f rfl ?_
          refine awp_exit_wk ?_
          refine ⟨_, Wk.refl _ _, ?_⟩
          show awp _ _ _ _ _ _ _
          refine awp_seq ?_
          refine awp_seq ?_
          refine awp_regs hF ?_
          refine dv (gyes_none rfl) (q_load (v := .int .i64 stop) Try.isAgg3 rfl (s66.rd (j := 5) rfl) rfl) rfl (by decide) (cok1 trivial) ?_
          refine dvb (gyes_none rfl) (q_int rfl rfl rfl) rfl (by decide) (cok2 trivial (cconst rfl)) (fun c8 => ?_) (fun c8 => ?_)
          ·
            replace c8 := of_decide_eq_true c8
            refine ⟨_, Wk.refl _ _, ?_⟩
            show awp _ _ _ _ _ _ _
            refine awp_cond_t rfl ?_
            refine awp_regs hF ?_
            refine dv (gyes_none rfl) (q_mv (v := .int .i64 ((ct : Nat) : Int)) rfl) rfl (by decide) (cok1 trivial) ?_
            refine dv (gyes_none rfl) (q_load (v := .int .i64 stop) Try.isAgg3 rfl (s66.rd (j := 5) rfl) rfl) rfl (by decide) (cok1 trivial) ?_
            refine dv (gyes_none rfl) (OpQ.cast (v' := .int .i64 ((told ct stop : Nat) : Int)) (q_min rfl rfl) (congrArg _ (told_min (by omega)))) rfl (by decide) (cok2 trivial trivial) ?_
            refine dv (gyes_none rfl) (q_as (v := .int .i64 ((told ct stop : Nat) : Int)) rfl) rfl (by decide) (cok1 trivial) ?_
            refine ⟨_, Wk.refl _ _, ?_⟩
            show awp _ _ _ _ _ _ _
            refine awp_seq ?_
            refine awp_regs hF ?_
            refine dv (gyes_none rfl) (q_mv (v := .bool ((getV (l.take i) k0).2)) rfl) rfl (by decide) (cok1 trivial) ?_
            refine dv (gyes_none rfl) (q_load (v := .int .i64 ((cntT (l.take i) k0 iq : Nat) : Int)) Try.isAgg3 rfl (s66.rd (j := 3) rfl) rfl) rfl (by decide) (cok1 trivial) ?_
            refine dv (gyes_none rfl) (q_int rfl rfl rfl) rfl (by decide) (cok2 trivial (cconst rfl)) ?_
            refine dv (gyes_none rfl) (OpQ.cast (v' := .bool true) (q_booleq Try.underlying4 rfl rfl) (congrArg Value.bool (by rw [hv]; simp))) rfl (by decide) (cok2 trivial trivial) ?_
            refine dv (gyes_none rfl) (q_mv (v := .bool true) rfl) rfl (by decide) (cok1 trivial) ?_
            refine dv (gyes_some rfl rfl) (q_mv (v := .int .u64 (((getV (l.take i) k0).1 : Nat) : Int)) rfl) rfl (by decide) (cok1 trivial) ?_
            refine dv (gyes_some rfl rfl) (q_load (v := .int .u64 ((fstT (l.take i) k0 iq : Nat) : Int)) Try.isAgg25 rfl (s66.rd (j := 2) rfl) rfl) rfl (by decide) (cok1 trivial) ?_
            refine dv (gyes_some rfl rfl) (OpQ.cast (v' := .bool true) (q_int rfl rfl rfl) (congrArg Value.bool (by rw [hv]; exact beq_self_eq_true _))) rfl (by decide) (cok2 trivial trivial) ?_
            refine dv (gyes_none rfl) (q_pt (v := .bool true) rfl rfl) rfl (by decide) (call_ok rfl) ?_
            refine dv (gyes_none rfl) (q_mv (v := .bool true) rfl) rfl (by decide) (cok1 trivial) ?_
            refine dv (gyes_some rfl rfl) (q_load (v := .int .i64 ((cntT (l.take i) k0 iq : Nat) : Int)) Try.isAgg3 rfl (s66.rd (j := 3) rfl) rfl) rfl (by decide) (cok1 trivial) ?_
            refine dv (gyes_some rfl rfl) (q_mv (v := .int .i64 ((told ct stop : Nat) : Int)) rfl) rfl (by decide) (cok1 trivial) ?_
            refine dv (gyes_some rfl rfl) (OpQ.cast (v' := .bool true) (q_int rfl rfl rfl) (congrArg Value.bool (by rw [hnum, hcf]; exact beq_self_eq_true _))) rfl (by decide) (cok2 trivial trivial) ?_
            refine dv (gyes_none rfl) (q_pt (v := .bool true) rfl rfl) rfl (by decide) (call_ok rfl) ?_
            refine dv (gyes_none rfl) (q_as (v := .bool true) rfl) rfl (by decide) (cok1 trivial) ?_
            refine ⟨_, Wk.refl _ _, ?_⟩
            show awp _ _ _ _ _ _ _
            refine awp_ret_wk ?_
            refine ⟨_, Wk.refl _ _, ?_⟩
            repeat (with_reducible first | refine then_ret ?_ | refine blk_ret ?_ | refine then_exit ?_ | refine blk_exit ?_ | refine blk_exit' (by decide) ?_ | refine blk_normal ?_ | refine then_normal ?_ | refine retq_ret ?_ | refine retq_normal ?_ | refine ng_normal ?_ | refine ng_ret ?_ | refine ng_exit ?_)
            exact ret_none (v := .bool true) rfl s66.kp (.tmp rfl .nil) rfl rfl ⟨rfl, rfl⟩
          ·
            replace c8 := of_decide_eq_false c8
            refine ⟨_, Wk.refl _ _, ?_⟩
            show awp _ _ _ _ _ _ _
            refine awp_cond_f rfl ?_
            refine awp_skip_wk ?_
            refine ⟨_, Wk.refl _ _, ?_⟩
            show awp _ _ _ _ _ _ _
            refine awp_seq ?_
            refine awp_regs hF ?_
            refine dv (gyes_none rfl) (q_mv (v := .bool ((getV (l.take i) k0).2)) rfl) rfl (by decide) (cok1 trivial) ?_
            refine dv (gyes_none rfl) (q_load (v := .int .i64 ((cntT (l.take i) k0 iq : Nat) : Int)) Try.isAgg3 rfl (s66.rd (j := 3) rfl) rfl) rfl (by decide) (cok1 trivial) ?_
            refine dv (gyes_none rfl) (q_int rfl rfl rfl) rfl (by decide) (cok2 trivial (cconst rfl)) ?_
            refine dv (gyes_none rfl) (OpQ.cast (v' := .bool true) (q_booleq Try.underlying4 rfl rfl) (congrArg Value.bool (by rw [hv]; simp))) rfl (by decide) (cok2 trivial trivial) ?_
            refine dv (gyes_none rfl) (q_mv (v := .bool true) rfl) rfl (by decide) (cok1 trivial) ?_
            refine dv (gyes_some rfl rfl) (q_mv (v := .int .u64 (((getV (l.take i) k0).1 : Nat) : Int)) rfl) rfl (by decide) (cok1 trivial) ?_
            refine dv (gyes_some rfl rfl) (q_load (v := .int .u64 ((fstT (l.take i) k0 iq : Nat) : Int)) Try.isAgg25 rfl (s66.rd (j := 2) rfl) rfl) rfl (by decide) (cok1 trivial) ?_
            refine dv (gyes_some rfl rfl) (OpQ.cast (v' := .bool true) (q_int rfl rfl rfl) (congrArg Value.bool (by rw [hv]; exact beq_self_eq_true _))) rfl (by decide) (cok2 trivial trivial) ?_
            refine dv (gyes_none rfl) (q_pt (v := .bool true) rfl rfl) rfl (by decide) (call_ok rfl) ?_
            refine dv (gyes_none rfl) (q_mv (v := .bool true) rfl) rfl (by decide) (cok1 trivial) ?_
            refine dv (gyes_some rfl rfl) (q_load (v := .int .i64 ((cntT (l.take i) k0 iq : Nat) : Int)) Try.isAgg3 rfl (s66.rd (j := 3) rfl) rfl) rfl (by decide) (cok1 trivial) ?_
            refine dv (gyes_some rfl rfl) (q_mv (v := .int .i64 ((ct : Nat) : Int)) rfl) rfl (by decide) (cok1 trivial) ?_
            refine dv (gyes_some rfl rfl) (OpQ.cast (v' := .bool true) (q_int rfl rfl rfl) (congrArg Value.bool (by rw [hnum, hcf]; unfold told; rw [if_neg (by omega)]; exact beq_self_eq_true _))) rfl (by decide) (cok2 trivial trivial) ?_
            refine dv (gyes_none rfl) (q_pt (v := .bool true) rfl rfl) rfl (by decide) (call_ok rfl) ?_
            refine dv (gyes_none rfl) (q_as (v := .bool true) rfl) rfl (by decide) (cok1 trivial) ?_
            refine ⟨_, Wk.refl _ _, ?_⟩
            show awp _ _ _ _ _ _ _
            refine awp_ret_wk ?_
            refine ⟨_, Wk.refl _ _, ?_⟩
            repeat (with_reducible first | refine then_ret ?_ | refine blk_ret ?_ | refine then_exit ?_ | refine blk_exit ?_ | refine blk_exit' (by decide) ?_ | refine blk_normal ?_ | refine then_normal ?_ | refine retq_ret ?_ | refine retq_normal ?_ | refine ng_normal ?_ | refine ng_ret ?_ | refine ng_exit ?_)
            exact ret_none (v := .bool true) rfl s66.kp (.tmp rfl .nil) rfl rfl ⟨rfl, rfl⟩

end Go.Proofs.YthfndghgfabbjaaA

