/-
  Walks over abstract states: texts of one claim, merged.
-/
import Derived.Test.YtjgeheookgogaaaM2
import Derived.Test.YtjgeheookgogaaaProg
import Derived.KernelRfl
import Derived.ChangeSlices
import Derived.SliceStrings
import Derived.WideShapes
import Derived.SizedLaws
import Derived.OpenShut
import Derived.Deep.Slices
/-
  Walks of functions of the given program, and what they compute.
-/
namespace Go.Proofs.YtjgeheookgogaaaA
set_option linter.unusedVariables false
open Go Go.RowKit Go.Shelf Go.Proofs
theorem St.turn2 {H0 : AHeap} {X : Nat → Prop} {Z : Rs} {H H' : AHeap} {F : List (Nat × AObj)} (h : St H0 X Z H F) {j9 jl b9 bl bn : Nat} {o9 ol o9' on : AObj} (h9 : F[j9]? = some (b9, o9)) (hl : F[jl]? = some (bl, ol)) (hij : j9 ≠ jl) (k : Kp (· ∈ [b9, bl]) H H') (hb : H.length ≤ bn ∨ bn ∈ [b9, bl]) (hne : bn ≠ b9) (h9' : H'[b9]? = some o9') (hn : H'[bn]? = some on) : St H0 X Z H' ((F.set j9 (b9, o9')).set jl (bn, on)) := by
  have m9 : b9 ∈ F.map (·.1) := List.mem_map.2 ⟨_, List.mem_of_getElem? h9, rfl⟩
  have ml : bl ∈ F.map (·.1) := List.mem_map.2 ⟨_, List.mem_of_getElem? hl, rfl⟩
  have hjl := (List.getElem?_eq_some_iff.1 hl).1
  refine h.turn k _ ?_ (fun p hp => ?_) (fun b hb => ?_)
  · have e1 : ((F.set j9 (b9, o9')).set jl (bn, on)).map (·.1) = (F.map (·.1)).set jl bn := by rw [List.map_set, keys_set h9]
    rw [e1]
    refine nodup_of_inj fun i j x hi hj => ?_
    rw [List.getElem?_set] at hi hj
    have nb : ∀ q, q ≠ jl → (F.map (·.1))[q]? ≠ some bn := fun q hq e => by
      rw [List.getElem?_map] at e
      obtain ⟨y, hy, hy2⟩ := Option.map_eq_some_iff.1 e
      rcases hb with hb | hb
      · have := lt_of_some (h.getj (b := y.1) (o := y.2) hy)
        omega
      · rcases List.mem_cons.1 hb with hb | hb
        · exact hne hb
        · have hb : bn = bl := by simpa using hb
          exact h.ne hy hl hq (hy2.trans hb)
    by_cases ei : jl = i
    · by_cases ej : jl = j
      · omega
      · rw [if_pos ei, if_pos (by simpa using hjl)] at hi
        rw [if_neg ej] at hj
        cases hi
        exact absurd hj (nb j (Ne.symm ej))
    · rw [if_neg ei] at hi
      by_cases ej : jl = j
      · rw [if_pos ej, if_pos (by simpa using hjl)] at hj
        cases hj
        exact absurd hi (nb i (Ne.symm ei))
      · rw [if_neg ej] at hj
        exact nodup_inj h.nd hi hj
  · rcases mem_set_cases hp with rfl | ⟨i, hi, hp⟩
    · refine .inr ⟨hn, hb.imp id fun hb => ?_⟩
      rcases List.mem_cons.1 hb with hb | hb
      · exact absurd hb hne
      · have hb : bn = bl := by simpa using hb
        show bn ∈ _
        rw [hb]; exact ml
    · rw [List.getElem?_set] at hp
      by_cases e : j9 = i
      · rw [if_pos e, if_pos (List.getElem?_eq_some_iff.1 h9).1] at hp
        cases hp
        exact .inr ⟨h9', .inr m9⟩
      · rw [if_neg e] at hp
        refine .inl ⟨List.mem_of_getElem? hp, fun hm => ?_⟩
        rcases List.mem_cons.1 hm with hm | hm
        · exact h.ne hp h9 (Ne.symm e) hm
        · have hm : p.1 = bl := by simpa using hm
          exact h.ne hp hl hi hm
  · rcases List.mem_cons.1 hb with rfl | hb
    · exact m9
    · have hb : b = bl := by simpa using hb
      rw [hb]; exact ml
theorem js_y' {o : List Sp} {x : Sp} {m : Nat} (hm : m = o.length) (h : 0 < m) (h2 : (nth o (m - 1)).2 = x.1) : joinStep o x = o.set (m - 1) ((nth o (m - 1)).1, x.2) := by subst hm; exact js_y h h2
theorem js_n' {o : List Sp} {x : Sp} {m : Nat} (hm : m = o.length) (h : ¬ (0 < m ∧ (nth o (m - 1)).2 = x.1)) : joinStep o x = o ++ [x] := by subst hm; exact js_n h
def SortedLo (l : List Sp) : Prop := ∀ i j, i < j → j < l.length → (nth l i).1 ≤ (nth l j).1
def AddR (l : List Sp) (x : Sp) (ok : Bool) (L : List Sp) : Prop := (ok = false ∧ (x.2 ≤ x.1 ∨ l.any (meetsB x) = true) ∧ L = l) ∨ (ok = true ∧ x.1 < x.2 ∧ l.any (meetsB x) = false ∧ ∃ l' : List Sp, l'.Perm (l ++ [x]) ∧ SortedLo l' ∧ L = joinS l')
set_option maxRecDepth 100000 in
set_option maxHeartbeats 4000000 in
theorem setSort_ok {H0 : AHeap} (bs bl : Nat) (l : List Sp) (hl : l.length ≤ 1000) (hnd : [bs, bl].Nodup) (h1 : H0[bs]? = some (.cells true [.slice (some ⟨bl, 0, none⟩) l.length l.length] 1)) (h2 : H0[bl]? = some (.cells true (fl spc l) 2)) (hn0 : 0 < l.length) : ACalls Try.prog 28 [.pointer (some ⟨bs, 0, none⟩)] H0 (fun v H' => ∃ (l' : List Sp) (bn : Nat), v = .tuple #[] ∧ l'.Perm l ∧ SortedLo l' ∧ Kp (· ∈ [bs, bl]) H0 H' ∧ (H0.length ≤ bn ∨ bn ∈ [bs, bl]) ∧ bn ≠ bs ∧ H'[bs]? = some (.cells true [.slice (some ⟨bn, 0, none⟩) (joinS l').length (joinS l').length] 1) ∧ H'[bn]? = some (.cells true (fl spc (joinS l')) 2)) := by
  have hF : Wd Fence.wide := .inl rfl
  have hM : Try.prog.follows .mixedOrders = true := by kernel_rfl
  have s0 : St H0 (· ∈ [bs, bl]) (Off H0 [bs, bl]) H0 [(bs, .cells true [.slice (some ⟨bl, 0, none⟩) l.length l.length] 1), (bl, .cells true (fl spc l) 2)] := St.beginL [(bs, .cells true [.slice (some ⟨bl, 0, none⟩) l.length l.length] 1), (bl, .cells true (fl spc l) 2)] hnd (allAt_mem ⟨h1, h2, trivial⟩)
  refine acalls_st Try.func28 rfl Try.ntmps28 rfl ?_
  refine awp_seq ?_
  refine awp_regs hF ?_
  refine dv (gyes_none rfl) (q_mv (v := .pointer (some ⟨bs, 0, none⟩)) rfl) rfl (by decide) (cok1 trivial) ?_
  refine dv (gyes_none rfl) (q_nilCheck rfl (s0.live (j := 0) rfl)) rfl (by decide) (cok1 trivial) ?_
  refine dv (gyes_none rfl) (q_field Try.underlying26 rfl Try.sizeOf24 rfl (s0.rd (j := 0) rfl)) rfl (by decide) (cok1 trivial) ?_
  refine dv (gyes_none rfl) (q_load (v := .slice (some ⟨bl, 0, none⟩) l.length l.length) Try.isAgg24 rfl (s0.rd (j := 0) rfl) rfl) rfl (by decide) (cok1 trivial) ?_
  refine x_call [] hF (by kernel_rfl) (gyes_none rfl) Try.call34 rfl (args := [.slice (some ⟨bl, 0, none⟩) l.length l.length, .func (.func 35) #[] #[]]) rfl (sort_ok (l := l) (s0.getj (j := 1) rfl) rfl hn0 (by omega)) (show _ < _ by decide) (call_ok rfl) rfl rfl (fun _ _ _ _ hd => by cases hd) ?_
  rintro _ _ ⟨rfl, l', hperm, hsort, rfl⟩
  have s1 := s0.setAt (j := 1) rfl (.cells true (fl spc l') 2)
  have hlen := hperm.length_eq
  refine ⟨trivial, ?_⟩
  show dList _ _ _ _ _ _ _ _ _ _
  refine ⟨_, Wk.refl _ _, ?_⟩
  show awp _ _ _ _ _ _ _
  refine awp_seq ?_
  refine awp_regs hF ?_
  refine dv (gyes_none rfl) (q_as (v := .slice none 0 0) rfl) rfl (by decide) (cok1 (cconst rfl)) ?_
  refine ⟨_, Wk.refl _ _, ?_⟩
  show awp _ _ _ _ _ _ _
  refine awp_seq ?_
  refine awp_seq ?_
  refine awp_regs hF ?_
  refine dv (gyes_none rfl) (q_mv (v := .pointer (some ⟨bs, 0, none⟩)) rfl) rfl (by decide) (cok1 trivial) ?_
  refine dv (gyes_none rfl) (q_nilCheck rfl (s1.live (j := 0) rfl)) rfl (by decide) (cok1 trivial) ?_
  refine dv (gyes_none rfl) (q_field Try.underlying26 rfl Try.sizeOf24 rfl (s1.rd (j := 0) rfl)) rfl (by decide) (cok1 trivial) ?_
  refine dv (gyes_none rfl) (q_load (v := .slice (some ⟨bl, 0, none⟩) l.length l.length) Try.isAgg24 rfl (s1.rd (j := 0) rfl) rfl) rfl (by decide) (cok1 trivial) ?_
  refine dv (gyes_none rfl) (q_len_slice Try.underlying24 rfl (s1.rd (j := 1) rfl)) rfl (by decide) (cok1 trivial) ?_
  refine dv (gyes_none rfl) (q_mv (v := .int .i64 0) rfl) rfl (by decide) (cok1 (cconst rfl)) ?_
  refine ⟨_, Wk.refl _ _, ?_⟩
  show awp _ _ _ _ _ _ _
  refine awp_block ?_
  refine awp_nil s1 2 2 rfl (fun b2 H3 hb5 s4 => ?_)
  refine awp_wk (Wk.U [(0, .pointer (some ⟨bs, 0, none⟩)), (2, .slice (some ⟨b2, 0, none⟩) 0 0), (14, .slice (some ⟨bl, 0, none⟩) l.length l.length), (15, .int .i64 ((l.length : Nat) : Int)), (16, .int .i64 0)] ⟨rfl, rfl, rfl, rfl, rfl, trivial⟩) ?_
  refine awp_loop (fun ((i, m, o) : Nat × Nat × (List Sp)) st => ∃ (H6 : AHeap) (bo : Nat), st = ⟨51, U [(0, .pointer (some ⟨bs, 0, none⟩)), (2, .slice (some ⟨bo, 0, none⟩) m m), (14, .slice (some ⟨bl, 0, none⟩) l.length l.length), (15, .int .i64 ((l.length : Nat) : Int)), (16, .int .i64 ((i : Nat) : Int))], [], H6⟩ ∧ St H0 ((· ∈ [bs, bl])) (Off H0 [bs, bl]) H6 [(bo, .cells true (fl spc o) 2), (bs, .cells true [.slice (some ⟨bl, 0, none⟩) l.length l.length] 1), (bl, .cells true (fl spc l') 2)] ∧ (o = (l'.take i).foldl joinStep [] ∧ m = o.length ∧ i ≤ l.length ∧ m ≤ i)) (fun ((i, m, o) : Nat × Nat × (List Sp)) => l.length - i) (x0 := (0, 0, ([] : List Sp))) ?h0 ?round
  case h0 =>
    exact ⟨_, _, rfl, s4, ⟨rfl, rfl, Nat.zero_le _, Nat.zero_le _⟩⟩
  case round =>
    rintro ⟨i, m, o⟩ _ ⟨H6, bo, rfl, s7, ho⟩
    dsimp only at *
    refine awp_seq ?_
    refine awp_regs hF ?_
    refine dvb (gyes_none rfl) (q_int rfl rfl rfl) rfl (by decide) (cok2 trivial trivial) (fun c1 => ?_) (fun c1 => ?_)
    ·
      replace c1 := of_decide_eq_true c1
      refine ⟨_, Wk.refl _ _, ?_⟩
      show awp _ _ _ _ _ _ _
      refine awp_seq ?_
      refine awp_cond_t rfl ?_
      refine awp_skip_wk ?_
      refine ⟨_, Wk.refl _ _, ?_⟩
      show awp _ _ _ _ _ _ _
      refine awp_seq ?_
      refine awp_block ?_
      refine awp_seq ?_
      refine awp_regs hF ?_
      refine dv (gyes_none rfl) (OpQ.cast (v' := .pointer (some ⟨bl, i * 2, none⟩)) (q_index (u := 0) (i := i) Try.underlying24 Try.sizeOf30 rfl rfl (by omega) (s7.rd (j := 2) rfl)) (by rw [Nat.zero_add])) rfl (by decide) (cok2 trivial trivial) ?_
      refine dv (gyes_none rfl) (q_loadAgg (us := spc (nth l' i)) Try.isAgg30 Try.sizeOf30 rfl (s7.rd (j := 2) rfl) (fl_room spc_w (by omega)) (fl_at spc_w (by omega))) rfl (by decide) (cok1 trivial) ?_
      refine x_new (fun b => .pointer (some ⟨b, 0, none⟩)) s7 (gyes_none rfl) (q_alloc (vs := [.int .u64 0, .int .u64 0]) 2 Try.zeroValue30 (by first | exact flat_scalar rfl | exact flat_agg rfl) rfl) rfl (by decide) (by simp [Op.operands, Call.operands]) (fun b8 H9 hb11 s10 => ?_)
      refine x_store [] hF s10 (by kernel_rfl) (gyes_none rfl) (j := 0) (v := .agg #[.int .u64 (((nth l' i).1 : Nat) : Int), .int .u64 (((nth l' i).2 : Nat) : Int)]) rfl Try.sizeOf30 rfl rfl rfl rfl rfl trivial (lcsA ⟨(lc_scalar rfl), (lc_scalar rfl), trivial⟩) (Nat.le_of_ble_eq_true rfl) trivial trivial rfl rfl (F' := [(b8, .cells true [.int .u64 (((nth l' i).1 : Nat) : Int), .int .u64 (((nth l' i).2 : Nat) : Int)] 2), (bo, .cells true (fl spc o) 2), (bs, .cells true [.slice (some ⟨bl, 0, none⟩) l.length l.length] 1), (bl, .cells true (fl spc l') 2)]) rfl (fun H12 s13 => ⟨?_, ?_⟩)
      · exact trivial
      refine ⟨_, Wk.refl _ _, ?_⟩
      show awp _ _ _ _ _ _ _
      refine awp_seq ?_
      refine awp_seq ?_
      refine awp_regs hF ?_
      refine dv (gyes_none rfl) (q_mv (v := .slice (some ⟨bo, 0, none⟩) m m) rfl) rfl (by decide) (cok1 trivial) ?_
      refine dv (gyes_none rfl) (q_len_slice Try.underlying24 rfl (s13.rd (j := 1) rfl)) rfl (by decide) (cok1 trivial) ?_
      refine dv (gyes_none rfl) (q_as (v := .int .i64 ((m : Nat) : Int)) rfl) rfl (by decide) (cok1 trivial) ?_
      refine ⟨_, Wk.refl _ _, ?_⟩
      show awp _ _ _ _ _ _ _
      refine awp_seq ?_
      refine awp_regt hF hM (by kernel_rfl) (by kernel_rfl) ?_
      refine dv (gyes_none rfl) (q_mv (v := .int .i64 ((m : Nat) : Int)) rfl) rfl (by decide) (cok1 trivial) ?_
      refine dvb (gyes_none rfl) (q_int rfl rfl rfl) rfl (by decide) (cok2 trivial (cconst rfl)) (fun c2 => ?_) (fun c2 => ?_)
      ·
        replace c2 := of_decide_eq_true c2
        refine dv (gyes_none rfl) (q_mv (v := .bool true) rfl) rfl (by decide) (cok1 trivial) ?_
        refine dv (gyes_some rfl rfl) (q_mv (v := .slice (some ⟨bo, 0, none⟩) m m) rfl) rfl (by decide) (cok1 trivial) ?_
        refine dv (gyes_some rfl rfl) (q_mv (v := .int .i64 ((m : Nat) : Int)) rfl) rfl (by decide) (cok1 trivial) ?_
        refine dv (gyes_some rfl rfl) (OpQ.cast (v' := .int .i64 ((m - 1 : Nat) : Int)) (q_int rfl rfl rfl) (congrArg _ ((i64_in (by omega)).trans (by omega)))) rfl (by decide) (cok2 trivial (cconst rfl)) ?_
        refine dv (gyes_some rfl rfl) (OpQ.cast (v' := .pointer (some ⟨bo, (m - 1) * 2, none⟩)) (q_index (u := 0) (i := (m - 1)) Try.underlying24 Try.sizeOf30 rfl rfl (by omega) (s13.rd (j := 1) rfl)) (by rw [Nat.zero_add])) rfl (by decide) (cok2 trivial trivial) ?_
        refine dv (gyes_some rfl rfl) (q_field Try.underlying30 rfl Try.sizeOf27 rfl (s13.rd (j := 1) rfl)) rfl (by decide) (cok1 trivial) ?_
        refine dv (gyes_some rfl rfl) (q_load (v := .int .u64 (((nth o (m - 1)).2 : Nat) : Int)) Try.isAgg27 rfl (s13.rd (j := 1) rfl) ((fl_get spc_w (by omega) (by decide)).trans rfl)) rfl (by decide) (cok1 trivial) ?_
        refine dv (gyes_some rfl rfl) (q_field Try.underlying30 rfl Try.sizeOf27 rfl (s13.rd (j := 0) rfl)) rfl (by decide) (cok1 trivial) ?_
        refine dv (gyes_some rfl rfl) (q_load (v := .int .u64 (((nth l' i).1 : Nat) : Int)) Try.isAgg27 rfl (s13.rd (j := 0) rfl) rfl) rfl (by decide) (cok1 trivial) ?_
        refine dvb (gyes_some rfl rfl) (q_int rfl rfl rfl) rfl (by decide) (cok2 trivial trivial) (fun c3 => ?_) (fun c3 => ?_)
        ·
          replace c3 := eq_of_beq c3
          refine dv (gyes_none rfl) (q_pt (v := .bool true) rfl rfl) rfl (by decide) (call_ok rfl) ?_
          refine ⟨_, Wk.refl _ _, ?_⟩
          show awp _ _ _ _ _ _ _
          refine awp_cond_t rfl ?_
          refine awp_seq ?_
          refine awp_regs hF ?_
          refine dv (gyes_none rfl) (q_mv (v := .slice (some ⟨bo, 0, none⟩) m m) rfl) rfl (by decide) (cok1 trivial) ?_
          refine dv (gyes_none rfl) (q_mv (v := .int .i64 ((m : Nat) : Int)) rfl) rfl (by decide) (cok1 trivial) ?_
          refine dv (gyes_none rfl) (OpQ.cast (v' := .int .i64 ((m - 1 : Nat) : Int)) (q_int rfl rfl rfl) (congrArg _ ((i64_in (by omega)).trans (by omega)))) rfl (by decide) (cok2 trivial (cconst rfl)) ?_
          refine dv (gyes_none rfl) (q_field Try.underlying30 rfl Try.sizeOf27 rfl (s13.rd (j := 0) rfl)) rfl (by decide) (cok1 trivial) ?_
          refine dv (gyes_none rfl) (q_load (v := .int .u64 (((nth l' i).2 : Nat) : Int)) Try.isAgg27 rfl (s13.rd (j := 0) rfl) rfl) rfl (by decide) (cok1 trivial) ?_
          refine dv (gyes_none rfl) (OpQ.cast (v' := .pointer (some ⟨bo, (m - 1) * 2, none⟩)) (q_index (u := 0) (i := (m - 1)) Try.underlying24 Try.sizeOf30 rfl rfl (by omega) (s13.rd (j := 1) rfl)) (by rw [Nat.zero_add])) rfl (by decide) (cok2 trivial trivial) ?_
          refine dv (gyes_none rfl) (q_field Try.underlying30 rfl Try.sizeOf27 rfl (s13.rd (j := 1) rfl)) rfl (by decide) (cok1 trivial) ?_
          refine x_store1 [] hF s13 (by kernel_rfl) (gyes_none rfl) (j := 1) (v := .int .u64 (((nth l' i).2 : Nat) : Int)) rfl Try.sizeOf27 rfl rfl rfl (lc_scalar rfl) (fl_lt spc_w (by omega) (by decide)) trivial trivial rfl rfl (F' := [(b8, .cells true [.int .u64 (((nth l' i).1 : Nat) : Int), .int .u64 (((nth l' i).2 : Nat) : Int)] 2), (bo, .cells true (fl spc (o.set (m - 1) ((nth o (m - 1)).1, (nth l' i).2))) 2), (bs, .cells true [.slice (some ⟨bl, 0, none⟩) l.length l.length] 1), (bl, .cells true (fl spc l') 2)]) (by rw [fl_set1 spc_w (by omega) (y := ((nth o (m - 1)).1, (nth l' i).2)) (by decide) rfl]; rfl) (fun H14 s15 => ⟨?_, ?_⟩)
          · exact trivial
          refine ⟨_, Wk.refl _ _, ?_⟩
          show awp _ _ _ _ _ _ _
          refine awp_exit_wk ?_
          refine ⟨_, Wk.refl _ _, ?_⟩
          show awp _ _ _ _ _ _ _
          refine awp_regs hF ?_
          refine dv (gyes_none rfl) (OpQ.cast (v' := .int .i64 ((i + 1 : Nat) : Int)) (q_int rfl rfl rfl) (congrArg _ ((i64_in (by omega)).trans (by first | rfl | omega | (push_cast; rfl))))) rfl (by decide) (cok2 trivial (cconst rfl)) ?_
          refine dv (gyes_none rfl) (q_mv (v := .int .i64 ((i + 1 : Nat) : Int)) rfl) rfl (by decide) (cok1 trivial) ?_
          refine ⟨_, Wk.U [(0, .pointer (some ⟨bs, 0, none⟩)), (2, .slice (some ⟨bo, 0, none⟩) m m), (14, .slice (some ⟨bl, 0, none⟩) l.length l.length), (15, .int .i64 ((l.length : Nat) : Int)), (16, .int .i64 (((i + 1) : Nat) : Int))] ⟨rfl, rfl, rfl, rfl, rfl, trivial⟩, ((i + 1), m, (o.set (m - 1) ((nth o (m - 1)).1, (nth l' i).2))), ⟨_, _, rfl, (s15.sub (.cons _ (.cons_cons _ (.cons_cons _ (.cons_cons _ (.refl _)))))), ⟨by rw [join_succ (by omega), ← ho.1]; exact (js_y' ho.2.1 (by omega) (by omega)).symm, by dsimp only; rw [List.length_set]; exact ho.2.1, by dsimp only; omega, by dsimp only; omega⟩⟩, (by omega)⟩
        ·
          replace c3 := ne_of_beq_false c3
          refine dv (gyes_none rfl) (q_pt (v := .bool false) rfl rfl) rfl (by decide) (call_ok rfl) ?_
          refine ⟨_, Wk.refl _ _, ?_⟩
          show awp _ _ _ _ _ _ _
          refine awp_cond_f rfl ?_
          refine awp_skip_wk ?_
          refine ⟨_, Wk.refl _ _, ?_⟩
          show awp _ _ _ _ _ _ _
          refine awp_regs hF ?_
          refine dv (gyes_none rfl) (q_mv (v := .slice (some ⟨bo, 0, none⟩) m m) rfl) rfl (by decide) (cok1 trivial) ?_
          refine dv (gyes_none rfl) (q_loadAgg Try.isAgg30 Try.sizeOf30 rfl (s13.rd (j := 0) rfl) (Nat.le_of_ble_eq_true rfl) rfl) rfl (by decide) (cok1 trivial) ?_
          refine x_new (fun b => .slice (some ⟨b, 0, none⟩) 1 1) s13 (gyes_none rfl) (q_buildSliceL (ds := [.int .u64 (((nth l' i).1 : Nat) : Int), .int .u64 (((nth l' i).2 : Nat) : Int)]) [.agg #[.int .u64 (((nth l' i).1 : Nat) : Int), .int .u64 (((nth l' i).2 : Nat) : Int)]] rfl Try.underlying24 Try.sizeOf30 Try.zeroValue30 rfl (by decide) (by decide) ⟨rfl, trivial⟩ (lvsC (by exact trivial) lvs0) rfl rfl) rfl (by decide) (cok1 trivial) (fun b16 H17 hb19 s18 => ?_)
          refine x_appendS (m := 2) (l := [((nth l' i).1, (nth l' i).2)]) (l0 := o) (l' := o ++ [nth l' i]) (f := spc) [] hF s18 (by kernel_rfl) (j := 2) (m + 1) rfl (gyes_none rfl) Try.underlying24 Try.underlying24 Try.type30 rfl rfl (by decide) rfl spc_w rfl rfl rfl (s18.slsj (l := [((nth l' i).1, (nth l' i).2)]) spc_w (j := 0) rfl rfl (Nat.le_refl _)) (fun x _ u hu => lc_scalar (spc_sc x u hu)) ho.2.1 (by show (2 * (m + 1) + 1000) * 16 ≤ _; omega) trivial trivial (by decide) rfl rfl rfl (fun b20 H21 hb23 s22 => ⟨?_, ?_⟩)
          · exact trivial
          refine dv (gyes_none rfl) (q_as (v := .slice (some ⟨b20, 0, none⟩) (m + 1) (m + 1)) rfl) rfl (by decide) (cok1 trivial) ?_
          refine ⟨_, Wk.refl _ _, ?_⟩
          show awp _ _ _ _ _ _ _
          refine awp_regs hF ?_
          refine dv (gyes_none rfl) (OpQ.cast (v' := .int .i64 ((i + 1 : Nat) : Int)) (q_int rfl rfl rfl) (congrArg _ ((i64_in (by omega)).trans (by first | rfl | omega | (push_cast; rfl))))) rfl (by decide) (cok2 trivial (cconst rfl)) ?_
          refine dv (gyes_none rfl) (q_mv (v := .int .i64 ((i + 1 : Nat) : Int)) rfl) rfl (by decide) (cok1 trivial) ?_
          refine ⟨_, Wk.U [(0, .pointer (some ⟨bs, 0, none⟩)), (2, .slice (some ⟨b20, 0, none⟩) (m + 1) (m + 1)), (14, .slice (some ⟨bl, 0, none⟩) l.length l.length), (15, .int .i64 ((l.length : Nat) : Int)), (16, .int .i64 (((i + 1) : Nat) : Int))] ⟨rfl, rfl, rfl, rfl, rfl, trivial⟩, ((i + 1), (m + 1), (o ++ [nth l' i])), ⟨_, _, rfl, (s22.sub (.cons _ (.cons _ (.cons_cons _ (.cons_cons _ (.cons_cons _ (.refl _))))))), ⟨by rw [join_succ (by omega), ← ho.1]; exact (js_n' ho.2.1 (by omega)).symm, by dsimp only; rw [List.length_append, ho.2.1]; rfl, by dsimp only; omega, by dsimp only; omega⟩⟩, (by omega)⟩
      ·
        replace c2 := of_decide_eq_false c2
        refine dv (gyes_none rfl) (q_mv (v := .bool false) rfl) rfl (by decide) (cok1 trivial) ?_
        refine dno rfl (.inl rfl) rfl (by decide) ?_
        refine dno rfl (.inl rfl) rfl (by decide) ?_
        refine dno rfl (.inl rfl) rfl (by decide) ?_
        refine dno rfl (.inl rfl) rfl (by decide) ?_
        refine dno rfl (.inl rfl) rfl (by decide) ?_
        refine dno rfl (.inl rfl) rfl (by decide) ?_
        refine dno rfl (.inl rfl) rfl (by decide) ?_
        refine dno rfl (.inl rfl) rfl (by decide) ?_
        refine dno rfl (.inl rfl) rfl (by decide) ?_
        refine dv (gyes_none rfl) (q_pf (v := .bool false) rfl rfl) rfl (by decide) (call_ok rfl) ?_
        refine ⟨_, Wk.refl _ _, ?_⟩
        show awp _ _ _ _ _ _ _
        refine awp_cond_f rfl ?_
        refine awp_skip_wk ?_
        refine ⟨_, Wk.refl _ _, ?_⟩
        show awp _ _ _ _ _ _ _
        refine awp_regs hF ?_
        refine dv (gyes_none rfl) (q_mv (v := .slice (some ⟨bo, 0, none⟩) m m) rfl) rfl (by decide) (cok1 trivial) ?_
        refine dv (gyes_none rfl) (q_loadAgg Try.isAgg30 Try.sizeOf30 rfl (s13.rd (j := 0) rfl) (Nat.le_of_ble_eq_true rfl) rfl) rfl (by decide) (cok1 trivial) ?_
        refine x_new (fun b => .slice (some ⟨b, 0, none⟩) 1 1) s13 (gyes_none rfl) (q_buildSliceL (ds := [.int .u64 (((nth l' i).1 : Nat) : Int), .int .u64 (((nth l' i).2 : Nat) : Int)]) [.agg #[.int .u64 (((nth l' i).1 : Nat) : Int), .int .u64 (((nth l' i).2 : Nat) : Int)]] rfl Try.underlying24 Try.sizeOf30 Try.zeroValue30 rfl (by decide) (by decide) ⟨rfl, trivial⟩ (lvsC (by exact trivial) lvs0) rfl rfl) rfl (by decide) (cok1 trivial) (fun b24 H25 hb27 s26 => ?_)
        refine x_appendS (m := 2) (l := [((nth l' i).1, (nth l' i).2)]) (l0 := o) (l' := o ++ [nth l' i]) (f := spc) [] hF s26 (by kernel_rfl) (j := 2) (m + 1) rfl (gyes_none rfl) Try.underlying24 Try.underlying24 Try.type30 rfl rfl (by decide) rfl spc_w rfl rfl rfl (s26.slsj (l := [((nth l' i).1, (nth l' i).2)]) spc_w (j := 0) rfl rfl (Nat.le_refl _)) (fun x _ u hu => lc_scalar (spc_sc x u hu)) ho.2.1 (by show (2 * (m + 1) + 1000) * 16 ≤ _; omega) trivial trivial (by decide) rfl rfl rfl (fun b28 H29 hb31 s30 => ⟨?_, ?_⟩)
        · exact trivial
        refine dv (gyes_none rfl) (q_as (v := .slice (some ⟨b28, 0, none⟩) (m + 1) (m + 1)) rfl) rfl (by decide) (cok1 trivial) ?_
        refine ⟨_, Wk.refl _ _, ?_⟩
        show awp _ _ _ _ _ _ _
        refine awp_regs hF ?_
        refine dv (gyes_none rfl) (OpQ.cast (v' := .int .i64 ((i + 1 : Nat) : Int)) (q_int rfl rfl rfl) (congrArg _ ((i64_in (by omega)).trans (by first | rfl | omega | (push_cast; rfl))))) rfl (by decide) (cok2 trivial (cconst rfl)) ?_
        refine dv (gyes_none rfl) (q_mv (v := .int .i64 ((i + 1 : Nat) : Int)) rfl) rfl (by decide) (cok1 trivial) ?_
        refine ⟨_, Wk.U [(0, .pointer (some ⟨bs, 0, none⟩)), (2, .slice (some ⟨b28, 0, none⟩) (m + 1) (m + 1)), (14, .slice (some ⟨bl, 0, none⟩) l.length l.length), (15, .int .i64 ((l.length : Nat) : Int)), (16, .int .i64 (((i + 1) : Nat) : Int))] ⟨rfl, rfl, rfl, rfl, rfl, trivial⟩, ((i + 1), (m + 1), (o ++ [nth l' i])), ⟨_, _, rfl, (s30.sub (.cons _ (.cons _ (.cons_cons _ (.cons_cons _ (.cons_cons _ (.refl _))))))), ⟨by rw [join_succ (by omega), ← ho.1]; exact (js_n' ho.2.1 (by omega)).symm, by dsimp only; rw [List.length_append, ho.2.1]; rfl, by dsimp only; omega, by dsimp only; omega⟩⟩, (by omega)⟩
    ·
      replace c1 := of_decide_eq_false c1
      refine ⟨_, Wk.refl _ _, ?_⟩
      show awp _ _ _ _ _ _ _
      refine awp_seq ?_
      refine awp_cond_f rfl ?_
      refine awp_exit_wk ?_
      refine ⟨_, Wk.refl _ _, ?_⟩
      show awp _ _ _ _ _ _ _
      refine awp_regs hF ?_
      refine dv (gyes_none rfl) (q_mv (v := .pointer (some ⟨bs, 0, none⟩)) rfl) rfl (by decide) (cok1 trivial) ?_
      refine dv (gyes_none rfl) (q_mv (v := .slice (some ⟨bo, 0, none⟩) m m) rfl) rfl (by decide) (cok1 trivial) ?_
      refine dv (gyes_none rfl) (q_nilCheck rfl (s7.live (j := 1) rfl)) rfl (by decide) (cok1 trivial) ?_
      refine dv (gyes_none rfl) (q_field Try.underlying26 rfl Try.sizeOf24 rfl (s7.rd (j := 1) rfl)) rfl (by decide) (cok1 trivial) ?_
      refine x_store1 [] hF s7 (by kernel_rfl) (gyes_none rfl) (j := 1) (v := .slice (some ⟨bo, 0, none⟩) m m) rfl Try.sizeOf24 rfl rfl rfl (lc_slice (s7.live (j := 0) rfl)) (Nat.le_of_ble_eq_true rfl) trivial trivial rfl rfl (F' := [(bo, .cells true (fl spc o) 2), (bs, .cells true [.slice (some ⟨bo, 0, none⟩) m m] 1), (bl, .cells true (fl spc l') 2)]) rfl (fun H32 s33 => ⟨?_, ?_⟩)
      · exact trivial
      have hoj : o = joinS l' := by rw [ho.1]; unfold joinS; rw [List.take_of_length_le (by omega)]
      refine ⟨_, Wk.refl _ _, ?_⟩
      repeat (with_reducible first | refine then_ret ?_ | refine blk_ret ?_ | refine then_exit ?_ | refine blk_exit ?_ | refine blk_exit' (by decide) ?_ | refine blk_normal ?_ | refine then_normal ?_ | refine retq_ret ?_ | refine retq_normal ?_ | refine ng_normal ?_ | refine ng_ret ?_ | refine ng_exit ?_)
      refine ret_is (v := .tuple #[]) rfl .nil rfl ?_
      exact ⟨l', _, rfl, hperm, hsort, s33.kp, s33.own _ (List.mem_of_getElem? (i := 0) rfl), s33.nej (i := 0) (j := 1) rfl rfl (by decide), by rw [← hoj, ← ho.2.1]; exact s33.getj (j := 1) rfl, by rw [← hoj]; exact s33.getj (j := 0) rfl⟩
set_option maxRecDepth 100000 in
set_option maxHeartbeats 4000000 in
theorem add_ok {H0 : AHeap} (bs bl : Nat) (l : List Sp) (hl : l.length ≤ 900) (hnd : [bs, bl].Nodup) (h1 : H0[bs]? = some (.cells true [.slice (some ⟨bl, 0, none⟩) l.length l.length] 1)) (h2 : H0[bl]? = some (.cells true (fl spc l) 2)) (x : Sp) : ACalls Try.prog 9 [.pointer (some ⟨bs, 0, none⟩), .agg #[.int .u64 ((x.1 : Nat) : Int), .int .u64 ((x.2 : Nat) : Int)]] H0 (fun v H' => ∃ (ok : Bool) (L : List Sp) (bn : Nat), v = .bool ok ∧ AddR l x ok L ∧ Kp (· ∈ [bs, bl]) H0 H' ∧ (H0.length ≤ bn ∨ bn ∈ [bs, bl]) ∧ bn ≠ bs ∧ H'[bs]? = some (.cells true [.slice (some ⟨bn, 0, none⟩) L.length L.length] 1) ∧ H'[bn]? = some (.cells true (fl spc L) 2)) := by
  have hF : Wd Fence.wide := .inl rfl
  have hM : Try.prog.follows .mixedOrders = true := by kernel_rfl
  have s0 : St H0 (· ∈ [bs, bl]) (Off H0 [bs, bl]) H0 [(bs, .cells true [.slice (some ⟨bl, 0, none⟩) l.length l.length] 1), (bl, .cells true (fl spc l) 2)] := St.beginL [(bs, .cells true [.slice (some ⟨bl, 0, none⟩) l.length l.length] 1), (bl, .cells true (fl spc l) 2)] hnd (allAt_mem ⟨h1, h2, trivial⟩)
  refine acalls_st Try.func9 rfl Try.ntmps9 rfl ?_
  refine awp_seq ?_
  refine awp_regs hF ?_
  refine x_new (fun b => .pointer (some ⟨b, 0, none⟩)) s0 (gyes_none rfl) (q_box (v := .agg #[.int .u64 ((x.1 : Nat) : Int), .int .u64 ((x.2 : Nat) : Int)]) (vs := [.int .u64 ((x.1 : Nat) : Int), .int .u64 ((x.2 : Nat) : Int)]) 2 rfl (by exact trivial) rfl) rfl (by decide) (cok1 trivial) (fun b1 H2 hb4 s3 => ?_)
  refine dv (gyes_none rfl) (q_as (v := .bool false) rfl) rfl (by decide) (cok1 (cconst rfl)) ?_
  refine ⟨_, Wk.refl _ _, ?_⟩
  show awp _ _ _ _ _ _ _
  refine awp_seq ?_
  refine awp_seq ?_
  refine awp_regs hF ?_
  refine dv (gyes_none rfl) (q_mv (v := .pointer (some ⟨bs, 0, none⟩)) rfl) rfl (by decide) (cok1 trivial) ?_
  refine dv (gyes_none rfl) (q_ptrnil_f Try.underlying49 rfl (s3.live (j := 1) rfl) rfl) rfl (by decide) (cok2 trivial (cconst rfl)) ?_
  refine dv (gyes_none rfl) (q_mv (v := .bool false) rfl) rfl (by decide) (cok1 trivial) ?_
  refine dv (gyes_some rfl rfl) (q_loadAgg Try.isAgg30 Try.sizeOf30 rfl (s3.rd (j := 0) rfl) (Nat.le_of_ble_eq_true rfl) rfl) rfl (by decide) (cok1 trivial) ?_
  refine dvb (gyes_some rfl rfl) (q_call0 Try.call27 rfl (empty_ok x)) rfl (by decide) (cok2 trivial trivial) (fun c1 => ?_) (fun c1 => ?_)
  ·
    replace c1 := of_decide_eq_true c1
    refine dv (gyes_none rfl) (q_pf (v := .bool true) rfl rfl) rfl (by decide) (call_ok rfl) ?_
    refine dv (gyes_none rfl) (q_mv (v := .bool true) rfl) rfl (by decide) (cok1 trivial) ?_
    refine dno rfl (.inl rfl) rfl (by decide) ?_
    refine dno rfl (.inl rfl) rfl (by decide) ?_
    refine dno rfl (.inl rfl) rfl (by decide) ?_
    refine dv (gyes_none rfl) (q_pt (v := .bool true) rfl rfl) rfl (by decide) (call_ok rfl) ?_
    refine ⟨_, Wk.refl _ _, ?_⟩
    show awp _ _ _ _ _ _ _
    refine awp_cond_t rfl ?_
    refine awp_seq ?_
    refine awp_regs hF ?_
    refine dv (gyes_none rfl) (q_as (v := .bool false) rfl) rfl (by decide) (cok1 (cconst rfl)) ?_
    refine ⟨_, Wk.refl _ _, ?_⟩
    show awp _ _ _ _ _ _ _
    refine awp_ret_wk ?_
    refine ⟨_, Wk.refl _ _, ?_⟩
    repeat (with_reducible first | refine then_ret ?_ | refine blk_ret ?_ | refine then_exit ?_ | refine blk_exit ?_ | refine blk_exit' (by decide) ?_ | refine blk_normal ?_ | refine then_normal ?_ | refine retq_ret ?_ | refine retq_normal ?_ | refine ng_normal ?_ | refine ng_ret ?_ | refine ng_exit ?_)
    refine ret_is (v := .bool false) rfl (.tmp rfl .nil) rfl ?_
    exact ⟨_, _, _, rfl, .inl ⟨rfl, by first | exact .inl (by assumption) | exact .inr (by assumption), rfl⟩, s3.kp, s3.own _ (List.mem_of_getElem? (i := 2) rfl), s3.nej (i := 2) (j := 1) rfl rfl (by decide), s3.getj (j := 1) rfl, s3.getj (j := 2) rfl⟩
  ·
    replace c1 := of_decide_eq_false c1
    refine dv (gyes_none rfl) (q_pf (v := .bool false) rfl rfl) rfl (by decide) (call_ok rfl) ?_
    refine dv (gyes_none rfl) (q_mv (v := .bool false) rfl) rfl (by decide) (cok1 trivial) ?_
    refine dv (gyes_some rfl rfl) (q_mv (v := .pointer (some ⟨bs, 0, none⟩)) rfl) rfl (by decide) (cok1 trivial) ?_
    refine dv (gyes_some rfl rfl) (q_loadAgg Try.isAgg30 Try.sizeOf30 rfl (s3.rd (j := 0) rfl) (Nat.le_of_ble_eq_true rfl) rfl) rfl (by decide) (cok1 trivial) ?_
    refine dvb (gyes_some rfl rfl) (q_call0 Try.call20 rfl (meets_ok bs _ l (s3.rd (j := 1) rfl) (s3.slsj (l := l) spc_w (j := 2) rfl rfl (Nat.le_refl _)) (by omega) x)) rfl (by decide) (call_ok rfl) (fun c2 => ?_) (fun c2 => ?_)
    ·
      refine dv (gyes_none rfl) (q_pf (v := .bool true) rfl rfl) rfl (by decide) (call_ok rfl) ?_
      refine ⟨_, Wk.refl _ _, ?_⟩
      show awp _ _ _ _ _ _ _
      refine awp_cond_t rfl ?_
      refine awp_seq ?_
      refine awp_regs hF ?_
      refine dv (gyes_none rfl) (q_as (v := .bool false) rfl) rfl (by decide) (cok1 (cconst rfl)) ?_
      refine ⟨_, Wk.refl _ _, ?_⟩
      show awp _ _ _ _ _ _ _
      refine awp_ret_wk ?_
      refine ⟨_, Wk.refl _ _, ?_⟩
      repeat (with_reducible first | refine then_ret ?_ | refine blk_ret ?_ | refine then_exit ?_ | refine blk_exit ?_ | refine blk_exit' (by decide) ?_ | refine blk_normal ?_ | refine then_normal ?_ | refine retq_ret ?_ | refine retq_normal ?_ | refine ng_normal ?_ | refine ng_ret ?_ | refine ng_exit ?_)
      refine ret_is (v := .bool false) rfl (.tmp rfl .nil) rfl ?_
      exact ⟨_, _, _, rfl, .inl ⟨rfl, by first | exact .inl (by assumption) | exact .inr (by assumption), rfl⟩, s3.kp, s3.own _ (List.mem_of_getElem? (i := 2) rfl), s3.nej (i := 2) (j := 1) rfl rfl (by decide), s3.getj (j := 1) rfl, s3.getj (j := 2) rfl⟩
    ·
      refine dv (gyes_none rfl) (q_pf (v := .bool false) rfl rfl) rfl (by decide) (call_ok rfl) ?_
      refine ⟨_, Wk.refl _ _, ?_⟩
      show awp _ _ _ _ _ _ _
      refine awp_cond_f rfl ?_
      refine awp_skip_wk ?_
      refine ⟨_, Wk.refl _ _, ?_⟩
      show awp _ _ _ _ _ _ _
      refine awp_seq ?_
      refine awp_regt hF hM (by kernel_rfl) (by kernel_rfl) ?_
      refine dv (gyes_none rfl) (q_mv (v := .pointer (some ⟨bs, 0, none⟩)) rfl) rfl (by decide) (cok1 trivial) ?_
      refine dv (gyes_none rfl) (q_mv (v := .pointer (some ⟨bs, 0, none⟩)) rfl) rfl (by decide) (cok1 trivial) ?_
      refine dv (gyes_none rfl) (q_nilCheck rfl (s3.live (j := 1) rfl)) rfl (by decide) (cok1 trivial) ?_
      refine dv (gyes_none rfl) (q_field Try.underlying26 rfl Try.sizeOf24 rfl (s3.rd (j := 1) rfl)) rfl (by decide) (cok1 trivial) ?_
      refine dv (gyes_none rfl) (q_load (v := .slice (some ⟨bl, 0, none⟩) l.length l.length) Try.isAgg24 rfl (s3.rd (j := 1) rfl) rfl) rfl (by decide) (cok1 trivial) ?_
      refine dv (gyes_none rfl) (q_loadAgg Try.isAgg30 Try.sizeOf30 rfl (s3.rd (j := 0) rfl) (Nat.le_of_ble_eq_true rfl) rfl) rfl (by decide) (cok1 trivial) ?_
      refine x_new (fun b => .slice (some ⟨b, 0, none⟩) 1 1) s3 (gyes_none rfl) (q_buildSliceL (ds := [.int .u64 ((x.1 : Nat) : Int), .int .u64 ((x.2 : Nat) : Int)]) [.agg #[.int .u64 ((x.1 : Nat) : Int), .int .u64 ((x.2 : Nat) : Int)]] rfl Try.underlying24 Try.sizeOf30 Try.zeroValue30 rfl (by decide) (by decide) ⟨rfl, trivial⟩ (lvsC (by exact trivial) lvs0) rfl rfl) rfl (by decide) (cok1 trivial) (fun b5 H6 hb8 s7 => ?_)
      refine x_appendS (m := 2) (l := [(x.1, x.2)]) (l0 := l) (l' := l ++ [x]) (f := spc) [0] hF s7 (by kernel_rfl) (j := 3) (l.length + 1) rfl (gyes_none rfl) Try.underlying24 Try.underlying24 Try.type30 rfl rfl (by decide) rfl spc_w rfl rfl rfl (s7.slsj (l := [(x.1, x.2)]) spc_w (j := 0) rfl rfl (Nat.le_refl _)) (fun x _ u hu => lc_scalar (spc_sc x u hu)) rfl (by show (2 * (l.length + 1) + 1000) * 16 ≤ _; omega) trivial trivial (by decide) rfl rfl rfl (fun b9 H10 hb12 s11 => ⟨?_, ?_⟩)
      · exact ⟨pend_yes rfl (gyes_none rfl) (q_mv (v := .pointer (some ⟨bs, 0, none⟩)) rfl) rfl (by decide) (cok1 trivial) rfl, trivial⟩
      refine dv (gyes_none rfl) (q_nilCheck rfl (s11.live (j := 2) rfl)) rfl (by decide) (cok1 trivial) ?_
      refine dv (gyes_none rfl) (q_field Try.underlying26 rfl Try.sizeOf24 rfl (s11.rd (j := 2) rfl)) rfl (by decide) (cok1 trivial) ?_
      refine x_store1 [] hF s11 (by kernel_rfl) (gyes_none rfl) (j := 2) (v := .slice (some ⟨b9, 0, none⟩) (l.length + 1) (l.length + 1)) rfl Try.sizeOf24 rfl rfl rfl (lc_slice (s11.live (j := 3) rfl)) (Nat.le_of_ble_eq_true rfl) trivial trivial rfl rfl (F' := [(b5, .cells true [.int .u64 ((x.1 : Nat) : Int), .int .u64 ((x.2 : Nat) : Int)] 2), (b1, .cells true [.int .u64 ((x.1 : Nat) : Int), .int .u64 ((x.2 : Nat) : Int)] 2), (bs, .cells true [.slice (some ⟨b9, 0, none⟩) (l.length + 1) (l.length + 1)] 1), (b9, .cells true (fl spc (l ++ [x])) 2)]) rfl (fun H13 s14 => ⟨?_, ?_⟩)
      · exact trivial
      refine ⟨_, Wk.refl _ _, ?_⟩
      show awp _ _ _ _ _ _ _
      refine awp_seq ?_
      refine awp_regs hF ?_
      refine dv (gyes_none rfl) (q_mv (v := .pointer (some ⟨bs, 0, none⟩)) rfl) rfl (by decide) (cok1 trivial) ?_
      refine x_call [] hF (by kernel_rfl) (gyes_none rfl) Try.call28 rfl (args := [.pointer (some ⟨bs, 0, none⟩)]) rfl (setSort_ok bs b9 (l ++ [x]) (by rw [List.length_append]; show _ + 1 ≤ _; omega) (nod2 (s14.nej (i := 2) (j := 3) rfl rfl (by decide))) (by rw [List.length_append]; exact s14.getj (j := 2) rfl) (s14.getj (j := 3) rfl) (by rw [List.length_append]; show 0 < _ + 1; omega)) (show _ < _ by decide) (call_ok rfl) rfl rfl (fun _ _ _ _ hd => by cases hd) ?_
      rintro _ H15 ⟨l', b16, rfl, hperm, hsort, hk17, ho18, hn19, h20, h21⟩
      have s22 := s14.turn2 (j9 := 2) (jl := 3) rfl rfl (by decide) hk17 ho18 hn19 h20 h21
      refine ⟨trivial, ?_⟩
      show dList _ _ _ _ _ _ _ _ _ _
      refine ⟨_, Wk.refl _ _, ?_⟩
      show awp _ _ _ _ _ _ _
      refine awp_seq ?_
      refine awp_regs hF ?_
      refine dv (gyes_none rfl) (q_as (v := .bool true) rfl) rfl (by decide) (cok1 (cconst rfl)) ?_
      refine ⟨_, Wk.refl _ _, ?_⟩
      show awp _ _ _ _ _ _ _
      refine awp_ret_wk ?_
      refine ⟨_, Wk.refl _ _, ?_⟩
      repeat (with_reducible first | refine then_ret ?_ | refine blk_ret ?_ | refine then_exit ?_ | refine blk_exit ?_ | refine blk_exit' (by decide) ?_ | refine blk_normal ?_ | refine then_normal ?_ | refine retq_ret ?_ | refine retq_normal ?_ | refine ng_normal ?_ | refine ng_ret ?_ | refine ng_exit ?_)
      refine ret_is (v := .bool true) rfl (.tmp rfl .nil) rfl ?_
      exact ⟨_, _, _, rfl, .inr ⟨rfl, by omega, by assumption, l', hperm, hsort, rfl⟩, s22.kp, s22.own _ (List.mem_of_getElem? (i := 3) rfl), s22.nej (i := 3) (j := 2) rfl rfl (by decide), s22.getj (j := 2) rfl, s22.getj (j := 3) rfl⟩
end Go.Proofs.YtjgeheookgogaaaA


/-
  Walks of functions of the given program, and what they compute.
-/
namespace Go.Proofs.YtjgeheookgogaaaA
set_option linter.unusedVariables false
open Go Go.RowKit Go.Shelf Go.Proofs
def sumS (l : List Sp) : Nat → Nat
  | 0 => 0
  | k + 1 => sumS l k + ((nth l k).2 - (nth l k).1)
def fitS (n al : Nat) (iv : Sp) (l : List Sp) : Nat → Nat × Bool
  | 0 => upV iv.1 al
  | k + 1 => if meetsB ((fitS n al iv l k).1, ((fitS n al iv l k).1 + n) % 18446744073709551616) (nth l k) = true then upV (nth l k).2 al else fitS n al iv l k
def stopS (n : Nat) (iv : Sp) (s : Nat × Bool) : Bool := !s.2 || decide (iv.2 ≤ s.1) || decide (iv.2 - s.1 < n)
def fitV (n al : Nat) (iv : Sp) (l : List Sp) : Nat × Bool := if n = 0 ∨ al = 0 then (0, false) else if (List.range (l.length + 1)).any (fun k => stopS n iv (fitS n al iv l k)) = true then (0, false) else ((fitS n al iv l l.length).1, true)
theorem fit_y {n al : Nat} {iv : Sp} {l : List Sp} {k a : Nat} {o : Bool} (h : (a, o) = fitS n al iv l k) (hm : meetsB (a, (a + n) % 18446744073709551616) (nth l k) = true) : upV (nth l k).2 al = fitS n al iv l (k + 1) := by
  show _ = if _ then _ else _
  rw [← h, if_pos hm]
theorem fit_n {n al : Nat} {iv : Sp} {l : List Sp} {k a : Nat} {o : Bool} (h : (a, o) = fitS n al iv l k) (hm : meetsB (a, (a + n) % 18446744073709551616) (nth l k) = false) : (a, o) = fitS n al iv l (k + 1) := by
  show _ = if _ then _ else _
  rw [← h, if_neg (by rw [hm]; exact fun h => nomatch h)]
theorem fitV_z {n al : Nat} {iv : Sp} {l : List Sp} (h : n = 0 ∨ al = 0) : fitV n al iv l = (0, false) := if_pos h
theorem fitV_s {n al : Nat} {iv : Sp} {l : List Sp} {k : Nat} (hk : k ≤ l.length) (h : stopS n iv (fitS n al iv l k) = true) : fitV n al iv l = (0, false) := by
  unfold fitV
  split
  · rfl
  · rw [if_pos (List.any_eq_true.2 ⟨k, List.mem_range.2 (by omega), h⟩)]
theorem fitV_t {n al : Nat} {iv : Sp} {l : List Sp} (h0 : ¬ (n = 0 ∨ al = 0)) (h : ∀ k, k < l.length + 1 → stopS n iv (fitS n al iv l k) = false) : fitV n al iv l = ((fitS n al iv l l.length).1, true) := by
  unfold fitV
  rw [if_neg h0, if_neg]
  intro h2
  obtain ⟨k, hk, h3⟩ := List.any_eq_true.1 h2
  rw [h k (List.mem_range.1 hk)] at h3
  exact nomatch h3
theorem stop_o {n : Nat} {iv : Sp} {a : Nat} {o : Bool} (h : o = false) : stopS n iv (a, o) = true := by subst h; rfl
theorem stop_a {n : Nat} {iv : Sp} {a : Nat} {o : Bool} (h : iv.2 ≤ a) : stopS n iv (a, o) = true := by unfold stopS; rw [decide_eq_true h]; simp
theorem stop_n {n : Nat} {iv : Sp} {a : Nat} {o : Bool} (h : iv.2 - a < n) : stopS n iv (a, o) = true := by unfold stopS; rw [decide_eq_true h]; simp
theorem stop_f {n : Nat} {iv : Sp} {a : Nat} {o : Bool} (h1 : o = true) (h2 : ¬ iv.2 ≤ a) (h3 : ¬ iv.2 - a < n) : stopS n iv (a, o) = false := by subst h1; unfold stopS; rw [decide_eq_false h2, decide_eq_false h3]; rfl
theorem upV_lt {a n : Nat} (ha : a < 18446744073709551616) : (upV a n).1 < 18446744073709551616 := by
  unfold upV; split
  · exact ha
  · exact Nat.mod_lt _ (by decide)
def p2 (x o : Sp) (i : Nat) : Sp := if i = 0 then (o.1, x.1) else (x.2, o.2)
def remP (x o : Sp) : Nat → List Sp
  | 0 => []
  | i + 1 => if (p2 x o i).2 ≤ (p2 x o i).1 then remP x o i else remP x o i ++ [p2 x o i]
def remA (x : Sp) (l : List Sp) : Nat → List Sp
  | 0 => []
  | k + 1 => if withinB x (nth l k) = true then remA x l k ++ remP x (nth l k) 2 else remA x l k ++ [nth l k]
theorem remP_e {x o : Sp} {i : Nat} (h : (p2 x o i).2 ≤ (p2 x o i).1) : remP x o (i + 1) = remP x o i := if_pos h
theorem remP_f {x o : Sp} {i : Nat} (h : ¬ (p2 x o i).2 ≤ (p2 x o i).1) : remP x o (i + 1) = remP x o i ++ [p2 x o i] := if_neg h
theorem remA_y {x : Sp} {l : List Sp} {k : Nat} (h : withinB x (nth l k) = true) : remA x l (k + 1) = remA x l k ++ remP x (nth l k) 2 := if_pos h
theorem remA_n {x : Sp} {l : List Sp} {k : Nat} (h : withinB x (nth l k) = false) : remA x l (k + 1) = remA x l k ++ [nth l k] := if_neg (by rw [h]; exact fun h => nomatch h)
theorem remP_len (x o : Sp) : ∀ i, (remP x o i).length ≤ i
  | 0 => Nat.le_refl _
  | i + 1 => by
    have := remP_len x o i
    unfold remP; split
    · omega
    · rw [List.length_append]; exact Nat.succ_le_succ this
theorem remA_len (x : Sp) (l : List Sp) : ∀ k, (remA x l k).length ≤ 2 * k
  | 0 => Nat.le_refl _
  | k + 1 => by
    have := remA_len x l k
    have h2 := remP_len x (nth l k) 2
    unfold remA; split
    · rw [List.length_append]; omega
    · rw [List.length_append]; show _ + 1 ≤ _; omega
theorem p2X (x o : Sp) : ∀ i, i < 2 → (#[.int .u64 ((o.1 : Nat) : Int), .int .u64 ((x.1 : Nat) : Int), .int .u64 ((x.2 : Nat) : Int), .int .u64 ((o.2 : Nat) : Int)] : Array Value).extract (i * 2) (i * 2 + 2) = #[.int .u64 (((p2 x o i).1 : Nat) : Int), .int .u64 (((p2 x o i).2 : Nat) : Int)]
  | 0, _ => rfl
  | 1, _ => rfl
  | n + 2, h => by omega
def RemR (l : List Sp) (x : Sp) (ok : Bool) (L : List Sp) : Prop := (ok = false ∧ (x.2 ≤ x.1 ∨ (decide (x.2 ≤ x.1) || l.any (withinB x)) = false) ∧ L = l) ∨ (ok = true ∧ x.1 < x.2 ∧ (decide (x.2 ≤ x.1) || l.any (withinB x)) = true ∧ L = remA x l l.length)
set_option maxRecDepth 100000 in
set_option maxHeartbeats 4000000 in
theorem all_ok {H0 : AHeap} (bs : Nat) (vL : Value) (hs_ : Rd H0 bs [vL] 1) : ACalls Try.prog 11 [.pointer (some ⟨bs, 0, none⟩)] H0 (fun v H' => ∃ bc, v = .func (.func 29) #[] #[.pointer (some ⟨bc, 0, none⟩)] ∧ NewL H0 H' [(bc, .cells true [.pointer (some ⟨bs, 0, none⟩)] 1)]) := by
  have hF : Wd Fence.wide := .inl rfl
  have hM : Try.prog.follows .mixedOrders = true := by kernel_rfl
  have s0 := St.begin H0
  refine acalls_st Try.func11 rfl Try.ntmps11 rfl ?_
  refine awp_seq ?_
  refine awp_regs hF ?_
  refine x_new (fun b => .pointer (some ⟨b, 0, none⟩)) s0 (gyes_none rfl) (q_box (v := .pointer (some ⟨bs, 0, none⟩)) (vs := [.pointer (some ⟨bs, 0, none⟩)]) 1 rfl (Rd.live (s0.zrd hs_)) rfl) rfl (by decide) (cok1 trivial) (fun b1 H2 hb4 s3 => ?_)
  refine dv (gyes_none rfl) (q_as (v := .nilFunc) rfl) rfl (by decide) (cok1 (cconst rfl)) ?_
  refine ⟨_, Wk.refl _ _, ?_⟩
  show awp _ _ _ _ _ _ _
  refine awp_seq ?_
  refine awp_regs hF ?_
  refine dv (gyes_none rfl) (q_makeFuncL [.pointer (some ⟨b1, 0, none⟩)] ⟨rfl, trivial⟩) rfl (by decide) (cok1 trivial) ?_
  refine dv (gyes_none rfl) (q_as (v := .func (.func 29) #[] #[.pointer (some ⟨b1, 0, none⟩)]) rfl) rfl (by decide) (cok1 trivial) ?_
  refine ⟨_, Wk.refl _ _, ?_⟩
  show awp _ _ _ _ _ _ _
  refine awp_ret_wk ?_
  refine ⟨_, Wk.refl _ _, ?_⟩
  repeat (with_reducible first | refine then_ret ?_ | refine blk_ret ?_ | refine then_exit ?_ | refine blk_exit ?_ | refine blk_exit' (by decide) ?_ | refine blk_normal ?_ | refine then_normal ?_ | refine retq_ret ?_ | refine retq_normal ?_ | refine ng_normal ?_ | refine ng_ret ?_ | refine ng_exit ?_)
  refine ret_is (v := .func (.func 29) #[] #[.pointer (some ⟨b1, 0, none⟩)]) rfl (.tmp rfl .nil) rfl ?_
  exact ⟨_, rfl, s3.newL⟩
set_option maxRecDepth 100000 in
set_option maxHeartbeats 4000000 in
theorem alls1_ok {H0 : AHeap} (bc bs : Nat) (vL : Value) (l : List Sp) (hl : l.length ≤ 1000000) (y : Value) (Iv E' : Nat → AHeap → Prop) (h0 : Iv 0 H0) (hm : ∀ i H H', Iv i H → K0 H H' → Iv i H')
    (hb : ∀ i H, Iv i H → Rd H bc [.pointer (some ⟨bs, 0, none⟩)] 1 ∧ Rd H bs [vL] 1 ∧ SlS spc 2 H vL l)
    (hy : ∀ i H, Iv i H → i < l.length → Ylds Try.prog y [.agg (spc (nth l i)).toArray] H (fun b H' => (b = true → Iv (i + 1) H') ∧ (b = false → E' (i + 1) H'))) : ACalls Try.prog 29 [y, .pointer (some ⟨bc, 0, none⟩)] H0 (fun v H' => v = .tuple #[] ∧ (Iv l.length H' ∨ ∃ i, i < l.length ∧ E' (i + 1) H')) := by
  have hF : Wd Fence.wide := .inl rfl
  have hM : Try.prog.follows .mixedOrders = true := by kernel_rfl
  have s0 := St.begin H0
  obtain ⟨hc_, hs_, hL⟩ := hb _ _ h0
  refine acalls_st Try.func29 rfl Try.ntmps29 rfl ?_
  refine awp_seq ?_
  refine awp_seq ?_
  refine awp_regs hF ?_
  refine dv (gyes_none rfl) (q_load (v := .pointer (some ⟨bs, 0, none⟩)) Try.isAgg49 rfl (s0.zrd hc_) rfl) rfl (by decide) (cok1 trivial) ?_
  refine dv (gyes_none rfl) (q_ptrnil_f Try.underlying49 rfl (Rd.live (s0.zrd hs_)) rfl) rfl (by decide) (cok2 trivial (cconst rfl)) ?_
  refine ⟨_, Wk.refl _ _, ?_⟩
  show awp _ _ _ _ _ _ _
  refine awp_cond_f rfl ?_
  refine awp_skip_wk ?_
  refine ⟨_, Wk.refl _ _, ?_⟩
  show awp _ _ _ _ _ _ _
  refine awp_seq ?_
  refine awp_regs hF ?_
  refine dv (gyes_none rfl) (q_load (v := .pointer (some ⟨bs, 0, none⟩)) Try.isAgg49 rfl (s0.zrd hc_) rfl) rfl (by decide) (cok1 trivial) ?_
  refine dv (gyes_none rfl) (q_nilCheck rfl (Rd.live (s0.zrd hs_))) rfl (by decide) (cok1 trivial) ?_
  refine dv (gyes_none rfl) (q_field Try.underlying26 rfl Try.sizeOf24 rfl (s0.zrd hs_)) rfl (by decide) (cok1 trivial) ?_
  refine dv (gyes_none rfl) (q_load (v := vL) Try.isAgg24 rfl (s0.zrd hs_) rfl) rfl (by decide) (cok1 trivial) ?_
  refine dv (gyes_none rfl) (q_len_sls (l := l) Try.underlying24 (hL) rfl) rfl (by decide) (cok1 trivial) ?_
  refine dv (gyes_none rfl) (q_mv (v := .int .i64 0) rfl) rfl (by decide) (cok1 (cconst rfl)) ?_
  refine ⟨_, Wk.refl _ _, ?_⟩
  show awp _ _ _ _ _ _ _
  refine awp_block ?_
  refine awp_wk (Wk.U [(0, y), (1, .pointer (some ⟨bc, 0, none⟩)), (10, vL), (11, .int .i64 ((l.length : Nat) : Int)), (12, .int .i64 0)] ⟨rfl, rfl, rfl, rfl, rfl, trivial⟩) ?_
  refine awp_loop (fun (i : Nat) st => ∃ (H1 : AHeap), st = ⟨21, U [(0, y), (1, .pointer (some ⟨bc, 0, none⟩)), (10, vL), (11, .int .i64 ((l.length : Nat) : Int)), (12, .int .i64 ((i : Nat) : Int))], [], H1⟩ ∧ St H1 (none0) (Rd H1) H1 [] ∧ (i ≤ l.length ∧ Iv i H1)) (fun (i : Nat) => l.length - i) (x0 := (0)) ?h0 ?round
  case h0 =>
    exact ⟨_, rfl, s0, ⟨Nat.zero_le _, hm _ _ _ h0 s0.kp⟩⟩
  case round =>
    rintro i _ ⟨H1, rfl, s2, hI⟩
    obtain ⟨hc_, hs_, hL⟩ := hb _ _ hI.2
    refine awp_seq ?_
    refine awp_regs hF ?_
    refine dvb (gyes_none rfl) (q_int rfl rfl rfl) rfl (by decide) (cok2 trivial trivial) (fun c1 => ?_) (fun c1 => ?_)
    ·
      replace c1 := of_decide_eq_true c1
      refine ⟨_, Wk.refl _ _, ?_⟩
      show awp _ _ _ _ _ _ _
      refine awp_seq ?_
      refine awp_cond_t rfl ?_
      refine awp_skip_wk ?_
      refine ⟨_, Wk.refl _ _, ?_⟩
      show awp _ _ _ _ _ _ _
      refine awp_seq ?_
      refine awp_block ?_
      refine awp_seq ?_
      refine awp_regs hF ?_
      refine dv (gyes_none rfl) (q_index_sls (l := l) (i := i) Try.underlying24 Try.sizeOf30 (hL) spc_w rfl rfl (by omega)) rfl (by decide) (cok2 trivial trivial) ?_
      refine dv (gyes_none rfl) (q_loadA_sls (l := l) (i := i) Try.isAgg30 Try.sizeOf30 (hL) spc_w rfl (by omega)) rfl (by decide) (cok1 trivial) ?_
      refine x_new (fun b => .pointer (some ⟨b, 0, none⟩)) s2 (gyes_none rfl) (q_alloc (vs := [.int .u64 0, .int .u64 0]) 2 Try.zeroValue30 (by first | exact flat_scalar rfl | exact flat_agg rfl) rfl) rfl (by decide) (by simp [Op.operands, Call.operands]) (fun b3 H4 hb6 s5 => ?_)
      refine x_store [] hF s5 (by kernel_rfl) (gyes_none rfl) (j := 0) (v := .agg #[.int .u64 (((nth l i).1 : Nat) : Int), .int .u64 (((nth l i).2 : Nat) : Int)]) rfl Try.sizeOf30 rfl rfl rfl rfl rfl trivial (lcsA ⟨(lc_scalar rfl), (lc_scalar rfl), trivial⟩) (Nat.le_of_ble_eq_true rfl) trivial trivial rfl rfl (F' := [(b3, .cells true [.int .u64 (((nth l i).1 : Nat) : Int), .int .u64 (((nth l i).2 : Nat) : Int)] 2)]) rfl (fun H7 s8 => ⟨?_, ?_⟩)
      · exact trivial
      refine ⟨_, Wk.refl _ _, ?_⟩
      show awp _ _ _ _ _ _ _
      refine awp_seq ?_
      refine awp_regs hF ?_
      refine dv (gyes_none rfl) (q_mv (v := y) rfl) rfl (by decide) (cok1 trivial) ?_
      refine dv (gyes_none rfl) (q_loadAgg Try.isAgg30 Try.sizeOf30 rfl (s8.rd (j := 0) rfl) (Nat.le_of_ble_eq_true rfl) rfl) rfl (by decide) (cok1 trivial) ?_
      refine x_yield [] (by kernel_rfl) (gyes_none rfl) (y := y) (args := [.agg #[.int .u64 (((nth l i).1 : Nat) : Int), .int .u64 (((nth l i).2 : Nat) : Int)]]) rfl rfl (hy i _ (hm _ _ _ hI.2 s8.kp) (by omega)) (show _ < _ by decide) (cok1 trivial) rfl rfl (fun y9 H10 hy11 => ⟨trivial, ?_⟩)
      show dList _ _ _ _ _ _ _ _ _ _
      cases y9
      case false =>
        refine dv (gyes_none rfl) (q_not (b := false) rfl) rfl (by decide) (cok1 trivial) ?_
        refine ⟨_, Wk.refl _ _, ?_⟩
        show awp _ _ _ _ _ _ _
        refine awp_cond_t rfl ?_
        refine awp_ret_wk ?_
        refine ⟨_, Wk.refl _ _, ?_⟩
        repeat (with_reducible first | refine then_ret ?_ | refine blk_ret ?_ | refine then_exit ?_ | refine blk_exit ?_ | refine blk_exit' (by decide) ?_ | refine blk_normal ?_ | refine then_normal ?_ | refine retq_ret ?_ | refine retq_normal ?_ | refine ng_normal ?_ | refine ng_ret ?_ | refine ng_exit ?_)
        refine ret_is (v := .tuple #[]) rfl .nil rfl ?_
        exact ⟨rfl, .inr ⟨i, by omega, hy11.2 rfl⟩⟩
      case true =>
        have h12 := hy11.1 rfl
        have s13 := St.begin H10
        refine dv (gyes_none rfl) (q_not (b := true) rfl) rfl (by decide) (cok1 trivial) ?_
        refine ⟨_, Wk.refl _ _, ?_⟩
        show awp _ _ _ _ _ _ _
        refine awp_cond_f rfl ?_
        refine awp_skip_wk ?_
        refine ⟨_, Wk.refl _ _, ?_⟩
        show awp _ _ _ _ _ _ _
        refine awp_regs hF ?_
        refine dv (gyes_none rfl) (OpQ.cast (v' := .int .i64 ((i + 1 : Nat) : Int)) (q_int rfl rfl rfl) (congrArg _ ((i64_in (by omega)).trans (by first | rfl | omega | (push_cast; rfl))))) rfl (by decide) (cok2 trivial (cconst rfl)) ?_
        refine dv (gyes_none rfl) (q_mv (v := .int .i64 ((i + 1 : Nat) : Int)) rfl) rfl (by decide) (cok1 trivial) ?_
        refine ⟨_, Wk.U [(0, y), (1, .pointer (some ⟨bc, 0, none⟩)), (10, vL), (11, .int .i64 ((l.length : Nat) : Int)), (12, .int .i64 (((i + 1) : Nat) : Int))] ⟨rfl, rfl, rfl, rfl, rfl, trivial⟩, (i + 1), ⟨_, rfl, (St.begin _), ⟨by omega, h12⟩⟩, (by omega)⟩
    ·
      replace c1 := of_decide_eq_false c1
      refine ⟨_, Wk.refl _ _, ?_⟩
      show awp _ _ _ _ _ _ _
      refine awp_seq ?_
      refine awp_cond_f rfl ?_
      refine awp_exit_wk ?_
      refine ⟨_, Wk.refl _ _, ?_⟩
      repeat (with_reducible first | refine then_ret ?_ | refine blk_ret ?_ | refine then_exit ?_ | refine blk_exit ?_ | refine blk_exit' (by decide) ?_ | refine blk_normal ?_ | refine then_normal ?_ | refine retq_ret ?_ | refine retq_normal ?_ | refine ng_normal ?_ | refine ng_ret ?_ | refine ng_exit ?_)
      refine ret_is (v := .tuple #[]) rfl .nil rfl ?_
      obtain rfl : i = l.length := by omega
      exact ⟨rfl, .inl hI.2⟩
set_option maxRecDepth 100000 in
set_option maxHeartbeats 4000000 in
theorem slen_ok {H0 : AHeap} (bs : Nat) (vL : Value) (l : List Sp) (hs_ : Rd H0 bs [vL] 1) (hL : SlS spc 2 H0 vL l) (hl : l.length ≤ 1000000) (hlw : ∀ x ∈ l, SpW x) : ACalls Try.prog 15 [.pointer (some ⟨bs, 0, none⟩)] H0 (Rets (.int .u64 ((sumS l l.length % 18446744073709551616 : Nat) : Int)) H0) := by
  have hF : Wd Fence.wide := .inl rfl
  have hM : Try.prog.follows .mixedOrders = true := by kernel_rfl
  have s0 := St.begin H0
  refine acalls_st Try.func15 rfl Try.ntmps15 rfl ?_
  refine awp_seq ?_
  refine awp_regs hF ?_
  refine dv (gyes_none rfl) (q_as (v := .int .u64 0) rfl) rfl (by decide) (cok1 (cconst rfl)) ?_
  refine ⟨_, Wk.refl _ _, ?_⟩
  show awp _ _ _ _ _ _ _
  refine awp_seq ?_
  refine awp_regs hF ?_
  refine x_new (fun b => .pointer (some ⟨b, 0, none⟩)) s0 (gyes_none rfl) (q_alloc (vs := [.int .u64 0]) 1 Try.zeroValue27 (by first | exact flat_scalar rfl | exact flat_agg rfl) rfl) rfl (by decide) (by simp [Op.operands, Call.operands]) (fun b1 H2 hb4 s3 => ?_)
  refine x_store1 [] hF s3 (by kernel_rfl) (gyes_none rfl) (j := 0) (v := .int .u64 0) rfl Try.sizeOf27 rfl rfl rfl (lc_scalar rfl) (Nat.le_of_ble_eq_true rfl) trivial (cconst rfl) rfl rfl (F' := [(b1, .cells true [.int .u64 0] 1)]) rfl (fun H5 s6 => ⟨?_, ?_⟩)
  · exact trivial
  refine ⟨_, Wk.refl _ _, ?_⟩
  show awp _ _ _ _ _ _ _
  refine awp_seq ?_
  refine awp_seq ?_
  refine awp_regs hF ?_
  refine dv (gyes_none rfl) (q_mv (v := .pointer (some ⟨bs, 0, none⟩)) rfl) rfl (by decide) (cok1 trivial) ?_
  refine x_call [] hF (by kernel_rfl) (gyes_none rfl) Try.call11 rfl (args := [.pointer (some ⟨bs, 0, none⟩)]) rfl (all_ok bs _ (s6.zrd hs_)) (show _ < _ by decide) (call_ok rfl) rfl rfl (fun _ _ _ _ hd => by cases hd) ?_
  rintro _ H8 ⟨b7, rfl, hn9⟩
  have s10 := s6.callL hn9
  refine ⟨trivial, ?_⟩
  show dList _ _ _ _ _ _ _ _ _ _
  refine ⟨_, Wk.refl _ _, ?_⟩
  show awp _ _ _ _ _ _ _
  refine awp_block ?_
  refine range_st s10 rfl Try.call29 (fun fn11 lp12 d13 l14 H15 hlp16 hd17 s18 => ?_)
  refine (alls1_ok (H0 := H15) b7 bs vL l (by omega) _ (fun (k : Nat) (H19 : AHeap) => ∃ (e : Nat), St H0 (none0) (Rd H0) H19 [(l14, lp12 .ready none), (d13, .mark), (b7, .cells true [.pointer (some ⟨bs, 0, none⟩)] 1), (b1, .cells true [.int .u64 ((e : Nat) : Int)] 1)] ∧ (e = sumS l k % 18446744073709551616)) (fun _ _ => False) ?h00 (fun _ _ _ ⟨e, s_, he⟩ k_ => ⟨e, s_.call0 k_, he⟩) ?hb ?round).mono ?after
  case h00 => exact ⟨_, s18, rfl⟩
  case hb =>
    rintro k H19 ⟨e, s20, he⟩
    exact ⟨s20.rd (j := 2) rfl, (s20.zrd hs_), s20.sls hL⟩
  case round =>
    rintro k H19  ⟨e, s20, he⟩ hx
    refine ylds_roundB hlp16 (s20.getj (j := 0) rfl) rfl rfl (fun l21 hF => ?_)
    refine awp_regs hF ?_
    refine x_new (fun b => .pointer (some ⟨b, 0, none⟩)) s20 (gyes_none rfl) (q_alloc (vs := [.int .u64 0, .int .u64 0]) 2 Try.zeroValue30 (by first | exact flat_scalar rfl | exact flat_agg rfl) rfl) rfl (by decide) (by simp [Op.operands, Call.operands]) (fun b22 H23 hb25 s24 => ?_)
    refine x_store [] hF s24 (by kernel_rfl) (gyes_none rfl) (j := 0) (v := .agg #[.int .u64 (((nth l k).1 : Nat) : Int), .int .u64 (((nth l k).2 : Nat) : Int)]) rfl Try.sizeOf30 rfl rfl rfl rfl rfl trivial (lcsA ⟨(lc_scalar rfl), (lc_scalar rfl), trivial⟩) (Nat.le_of_ble_eq_true rfl) trivial trivial rfl rfl (F' := [(b22, .cells true [.int .u64 (((nth l k).1 : Nat) : Int), .int .u64 (((nth l k).2 : Nat) : Int)] 2), (l14, lp12 .ready none), (d13, .mark), (b7, .cells true [.pointer (some ⟨bs, 0, none⟩)] 1), (b1, .cells true [.int .u64 ((e : Nat) : Int)] 1)]) rfl (fun H26 s27 => ⟨?_, ?_⟩)
    · exact trivial
    refine ⟨_, Wk.refl _ _, ?_⟩
    refine then_normal ?_
    refine ⟨_, _, rfl, s27.getj (j := 1) rfl, ?body⟩
    case body =>
      have s28 := s27.setAt (j := 1) rfl (lp12 .busy none)
      show awp _ _ _ _ _ _ _
      refine awp_block ?_
      refine awp_regt hF hM (by kernel_rfl) (by kernel_rfl) ?_
      refine dv (gyes_none rfl) (q_load (v := .int .u64 ((e : Nat) : Int)) Try.isAgg27 rfl (s28.rd (j := 4) rfl) rfl) rfl (by decide) (cok1 trivial) ?_
      refine dv (gyes_none rfl) (q_loadAgg Try.isAgg30 Try.sizeOf30 rfl (s28.rd (j := 0) rfl) (Nat.le_of_ble_eq_true rfl) rfl) rfl (by decide) (cok1 trivial) ?_
      refine dv (gyes_none rfl) (q_call0 Try.call10 rfl (splen_ok (nth l k) (hlw _ (nthN_mem hx)))) rfl (by decide) (cok2 trivial trivial) ?_
      refine dv (gyes_none rfl) (OpQ.cast (v' := .int .u64 (((e + ((nth l k).2 - (nth l k).1)) % 18446744073709551616 : Nat) : Int)) (q_int rfl rfl rfl) (congrArg _ (wrapU64 (e + ((nth l k).2 - (nth l k).1))))) rfl (by decide) (cok2 trivial trivial) ?_
      refine x_store1 [] hF s28 (by kernel_rfl) (gyes_none rfl) (j := 4) (v := .int .u64 (((e + ((nth l k).2 - (nth l k).1)) % 18446744073709551616 : Nat) : Int)) rfl Try.sizeOf27 rfl rfl rfl (lc_scalar rfl) (Nat.le_of_ble_eq_true rfl) trivial trivial rfl rfl (F' := [(b22, .cells true [.int .u64 (((nth l k).1 : Nat) : Int), .int .u64 (((nth l k).2 : Nat) : Int)] 2), (l14, lp12 .busy none), (d13, .mark), (b7, .cells true [.pointer (some ⟨bs, 0, none⟩)] 1), (b1, .cells true [.int .u64 (((e + ((nth l k).2 - (nth l k).1)) % 18446744073709551616 : Nat) : Int)] 1)]) rfl (fun H29 s30 => ⟨?_, ?_⟩)
      · exact trivial
      refine ⟨_, Wk.refl _ _, ?_⟩
      repeat (with_reducible first | refine then_ret ?_ | refine blk_ret ?_ | refine then_exit ?_ | refine blk_exit ?_ | refine blk_exit' (by decide) ?_ | refine blk_normal ?_ | refine then_normal ?_ | refine retq_ret ?_ | refine retq_normal ?_ | refine ng_normal ?_ | refine ng_ret ?_ | refine ng_exit ?_)
      exact ⟨(s30.forget 0).getj (j := 0) rfl, (fun _ => ⟨_, ((s30.forget 0).setAt (j := 0) rfl (lp12 .ready none)), (by show _ = (sumS l k + ((nth l k).2 - (nth l k).1)) % _; omega)⟩), (fun h => nomatch h)⟩
  case after =>
    rintro v H' ⟨rfl, hpost⟩
    replace hpost := hpost.resolve_right (fun ⟨_, _, h⟩ => h)
    obtain ⟨e, s31, he⟩ := hpost
    refine ⟨(by
        intro e he
        rcases List.mem_cons.1 he with rfl | he
        · exact s31.getj (j := 1) rfl
        · cases he), .inl ⟨s31.getj (j := 0) rfl, ?_⟩⟩
    have s33 := (s31.setAt (j := 0) rfl .none).forget 0
    refine ⟨_, Wk.refl _ _, ?_⟩
    show awp _ _ _ _ _ _ _
    refine awp_seq ?_
    refine awp_regs hF ?_
    refine dv (gyes_none rfl) (q_load (v := .int .u64 ((e : Nat) : Int)) Try.isAgg27 rfl (s33.rd (j := 2) rfl) rfl) rfl (by decide) (cok1 trivial) ?_
    refine dv (gyes_none rfl) (q_as (v := .int .u64 ((e : Nat) : Int)) rfl) rfl (by decide) (cok1 trivial) ?_
    refine ⟨_, Wk.refl _ _, ?_⟩
    show awp _ _ _ _ _ _ _
    refine awp_ret_wk ?_
    refine ⟨_, Wk.refl _ _, ?_⟩
    repeat (with_reducible first | refine then_ret ?_ | refine blk_ret ?_ | refine then_exit ?_ | refine blk_exit ?_ | refine blk_exit' (by decide) ?_ | refine blk_normal ?_ | refine then_normal ?_ | refine retq_ret ?_ | refine retq_normal ?_ | refine ng_normal ?_ | refine ng_ret ?_ | refine ng_exit ?_)
    exact ret_noneD (v := .int .u64 ((e : Nat) : Int)) rfl (s33.setAt (j := 0) rfl .none).kp (.tmp rfl .nil) rfl rfl ⟨by rw [he], rfl⟩
set_option maxRecDepth 100000 in
set_option maxHeartbeats 4000000 in
theorem fit_ok {H0 : AHeap} (bs : Nat) (vL : Value) (l : List Sp) (hs_ : Rd H0 bs [vL] 1) (hL : SlS spc 2 H0 vL l) (hl : l.length ≤ 1000000) (hlw : ∀ x ∈ l, SpW x) (n al : Nat) (iv : Sp) (hn : n < 18446744073709551616) (hal : al < 18446744073709551616) (hiv : SpW iv) : ACalls Try.prog 23 [.pointer (some ⟨bs, 0, none⟩), .int .u64 ((n : Nat) : Int), .int .u64 ((al : Nat) : Int), .agg #[.int .u64 ((iv.1 : Nat) : Int), .int .u64 ((iv.2 : Nat) : Int)]] H0 (Rets (.tuple #[.int .u64 (((fitV n al iv l).1 : Nat) : Int), .bool (fitV n al iv l).2]) H0) := by
  have hF : Wd Fence.wide := .inl rfl
  have hM : Try.prog.follows .mixedOrders = true := by kernel_rfl
  obtain ⟨hiv1, hiv2⟩ := hiv
  have s0 := St.begin H0
  refine acalls_st Try.func23 rfl Try.ntmps23 rfl ?_
  refine awp_seq ?_
  refine awp_regs hF ?_
  refine x_new (fun b => .pointer (some ⟨b, 0, none⟩)) s0 (gyes_none rfl) (q_box (v := .int .u64 ((n : Nat) : Int)) (vs := [.int .u64 ((n : Nat) : Int)]) 1 rfl (by exact trivial) rfl) rfl (by decide) (cok1 trivial) (fun b1 H2 hb4 s3 => ?_)
  refine x_new (fun b => .pointer (some ⟨b, 0, none⟩)) s3 (gyes_none rfl) (q_box (v := .int .u64 ((al : Nat) : Int)) (vs := [.int .u64 ((al : Nat) : Int)]) 1 rfl (by exact trivial) rfl) rfl (by decide) (cok1 trivial) (fun b5 H6 hb8 s7 => ?_)
  refine x_new (fun b => .pointer (some ⟨b, 0, none⟩)) s7 (gyes_none rfl) (q_box (v := .agg #[.int .u64 ((iv.1 : Nat) : Int), .int .u64 ((iv.2 : Nat) : Int)]) (vs := [.int .u64 ((iv.1 : Nat) : Int), .int .u64 ((iv.2 : Nat) : Int)]) 2 rfl (by exact trivial) rfl) rfl (by decide) (cok1 trivial) (fun b9 H10 hb12 s11 => ?_)
  refine x_new (fun b => .pointer (some ⟨b, 0, none⟩)) s11 (gyes_none rfl) (q_alloc (vs := [.int .u64 0]) 1 Try.zeroValue27 (by first | exact flat_scalar rfl | exact flat_agg rfl) rfl) rfl (by decide) (by simp [Op.operands, Call.operands]) (fun b13 H14 hb16 s15 => ?_)
  refine x_new (fun b => .pointer (some ⟨b, 0, none⟩)) s15 (gyes_none rfl) (q_alloc (vs := [.bool false]) 1 Try.zeroValue4 (by first | exact flat_scalar rfl | exact flat_agg rfl) rfl) rfl (by decide) (by simp [Op.operands, Call.operands]) (fun b17 H18 hb20 s19 => ?_)
  refine ⟨_, Wk.refl _ _, ?_⟩
  show awp _ _ _ _ _ _ _
  refine awp_seq ?_
  refine awp_seq ?_
  refine awp_regs hF ?_
  refine dv (gyes_none rfl) (q_mv (v := .pointer (some ⟨bs, 0, none⟩)) rfl) rfl (by decide) (cok1 trivial) ?_
  refine dv (gyes_none rfl) (q_ptrnil_f Try.underlying49 rfl (Rd.live (s19.zrd hs_)) rfl) rfl (by decide) (cok2 trivial (cconst rfl)) ?_
  refine dv (gyes_none rfl) (q_mv (v := .bool false) rfl) rfl (by decide) (cok1 trivial) ?_
  refine dv (gyes_some rfl rfl) (q_load (v := .int .u64 ((n : Nat) : Int)) Try.isAgg27 rfl (s19.rd (j := 4) rfl) rfl) rfl (by decide) (cok1 trivial) ?_
  refine dvb (gyes_some rfl rfl) (q_int rfl rfl rfl) rfl (by decide) (cok2 trivial (cconst rfl)) (fun c1 => ?_) (fun c1 => ?_)
  ·
    replace c1 := eq_of_beq c1
    refine dv (gyes_none rfl) (q_pf (v := .bool true) rfl rfl) rfl (by decide) (call_ok rfl) ?_
    refine dv (gyes_none rfl) (q_mv (v := .bool true) rfl) rfl (by decide) (cok1 trivial) ?_
    refine dno rfl (.inl rfl) rfl (by decide) ?_
    refine dno rfl (.inl rfl) rfl (by decide) ?_
    refine dv (gyes_none rfl) (q_pt (v := .bool true) rfl rfl) rfl (by decide) (call_ok rfl) ?_
    refine ⟨_, Wk.refl _ _, ?_⟩
    show awp _ _ _ _ _ _ _
    refine awp_cond_t rfl ?_
    refine awp_seq ?_
    refine awp_regs hF ?_
    refine x_store1 [] hF s19 (by kernel_rfl) (gyes_none rfl) (j := 1) (v := .int .u64 0) rfl Try.sizeOf27 rfl rfl rfl (lc_scalar rfl) (Nat.le_of_ble_eq_true rfl) trivial (cconst rfl) rfl rfl (F' := [(b17, .cells true [.bool false] 1), (b13, .cells true [.int .u64 0] 1), (b9, .cells true [.int .u64 ((iv.1 : Nat) : Int), .int .u64 ((iv.2 : Nat) : Int)] 2), (b5, .cells true [.int .u64 ((al : Nat) : Int)] 1), (b1, .cells true [.int .u64 ((n : Nat) : Int)] 1)]) rfl (fun H21 s22 => ⟨?_, ?_⟩)
    · exact trivial
    refine x_store1 [] hF s22 (by kernel_rfl) (gyes_none rfl) (j := 0) (v := .bool false) rfl Try.sizeOf4 rfl rfl rfl (lc_scalar rfl) (Nat.le_of_ble_eq_true rfl) trivial (cconst rfl) rfl rfl (F' := [(b17, .cells true [.bool false] 1), (b13, .cells true [.int .u64 0] 1), (b9, .cells true [.int .u64 ((iv.1 : Nat) : Int), .int .u64 ((iv.2 : Nat) : Int)] 2), (b5, .cells true [.int .u64 ((al : Nat) : Int)] 1), (b1, .cells true [.int .u64 ((n : Nat) : Int)] 1)]) rfl (fun H23 s24 => ⟨?_, ?_⟩)
    · exact trivial
    refine ⟨_, Wk.refl _ _, ?_⟩
    show awp _ _ _ _ _ _ _
    refine awp_ret_wk ?_
    refine ⟨_, Wk.refl _ _, ?_⟩
    repeat (with_reducible first | refine then_ret ?_ | refine blk_ret ?_ | refine then_exit ?_ | refine blk_exit ?_ | refine blk_exit' (by decide) ?_ | refine blk_normal ?_ | refine then_normal ?_ | refine retq_ret ?_ | refine retq_normal ?_ | refine ng_normal ?_ | refine ng_ret ?_ | refine ng_exit ?_)
    exact ret_none (v := .tuple #[.int .u64 0, .bool false]) rfl s24.kp (.cell rfl Try.isAgg27 (s24.rd (j := 1) rfl) rfl (.cell rfl Try.isAgg4 (s24.rd (j := 0) rfl) rfl .nil)) rfl rfl ⟨by rw [fitV_z (by omega)]; first | done | rfl, rfl⟩
  ·
    replace c1 := ne_of_beq_false c1
    refine dv (gyes_none rfl) (q_pf (v := .bool false) rfl rfl) rfl (by decide) (call_ok rfl) ?_
    refine dv (gyes_none rfl) (q_mv (v := .bool false) rfl) rfl (by decide) (cok1 trivial) ?_
    refine dv (gyes_some rfl rfl) (q_load (v := .int .u64 ((al : Nat) : Int)) Try.isAgg27 rfl (s19.rd (j := 3) rfl) rfl) rfl (by decide) (cok1 trivial) ?_
    refine dvb (gyes_some rfl rfl) (q_int rfl rfl rfl) rfl (by decide) (cok2 trivial (cconst rfl)) (fun c2 => ?_) (fun c2 => ?_)
    ·
      replace c2 := eq_of_beq c2
      refine dv (gyes_none rfl) (q_pf (v := .bool true) rfl rfl) rfl (by decide) (call_ok rfl) ?_
      refine ⟨_, Wk.refl _ _, ?_⟩
      show awp _ _ _ _ _ _ _
      refine awp_cond_t rfl ?_
      refine awp_seq ?_
      refine awp_regs hF ?_
      refine x_store1 [] hF s19 (by kernel_rfl) (gyes_none rfl) (j := 1) (v := .int .u64 0) rfl Try.sizeOf27 rfl rfl rfl (lc_scalar rfl) (Nat.le_of_ble_eq_true rfl) trivial (cconst rfl) rfl rfl (F' := [(b17, .cells true [.bool false] 1), (b13, .cells true [.int .u64 0] 1), (b9, .cells true [.int .u64 ((iv.1 : Nat) : Int), .int .u64 ((iv.2 : Nat) : Int)] 2), (b5, .cells true [.int .u64 ((al : Nat) : Int)] 1), (b1, .cells true [.int .u64 ((n : Nat) : Int)] 1)]) rfl (fun H25 s26 => ⟨?_, ?_⟩)
      · exact trivial
      refine x_store1 [] hF s26 (by kernel_rfl) (gyes_none rfl) (j := 0) (v := .bool false) rfl Try.sizeOf4 rfl rfl rfl (lc_scalar rfl) (Nat.le_of_ble_eq_true rfl) trivial (cconst rfl) rfl rfl (F' := [(b17, .cells true [.bool false] 1), (b13, .cells true [.int .u64 0] 1), (b9, .cells true [.int .u64 ((iv.1 : Nat) : Int), .int .u64 ((iv.2 : Nat) : Int)] 2), (b5, .cells true [.int .u64 ((al : Nat) : Int)] 1), (b1, .cells true [.int .u64 ((n : Nat) : Int)] 1)]) rfl (fun H27 s28 => ⟨?_, ?_⟩)
      · exact trivial
      refine ⟨_, Wk.refl _ _, ?_⟩
      show awp _ _ _ _ _ _ _
      refine awp_ret_wk ?_
      refine ⟨_, Wk.refl _ _, ?_⟩
      repeat (with_reducible first | refine then_ret ?_ | refine blk_ret ?_ | refine then_exit ?_ | refine blk_exit ?_ | refine blk_exit' (by decide) ?_ | refine blk_normal ?_ | refine then_normal ?_ | refine retq_ret ?_ | refine retq_normal ?_ | refine ng_normal ?_ | refine ng_ret ?_ | refine ng_exit ?_)
      exact ret_none (v := .tuple #[.int .u64 0, .bool false]) rfl s28.kp (.cell rfl Try.isAgg27 (s28.rd (j := 1) rfl) rfl (.cell rfl Try.isAgg4 (s28.rd (j := 0) rfl) rfl .nil)) rfl rfl ⟨by rw [fitV_z (by omega)]; first | done | rfl, rfl⟩
    ·
      replace c2 := ne_of_beq_false c2
      refine dv (gyes_none rfl) (q_pf (v := .bool false) rfl rfl) rfl (by decide) (call_ok rfl) ?_
      refine ⟨_, Wk.refl _ _, ?_⟩
      show awp _ _ _ _ _ _ _
      refine awp_cond_f rfl ?_
      refine awp_skip_wk ?_
      refine ⟨_, Wk.refl _ _, ?_⟩
      show awp _ _ _ _ _ _ _
      refine awp_seq ?_
      refine awp_regs hF ?_
      refine dv (gyes_none rfl) (q_field Try.underlying30 rfl Try.sizeOf27 rfl (s19.rd (j := 2) rfl)) rfl (by decide) (cok1 trivial) ?_
      refine dv (gyes_none rfl) (q_load (v := .int .u64 ((iv.1 : Nat) : Int)) Try.isAgg27 rfl (s19.rd (j := 2) rfl) rfl) rfl (by decide) (cok1 trivial) ?_
      refine dv (gyes_none rfl) (q_load (v := .int .u64 ((al : Nat) : Int)) Try.isAgg27 rfl (s19.rd (j := 3) rfl) rfl) rfl (by decide) (cok1 trivial) ?_
      refine dv (gyes_none rfl) (q_call0 Try.call31 rfl (sup_ok iv.1 al (by first | exact hiv1 | exact (hlw _ (nthN_mem hx)).2) hal (by omega))) rfl (by decide) (call_ok rfl) ?_
      refine dv (gyes_none rfl) (q_mv (v := .tuple #[.int .u64 (((upV iv.1 al).1 : Nat) : Int), .bool ((upV iv.1 al).2)]) rfl) rfl (by decide) (cok1 trivial) ?_
      refine dv (gyes_none rfl) (q_extract (v := .int .u64 (((upV iv.1 al).1 : Nat) : Int)) rfl rfl) rfl (by decide) (cok1 trivial) ?_
      refine dv (gyes_none rfl) (q_extract (v := .bool ((upV iv.1 al).2)) rfl rfl) rfl (by decide) (cok1 trivial) ?_
      refine x_new (fun b => .pointer (some ⟨b, 0, none⟩)) s19 (gyes_none rfl) (q_alloc (vs := [.int .u64 0]) 1 Try.zeroValue27 (by first | exact flat_scalar rfl | exact flat_agg rfl) rfl) rfl (by decide) (by simp [Op.operands, Call.operands]) (fun b29 H30 hb32 s31 => ?_)
      refine x_new (fun b => .pointer (some ⟨b, 0, none⟩)) s31 (gyes_none rfl) (q_alloc (vs := [.bool false]) 1 Try.zeroValue4 (by first | exact flat_scalar rfl | exact flat_agg rfl) rfl) rfl (by decide) (by simp [Op.operands, Call.operands]) (fun b33 H34 hb36 s35 => ?_)
      refine x_store1 [] hF s35 (by kernel_rfl) (gyes_none rfl) (j := 1) (v := .int .u64 (((upV iv.1 al).1 : Nat) : Int)) rfl Try.sizeOf27 rfl rfl rfl (lc_scalar rfl) (Nat.le_of_ble_eq_true rfl) trivial trivial rfl rfl (F' := [(b33, .cells true [.bool false] 1), (b29, .cells true [.int .u64 (((upV iv.1 al).1 : Nat) : Int)] 1), (b17, .cells true [.bool false] 1), (b13, .cells true [.int .u64 0] 1), (b9, .cells true [.int .u64 ((iv.1 : Nat) : Int), .int .u64 ((iv.2 : Nat) : Int)] 2), (b5, .cells true [.int .u64 ((al : Nat) : Int)] 1), (b1, .cells true [.int .u64 ((n : Nat) : Int)] 1)]) rfl (fun H37 s38 => ⟨?_, ?_⟩)
      · exact trivial
      refine x_store1 [] hF s38 (by kernel_rfl) (gyes_none rfl) (j := 0) (v := .bool ((upV iv.1 al).2)) rfl Try.sizeOf4 rfl rfl rfl (lc_scalar rfl) (Nat.le_of_ble_eq_true rfl) trivial trivial rfl rfl (F' := [(b33, .cells true [.bool ((upV iv.1 al).2)] 1), (b29, .cells true [.int .u64 (((upV iv.1 al).1 : Nat) : Int)] 1), (b17, .cells true [.bool false] 1), (b13, .cells true [.int .u64 0] 1), (b9, .cells true [.int .u64 ((iv.1 : Nat) : Int), .int .u64 ((iv.2 : Nat) : Int)] 2), (b5, .cells true [.int .u64 ((al : Nat) : Int)] 1), (b1, .cells true [.int .u64 ((n : Nat) : Int)] 1)]) rfl (fun H39 s40 => ⟨?_, ?_⟩)
      · exact trivial
      refine ⟨_, Wk.refl _ _, ?_⟩
      show awp _ _ _ _ _ _ _
      refine awp_seq ?_
      refine awp_seq ?_
      refine awp_regs hF ?_
      refine dv (gyes_none rfl) (q_mv (v := .pointer (some ⟨bs, 0, none⟩)) rfl) rfl (by decide) (cok1 trivial) ?_
      refine x_call [] hF (by kernel_rfl) (gyes_none rfl) Try.call11 rfl (args := [.pointer (some ⟨bs, 0, none⟩)]) rfl (all_ok bs _ (s40.zrd hs_)) (show _ < _ by decide) (call_ok rfl) rfl rfl (fun _ _ _ _ hd => by cases hd) ?_
      rintro _ H42 ⟨b41, rfl, hn43⟩
      have s44 := s40.callL hn43
      refine ⟨trivial, ?_⟩
      show dList _ _ _ _ _ _ _ _ _ _
      refine ⟨_, Wk.refl _ _, ?_⟩
      show awp _ _ _ _ _ _ _
      refine awp_block ?_
      refine range_st s44 rfl Try.call29 (fun fn45 lp46 d47 l48 H49 hlp50 hd51 s52 => ?_)
      refine (alls1_ok (H0 := H49) b41 bs vL l (by omega) _ (fun (k : Nat) (H53 : AHeap) => ∃ (a : Nat) (o : Bool), St H0 (none0) (Rd H0) H53 [(l48, lp46 .ready none), (d47, .mark), (b41, .cells true [.pointer (some ⟨bs, 0, none⟩)] 1), (b33, .cells true [.bool o] 1), (b29, .cells true [.int .u64 ((a : Nat) : Int)] 1), (b17, .cells true [.bool false] 1), (b13, .cells true [.int .u64 0] 1), (b9, .cells true [.int .u64 ((iv.1 : Nat) : Int), .int .u64 ((iv.2 : Nat) : Int)] 2), (b5, .cells true [.int .u64 ((al : Nat) : Int)] 1), (b1, .cells true [.int .u64 ((n : Nat) : Int)] 1)] ∧ ((a, o) = fitS n al iv l k ∧ a < 18446744073709551616) ∧ (∀ j, j < k → stopS n iv (fitS n al iv l j) = false)) (fun (k' : Nat) (H53 : AHeap) => ∃ (a : Nat) (o : Bool), St H0 (none0) (Rd H0) H53 [(l48, lp46 (.done) (some .ret)), (d47, .mark), (b41, .cells true [.pointer (some ⟨bs, 0, none⟩)] 1), (b33, .cells true [.bool o] 1), (b29, .cells true [.int .u64 ((a : Nat) : Int)] 1), (b17, .cells true [.bool false] 1), (b13, .cells true [.int .u64 0] 1), (b9, .cells true [.int .u64 ((iv.1 : Nat) : Int), .int .u64 ((iv.2 : Nat) : Int)] 2), (b5, .cells true [.int .u64 ((al : Nat) : Int)] 1), (b1, .cells true [.int .u64 ((n : Nat) : Int)] 1)] ∧ (fitV n al iv l = (0, false))) ?h00 (fun _ _ _ ⟨a, o, s_, ha, hs⟩ k_ => ⟨a, o, s_.call0 k_, ha, hs⟩) ?hb ?round).mono ?after
      case h00 => exact ⟨(upV iv.1 al).1, (upV iv.1 al).2, s52, ⟨rfl, upV_lt hiv1⟩, fun j h => absurd h (Nat.not_lt_zero _)⟩
      case hb =>
        rintro k H53 ⟨a, o, s54, ha, hs⟩
        exact ⟨s54.rd (j := 2) rfl, (s54.zrd hs_), s54.sls hL⟩
      case round =>
        rintro k H53  ⟨a, o, s54, ha, hs⟩ hx
        refine ylds_roundB hlp50 (s54.getj (j := 0) rfl) rfl rfl (fun l55 hF => ?_)
        refine awp_regs hF ?_
        refine x_new (fun b => .pointer (some ⟨b, 0, none⟩)) s54 (gyes_none rfl) (q_alloc (vs := [.int .u64 0, .int .u64 0]) 2 Try.zeroValue30 (by first | exact flat_scalar rfl | exact flat_agg rfl) rfl) rfl (by decide) (by simp [Op.operands, Call.operands]) (fun b56 H57 hb59 s58 => ?_)
        refine x_store [] hF s58 (by kernel_rfl) (gyes_none rfl) (j := 0) (v := .agg #[.int .u64 (((nth l k).1 : Nat) : Int), .int .u64 (((nth l k).2 : Nat) : Int)]) rfl Try.sizeOf30 rfl rfl rfl rfl rfl trivial (lcsA ⟨(lc_scalar rfl), (lc_scalar rfl), trivial⟩) (Nat.le_of_ble_eq_true rfl) trivial trivial rfl rfl (F' := [(b56, .cells true [.int .u64 (((nth l k).1 : Nat) : Int), .int .u64 (((nth l k).2 : Nat) : Int)] 2), (l48, lp46 .ready none), (d47, .mark), (b41, .cells true [.pointer (some ⟨bs, 0, none⟩)] 1), (b33, .cells true [.bool o] 1), (b29, .cells true [.int .u64 ((a : Nat) : Int)] 1), (b17, .cells true [.bool false] 1), (b13, .cells true [.int .u64 0] 1), (b9, .cells true [.int .u64 ((iv.1 : Nat) : Int), .int .u64 ((iv.2 : Nat) : Int)] 2), (b5, .cells true [.int .u64 ((al : Nat) : Int)] 1), (b1, .cells true [.int .u64 ((n : Nat) : Int)] 1)]) rfl (fun H60 s61 => ⟨?_, ?_⟩)
        · exact trivial
        refine ⟨_, Wk.refl _ _, ?_⟩
        refine then_normal ?_
        refine ⟨_, _, rfl, s61.getj (j := 1) rfl, ?body⟩
        case body =>
          have s62 := s61.setAt (j := 1) rfl (lp46 .busy none)
          show awp _ _ _ _ _ _ _
          refine awp_block ?_
          refine awp_seq ?_
          refine awp_seq ?_
          refine awp_regs hF ?_
          refine dvb (gyes_none rfl) (q_load (v := .bool o) Try.isAgg4 rfl (s62.rd (j := 4) rfl) rfl) rfl (by decide) (cok1 trivial) (fun c3 => ?_) (fun c3 => ?_)
          ·
            refine dv (gyes_none rfl) (q_not (b := true) rfl) rfl (by decide) (cok1 trivial) ?_
            refine dv (gyes_none rfl) (q_mv (v := .bool false) rfl) rfl (by decide) (cok1 trivial) ?_
            refine dv (gyes_some rfl rfl) (q_load (v := .int .u64 ((a : Nat) : Int)) Try.isAgg27 rfl (s62.rd (j := 5) rfl) rfl) rfl (by decide) (cok1 trivial) ?_
            refine dv (gyes_some rfl rfl) (q_field Try.underlying30 rfl Try.sizeOf27 rfl (s62.rd (j := 8) rfl)) rfl (by decide) (cok1 trivial) ?_
            refine dv (gyes_some rfl rfl) (q_load (v := .int .u64 ((iv.2 : Nat) : Int)) Try.isAgg27 rfl (s62.rd (j := 8) rfl) rfl) rfl (by decide) (cok1 trivial) ?_
            refine dvb (gyes_some rfl rfl) (q_int rfl rfl rfl) rfl (by decide) (cok2 trivial trivial) (fun c4 => ?_) (fun c4 => ?_)
            ·
              replace c4 := of_decide_eq_true c4
              refine dv (gyes_none rfl) (q_pf (v := .bool true) rfl rfl) rfl (by decide) (call_ok rfl) ?_
              refine dv (gyes_none rfl) (q_mv (v := .bool true) rfl) rfl (by decide) (cok1 trivial) ?_
              refine dno rfl (.inl rfl) rfl (by decide) ?_
              refine dno rfl (.inl rfl) rfl (by decide) ?_
              refine dno rfl (.inl rfl) rfl (by decide) ?_
              refine dno rfl (.inl rfl) rfl (by decide) ?_
              refine dno rfl (.inl rfl) rfl (by decide) ?_
              refine dno rfl (.inl rfl) rfl (by decide) ?_
              refine dv (gyes_none rfl) (q_pt (v := .bool true) rfl rfl) rfl (by decide) (call_ok rfl) ?_
              refine ⟨_, Wk.refl _ _, ?_⟩
              show awp _ _ _ _ _ _ _
              refine awp_cond_t rfl ?_
              refine awp_seq ?_
              refine awp_regs hF ?_
              refine x_store1 [] hF s62 (by kernel_rfl) (gyes_none rfl) (j := 7) (v := .int .u64 0) rfl Try.sizeOf27 rfl rfl rfl (lc_scalar rfl) (Nat.le_of_ble_eq_true rfl) trivial (cconst rfl) rfl rfl (F' := [(b56, .cells true [.int .u64 (((nth l k).1 : Nat) : Int), .int .u64 (((nth l k).2 : Nat) : Int)] 2), (l48, lp46 .busy none), (d47, .mark), (b41, .cells true [.pointer (some ⟨bs, 0, none⟩)] 1), (b33, .cells true [.bool o] 1), (b29, .cells true [.int .u64 ((a : Nat) : Int)] 1), (b17, .cells true [.bool false] 1), (b13, .cells true [.int .u64 0] 1), (b9, .cells true [.int .u64 ((iv.1 : Nat) : Int), .int .u64 ((iv.2 : Nat) : Int)] 2), (b5, .cells true [.int .u64 ((al : Nat) : Int)] 1), (b1, .cells true [.int .u64 ((n : Nat) : Int)] 1)]) rfl (fun H63 s64 => ⟨?_, ?_⟩)
              · exact trivial
              refine x_store1 [] hF s64 (by kernel_rfl) (gyes_none rfl) (j := 6) (v := .bool false) rfl Try.sizeOf4 rfl rfl rfl (lc_scalar rfl) (Nat.le_of_ble_eq_true rfl) trivial (cconst rfl) rfl rfl (F' := [(b56, .cells true [.int .u64 (((nth l k).1 : Nat) : Int), .int .u64 (((nth l k).2 : Nat) : Int)] 2), (l48, lp46 .busy none), (d47, .mark), (b41, .cells true [.pointer (some ⟨bs, 0, none⟩)] 1), (b33, .cells true [.bool o] 1), (b29, .cells true [.int .u64 ((a : Nat) : Int)] 1), (b17, .cells true [.bool false] 1), (b13, .cells true [.int .u64 0] 1), (b9, .cells true [.int .u64 ((iv.1 : Nat) : Int), .int .u64 ((iv.2 : Nat) : Int)] 2), (b5, .cells true [.int .u64 ((al : Nat) : Int)] 1), (b1, .cells true [.int .u64 ((n : Nat) : Int)] 1)]) rfl (fun H65 s66 => ⟨?_, ?_⟩)
              · exact trivial
              refine ⟨_, Wk.refl _ _, ?_⟩
              show awp _ _ _ _ _ _ _
              refine awp_ret_wk ?_
              refine ⟨_, Wk.refl _ _, ?_⟩
              repeat (with_reducible first | refine then_ret ?_ | refine blk_ret ?_ | refine then_exit ?_ | refine blk_exit ?_ | refine blk_exit' (by decide) ?_ | refine blk_normal ?_ | refine then_normal ?_ | refine retq_ret ?_ | refine retq_normal ?_ | refine ng_normal ?_ | refine ng_ret ?_ | refine ng_exit ?_)
              exact ⟨(s66.forget 0).getj (j := 0) rfl, (fun h => nomatch h), (fun _ => ⟨_, _, ((s66.forget 0).setAt (j := 0) rfl (lp46 .done (some .ret))), (fitV_s (Nat.le_of_lt hx) (by rw [← ha.1]; first | exact stop_o (by assumption) | exact stop_a (by omega) | exact stop_n (by omega)))⟩)⟩
            ·
              replace c4 := of_decide_eq_false c4
              refine dv (gyes_none rfl) (q_pf (v := .bool false) rfl rfl) rfl (by decide) (call_ok rfl) ?_
              refine dv (gyes_none rfl) (q_mv (v := .bool false) rfl) rfl (by decide) (cok1 trivial) ?_
              refine dv (gyes_some rfl rfl) (q_field Try.underlying30 rfl Try.sizeOf27 rfl (s62.rd (j := 8) rfl)) rfl (by decide) (cok1 trivial) ?_
              refine dv (gyes_some rfl rfl) (q_load (v := .int .u64 ((iv.2 : Nat) : Int)) Try.isAgg27 rfl (s62.rd (j := 8) rfl) rfl) rfl (by decide) (cok1 trivial) ?_
              refine dv (gyes_some rfl rfl) (q_load (v := .int .u64 ((a : Nat) : Int)) Try.isAgg27 rfl (s62.rd (j := 5) rfl) rfl) rfl (by decide) (cok1 trivial) ?_
              refine dv (gyes_some rfl rfl) (OpQ.cast (v' := .int .u64 ((iv.2 - a : Nat) : Int)) (q_int rfl rfl rfl) (congrArg _ ((u64_in (by omega)).trans (by omega)))) rfl (by decide) (cok2 trivial trivial) ?_
              refine dv (gyes_some rfl rfl) (q_load (v := .int .u64 ((n : Nat) : Int)) Try.isAgg27 rfl (s62.rd (j := 10) rfl) rfl) rfl (by decide) (cok1 trivial) ?_
              refine dvb (gyes_some rfl rfl) (q_int rfl rfl rfl) rfl (by decide) (cok2 trivial trivial) (fun c5 => ?_) (fun c5 => ?_)
              ·
                replace c5 := of_decide_eq_true c5
                refine dv (gyes_none rfl) (q_pf (v := .bool true) rfl rfl) rfl (by decide) (call_ok rfl) ?_
                refine ⟨_, Wk.refl _ _, ?_⟩
                show awp _ _ _ _ _ _ _
                refine awp_cond_t rfl ?_
                refine awp_seq ?_
                refine awp_regs hF ?_
                refine x_store1 [] hF s62 (by kernel_rfl) (gyes_none rfl) (j := 7) (v := .int .u64 0) rfl Try.sizeOf27 rfl rfl rfl (lc_scalar rfl) (Nat.le_of_ble_eq_true rfl) trivial (cconst rfl) rfl rfl (F' := [(b56, .cells true [.int .u64 (((nth l k).1 : Nat) : Int), .int .u64 (((nth l k).2 : Nat) : Int)] 2), (l48, lp46 .busy none), (d47, .mark), (b41, .cells true [.pointer (some ⟨bs, 0, none⟩)] 1), (b33, .cells true [.bool o] 1), (b29, .cells true [.int .u64 ((a : Nat) : Int)] 1), (b17, .cells true [.bool false] 1), (b13, .cells true [.int .u64 0] 1), (b9, .cells true [.int .u64 ((iv.1 : Nat) : Int), .int .u64 ((iv.2 : Nat) : Int)] 2), (b5, .cells true [.int .u64 ((al : Nat) : Int)] 1), (b1, .cells true [.int .u64 ((n : Nat) : Int)] 1)]) rfl (fun H67 s68 => ⟨?_, ?_⟩)
                · exact trivial
                refine x_store1 [] hF s68 (by kernel_rfl) (gyes_none rfl) (j := 6) (v := .bool false) rfl Try.sizeOf4 rfl rfl rfl (lc_scalar rfl) (Nat.le_of_ble_eq_true rfl) trivial (cconst rfl) rfl rfl (F' := [(b56, .cells true [.int .u64 (((nth l k).1 : Nat) : Int), .int .u64 (((nth l k).2 : Nat) : Int)] 2), (l48, lp46 .busy none), (d47, .mark), (b41, .cells true [.pointer (some ⟨bs, 0, none⟩)] 1), (b33, .cells true [.bool o] 1), (b29, .cells true [.int .u64 ((a : Nat) : Int)] 1), (b17, .cells true [.bool false] 1), (b13, .cells true [.int .u64 0] 1), (b9, .cells true [.int .u64 ((iv.1 : Nat) : Int), .int .u64 ((iv.2 : Nat) : Int)] 2), (b5, .cells true [.int .u64 ((al : Nat) : Int)] 1), (b1, .cells true [.int .u64 ((n : Nat) : Int)] 1)]) rfl (fun H69 s70 => ⟨?_, ?_⟩)
                · exact trivial
                refine ⟨_, Wk.refl _ _, ?_⟩
                show awp _ _ _ _ _ _ _
                refine awp_ret_wk ?_
                refine ⟨_, Wk.refl _ _, ?_⟩
                repeat (with_reducible first | refine then_ret ?_ | refine blk_ret ?_ | refine then_exit ?_ | refine blk_exit ?_ | refine blk_exit' (by decide) ?_ | refine blk_normal ?_ | refine then_normal ?_ | refine retq_ret ?_ | refine retq_normal ?_ | refine ng_normal ?_ | refine ng_ret ?_ | refine ng_exit ?_)
                exact ⟨(s70.forget 0).getj (j := 0) rfl, (fun h => nomatch h), (fun _ => ⟨_, _, ((s70.forget 0).setAt (j := 0) rfl (lp46 .done (some .ret))), (fitV_s (Nat.le_of_lt hx) (by rw [← ha.1]; first | exact stop_o (by assumption) | exact stop_a (by omega) | exact stop_n (by omega)))⟩)⟩
              ·
                replace c5 := of_decide_eq_false c5
                refine dv (gyes_none rfl) (q_pf (v := .bool false) rfl rfl) rfl (by decide) (call_ok rfl) ?_
                refine ⟨_, Wk.refl _ _, ?_⟩
                show awp _ _ _ _ _ _ _
                refine awp_cond_f rfl ?_
                refine awp_skip_wk ?_
                refine ⟨_, Wk.refl _ _, ?_⟩
                show awp _ _ _ _ _ _ _
                refine awp_seq ?_
                have hsf : stopS n iv (fitS n al iv l k) = false := by rw [← ha.1]; exact stop_f (by assumption) (by omega) (by omega)
                refine awp_regs hF ?_
                refine dv (gyes_none rfl) (q_load (v := .int .u64 ((a : Nat) : Int)) Try.isAgg27 rfl (s62.rd (j := 5) rfl) rfl) rfl (by decide) (cok1 trivial) ?_
                refine dv (gyes_none rfl) (q_load (v := .int .u64 ((a : Nat) : Int)) Try.isAgg27 rfl (s62.rd (j := 5) rfl) rfl) rfl (by decide) (cok1 trivial) ?_
                refine dv (gyes_none rfl) (q_load (v := .int .u64 ((n : Nat) : Int)) Try.isAgg27 rfl (s62.rd (j := 10) rfl) rfl) rfl (by decide) (cok1 trivial) ?_
                refine dv (gyes_none rfl) (OpQ.cast (v' := .int .u64 (((a + n) % 18446744073709551616 : Nat) : Int)) (q_int rfl rfl rfl) (congrArg _ (wrapU64 (a + n)))) rfl (by decide) (cok2 trivial trivial) ?_
                refine dv (gyes_none rfl) (q_buildL (ds := [.int .u64 ((a : Nat) : Int), .int .u64 (((a + n) % 18446744073709551616 : Nat) : Int)]) [(0, 1), (1, 1)] [.int .u64 ((a : Nat) : Int), .int .u64 (((a + n) % 18446744073709551616 : Nat) : Int)] Try.underlying30 Try.zeroValue30 (by first | exact flat_agg rfl | exact flat_scalar rfl) (by kernel_rfl) ⟨rfl, rfl, trivial⟩ (lvsC (by exact trivial) (lvsC (by exact trivial) lvs0)) rfl) rfl (by decide) (cok2 trivial trivial) ?_
                refine dv (gyes_none rfl) (q_loadAgg Try.isAgg30 Try.sizeOf30 rfl (s62.rd (j := 0) rfl) (Nat.le_of_ble_eq_true rfl) rfl) rfl (by decide) (cok1 trivial) ?_
                refine dvb (gyes_none rfl) (q_call0 Try.call17 rfl (spmeets_ok (a, (a + n) % 18446744073709551616) (nth l k))) rfl (by decide) (call_ok rfl) (fun c6 => ?_) (fun c6 => ?_)
                ·
                  refine ⟨_, Wk.refl _ _, ?_⟩
                  show awp _ _ _ _ _ _ _
                  refine awp_cond_t rfl ?_
                  refine awp_regs hF ?_
                  refine dv (gyes_none rfl) (q_field Try.underlying30 rfl Try.sizeOf27 rfl (s62.rd (j := 0) rfl)) rfl (by decide) (cok1 trivial) ?_
                  refine dv (gyes_none rfl) (q_load (v := .int .u64 (((nth l k).2 : Nat) : Int)) Try.isAgg27 rfl (s62.rd (j := 0) rfl) rfl) rfl (by decide) (cok1 trivial) ?_
                  refine dv (gyes_none rfl) (q_load (v := .int .u64 ((al : Nat) : Int)) Try.isAgg27 rfl (s62.rd (j := 9) rfl) rfl) rfl (by decide) (cok1 trivial) ?_
                  refine dv (gyes_none rfl) (q_call0 Try.call31 rfl (sup_ok ((nth l k).2) al (by first | exact hiv1 | exact (hlw _ (nthN_mem hx)).2) hal (by omega))) rfl (by decide) (call_ok rfl) ?_
                  refine dv (gyes_none rfl) (q_mv (v := .tuple #[.int .u64 (((upV ((nth l k).2) al).1 : Nat) : Int), .bool ((upV ((nth l k).2) al).2)]) rfl) rfl (by decide) (cok1 trivial) ?_
                  refine dv (gyes_none rfl) (q_extract (v := .int .u64 (((upV ((nth l k).2) al).1 : Nat) : Int)) rfl rfl) rfl (by decide) (cok1 trivial) ?_
                  refine dv (gyes_none rfl) (q_extract (v := .bool ((upV ((nth l k).2) al).2)) rfl rfl) rfl (by decide) (cok1 trivial) ?_
                  refine x_store1 [] hF s62 (by kernel_rfl) (gyes_none rfl) (j := 5) (v := .int .u64 (((upV ((nth l k).2) al).1 : Nat) : Int)) rfl Try.sizeOf27 rfl rfl rfl (lc_scalar rfl) (Nat.le_of_ble_eq_true rfl) trivial trivial rfl rfl (F' := [(b56, .cells true [.int .u64 (((nth l k).1 : Nat) : Int), .int .u64 (((nth l k).2 : Nat) : Int)] 2), (l48, lp46 .busy none), (d47, .mark), (b41, .cells true [.pointer (some ⟨bs, 0, none⟩)] 1), (b33, .cells true [.bool o] 1), (b29, .cells true [.int .u64 (((upV ((nth l k).2) al).1 : Nat) : Int)] 1), (b17, .cells true [.bool false] 1), (b13, .cells true [.int .u64 0] 1), (b9, .cells true [.int .u64 ((iv.1 : Nat) : Int), .int .u64 ((iv.2 : Nat) : Int)] 2), (b5, .cells true [.int .u64 ((al : Nat) : Int)] 1), (b1, .cells true [.int .u64 ((n : Nat) : Int)] 1)]) rfl (fun H71 s72 => ⟨?_, ?_⟩)
                  · exact trivial
                  refine x_store1 [] hF s72 (by kernel_rfl) (gyes_none rfl) (j := 4) (v := .bool ((upV ((nth l k).2) al).2)) rfl Try.sizeOf4 rfl rfl rfl (lc_scalar rfl) (Nat.le_of_ble_eq_true rfl) trivial trivial rfl rfl (F' := [(b56, .cells true [.int .u64 (((nth l k).1 : Nat) : Int), .int .u64 (((nth l k).2 : Nat) : Int)] 2), (l48, lp46 .busy none), (d47, .mark), (b41, .cells true [.pointer (some ⟨bs, 0, none⟩)] 1), (b33, .cells true [.bool ((upV ((nth l k).2) al).2)] 1), (b29, .cells true [.int .u64 (((upV ((nth l k).2) al).1 : Nat) : Int)] 1), (b17, .cells true [.bool false] 1), (b13, .cells true [.int .u64 0] 1), (b9, .cells true [.int .u64 ((iv.1 : Nat) : Int), .int .u64 ((iv.2 : Nat) : Int)] 2), (b5, .cells true [.int .u64 ((al : Nat) : Int)] 1), (b1, .cells true [.int .u64 ((n : Nat) : Int)] 1)]) rfl (fun H73 s74 => ⟨?_, ?_⟩)
                  · exact trivial
                  refine ⟨_, Wk.refl _ _, ?_⟩
                  repeat (with_reducible first | refine then_ret ?_ | refine blk_ret ?_ | refine then_exit ?_ | refine blk_exit ?_ | refine blk_exit' (by decide) ?_ | refine blk_normal ?_ | refine then_normal ?_ | refine retq_ret ?_ | refine retq_normal ?_ | refine ng_normal ?_ | refine ng_ret ?_ | refine ng_exit ?_)
                  exact ⟨(s74.forget 0).getj (j := 0) rfl, (fun _ => ⟨_, _, ((s74.forget 0).setAt (j := 0) rfl (lp46 .ready none)), ⟨fit_y ha.1 (by assumption), upV_lt (hlw _ (nthN_mem hx)).2⟩, (lt_succ_casesN hs hsf)⟩), (fun h => nomatch h)⟩
                ·
                  refine ⟨_, Wk.refl _ _, ?_⟩
                  show awp _ _ _ _ _ _ _
                  refine awp_cond_f rfl ?_
                  refine awp_skip_wk ?_
                  refine ⟨_, Wk.refl _ _, ?_⟩
                  repeat (with_reducible first | refine then_ret ?_ | refine blk_ret ?_ | refine then_exit ?_ | refine blk_exit ?_ | refine blk_exit' (by decide) ?_ | refine blk_normal ?_ | refine then_normal ?_ | refine retq_ret ?_ | refine retq_normal ?_ | refine ng_normal ?_ | refine ng_ret ?_ | refine ng_exit ?_)
                  exact ⟨(s62.forget 0).getj (j := 0) rfl, (fun _ => ⟨_, _, ((s62.forget 0).setAt (j := 0) rfl (lp46 .ready none)), ⟨fit_n ha.1 (by assumption), ha.2⟩, (lt_succ_casesN hs hsf)⟩), (fun h => nomatch h)⟩
          ·
            refine dv (gyes_none rfl) (q_not (b := false) rfl) rfl (by decide) (cok1 trivial) ?_
            refine dv (gyes_none rfl) (q_mv (v := .bool true) rfl) rfl (by decide) (cok1 trivial) ?_
            refine dno rfl (.inl rfl) rfl (by decide) ?_
            refine dno rfl (.inl rfl) rfl (by decide) ?_
            refine dno rfl (.inl rfl) rfl (by decide) ?_
            refine dno rfl (.inl rfl) rfl (by decide) ?_
            refine dv (gyes_none rfl) (q_pt (v := .bool true) rfl rfl) rfl (by decide) (call_ok rfl) ?_
            refine dv (gyes_none rfl) (q_mv (v := .bool true) rfl) rfl (by decide) (cok1 trivial) ?_
            refine dno rfl (.inl rfl) rfl (by decide) ?_
            refine dno rfl (.inl rfl) rfl (by decide) ?_
            refine dno rfl (.inl rfl) rfl (by decide) ?_
            refine dno rfl (.inl rfl) rfl (by decide) ?_
            refine dno rfl (.inl rfl) rfl (by decide) ?_
            refine dno rfl (.inl rfl) rfl (by decide) ?_
            refine dv (gyes_none rfl) (q_pt (v := .bool true) rfl rfl) rfl (by decide) (call_ok rfl) ?_
            refine ⟨_, Wk.refl _ _, ?_⟩
            show awp _ _ _ _ _ _ _
            refine awp_cond_t rfl ?_
            refine awp_seq ?_
            refine awp_regs hF ?_
            refine x_store1 [] hF s62 (by kernel_rfl) (gyes_none rfl) (j := 7) (v := .int .u64 0) rfl Try.sizeOf27 rfl rfl rfl (lc_scalar rfl) (Nat.le_of_ble_eq_true rfl) trivial (cconst rfl) rfl rfl (F' := [(b56, .cells true [.int .u64 (((nth l k).1 : Nat) : Int), .int .u64 (((nth l k).2 : Nat) : Int)] 2), (l48, lp46 .busy none), (d47, .mark), (b41, .cells true [.pointer (some ⟨bs, 0, none⟩)] 1), (b33, .cells true [.bool o] 1), (b29, .cells true [.int .u64 ((a : Nat) : Int)] 1), (b17, .cells true [.bool false] 1), (b13, .cells true [.int .u64 0] 1), (b9, .cells true [.int .u64 ((iv.1 : Nat) : Int), .int .u64 ((iv.2 : Nat) : Int)] 2), (b5, .cells true [.int .u64 ((al : Nat) : Int)] 1), (b1, .cells true [.int .u64 ((n : Nat) : Int)] 1)]) rfl (fun H75 s76 => ⟨?_, ?_⟩)
            · exact trivial
            refine x_store1 [] hF s76 (by kernel_rfl) (gyes_none rfl) (j := 6) (v := .bool false) rfl Try.sizeOf4 rfl rfl rfl (lc_scalar rfl) (Nat.le_of_ble_eq_true rfl) trivial (cconst rfl) rfl rfl (F' := [(b56, .cells true [.int .u64 (((nth l k).1 : Nat) : Int), .int .u64 (((nth l k).2 : Nat) : Int)] 2), (l48, lp46 .busy none), (d47, .mark), (b41, .cells true [.pointer (some ⟨bs, 0, none⟩)] 1), (b33, .cells true [.bool o] 1), (b29, .cells true [.int .u64 ((a : Nat) : Int)] 1), (b17, .cells true [.bool false] 1), (b13, .cells true [.int .u64 0] 1), (b9, .cells true [.int .u64 ((iv.1 : Nat) : Int), .int .u64 ((iv.2 : Nat) : Int)] 2), (b5, .cells true [.int .u64 ((al : Nat) : Int)] 1), (b1, .cells true [.int .u64 ((n : Nat) : Int)] 1)]) rfl (fun H77 s78 => ⟨?_, ?_⟩)
            · exact trivial
            refine ⟨_, Wk.refl _ _, ?_⟩
            show awp _ _ _ _ _ _ _
            refine awp_ret_wk ?_
            refine ⟨_, Wk.refl _ _, ?_⟩
            repeat (with_reducible first | refine then_ret ?_ | refine blk_ret ?_ | refine then_exit ?_ | refine blk_exit ?_ | refine blk_exit' (by decide) ?_ | refine blk_normal ?_ | refine then_normal ?_ | refine retq_ret ?_ | refine retq_normal ?_ | refine ng_normal ?_ | refine ng_ret ?_ | refine ng_exit ?_)
            exact ⟨(s78.forget 0).getj (j := 0) rfl, (fun h => nomatch h), (fun _ => ⟨_, _, ((s78.forget 0).setAt (j := 0) rfl (lp46 .done (some .ret))), (fitV_s (Nat.le_of_lt hx) (by rw [← ha.1]; first | exact stop_o (by assumption) | exact stop_a (by omega) | exact stop_n (by omega)))⟩)⟩
      case after =>
        rintro v H' ⟨rfl, hpost⟩
        rcases hpost with ⟨a, o, s79, ha, hs⟩ | ⟨i_, hi_, ⟨a, o, s80, hf⟩⟩
        ·
          refine ⟨(by
              intro e he
              rcases List.mem_cons.1 he with rfl | he
              · exact s79.getj (j := 1) rfl
              · cases he), .inl ⟨s79.getj (j := 0) rfl, ?_⟩⟩
          have s81 := (s79.setAt (j := 0) rfl .none).forget 0
          refine ⟨_, Wk.refl _ _, ?_⟩
          show awp _ _ _ _ _ _ _
          refine awp_seq ?_
          refine awp_seq ?_
          refine awp_regs hF ?_
          refine dvb (gyes_none rfl) (q_load (v := .bool o) Try.isAgg4 rfl (s81.rd (j := 2) rfl) rfl) rfl (by decide) (cok1 trivial) (fun c7 => ?_) (fun c7 => ?_)
          ·
            refine dv (gyes_none rfl) (q_not (b := true) rfl) rfl (by decide) (cok1 trivial) ?_
            refine dv (gyes_none rfl) (q_mv (v := .bool false) rfl) rfl (by decide) (cok1 trivial) ?_
            refine dv (gyes_some rfl rfl) (q_load (v := .int .u64 ((a : Nat) : Int)) Try.isAgg27 rfl (s81.rd (j := 3) rfl) rfl) rfl (by decide) (cok1 trivial) ?_
            refine dv (gyes_some rfl rfl) (q_field Try.underlying30 rfl Try.sizeOf27 rfl (s81.rd (j := 6) rfl)) rfl (by decide) (cok1 trivial) ?_
            refine dv (gyes_some rfl rfl) (q_load (v := .int .u64 ((iv.2 : Nat) : Int)) Try.isAgg27 rfl (s81.rd (j := 6) rfl) rfl) rfl (by decide) (cok1 trivial) ?_
            refine dvb (gyes_some rfl rfl) (q_int rfl rfl rfl) rfl (by decide) (cok2 trivial trivial) (fun c8 => ?_) (fun c8 => ?_)
            ·
              replace c8 := of_decide_eq_true c8
              refine dv (gyes_none rfl) (q_pf (v := .bool true) rfl rfl) rfl (by decide) (call_ok rfl) ?_
              refine dv (gyes_none rfl) (q_mv (v := .bool true) rfl) rfl (by decide) (cok1 trivial) ?_
              refine dno rfl (.inl rfl) rfl (by decide) ?_
              refine dno rfl (.inl rfl) rfl (by decide) ?_
              refine dno rfl (.inl rfl) rfl (by decide) ?_
              refine dno rfl (.inl rfl) rfl (by decide) ?_
              refine dno rfl (.inl rfl) rfl (by decide) ?_
              refine dno rfl (.inl rfl) rfl (by decide) ?_
              refine dv (gyes_none rfl) (q_pt (v := .bool true) rfl rfl) rfl (by decide) (call_ok rfl) ?_
              refine ⟨_, Wk.refl _ _, ?_⟩
              show awp _ _ _ _ _ _ _
              refine awp_cond_t rfl ?_
              refine awp_seq ?_
              refine awp_regs hF ?_
              refine x_store1 [] hF s81 (by kernel_rfl) (gyes_none rfl) (j := 5) (v := .int .u64 0) rfl Try.sizeOf27 rfl rfl rfl (lc_scalar rfl) (Nat.le_of_ble_eq_true rfl) trivial (cconst rfl) rfl rfl (F' := [(d47, .mark), (b41, .cells true [.pointer (some ⟨bs, 0, none⟩)] 1), (b33, .cells true [.bool o] 1), (b29, .cells true [.int .u64 ((a : Nat) : Int)] 1), (b17, .cells true [.bool false] 1), (b13, .cells true [.int .u64 0] 1), (b9, .cells true [.int .u64 ((iv.1 : Nat) : Int), .int .u64 ((iv.2 : Nat) : Int)] 2), (b5, .cells true [.int .u64 ((al : Nat) : Int)] 1), (b1, .cells true [.int .u64 ((n : Nat) : Int)] 1)]) rfl (fun H82 s83 => ⟨?_, ?_⟩)
              · exact trivial
              refine x_store1 [] hF s83 (by kernel_rfl) (gyes_none rfl) (j := 4) (v := .bool false) rfl Try.sizeOf4 rfl rfl rfl (lc_scalar rfl) (Nat.le_of_ble_eq_true rfl) trivial (cconst rfl) rfl rfl (F' := [(d47, .mark), (b41, .cells true [.pointer (some ⟨bs, 0, none⟩)] 1), (b33, .cells true [.bool o] 1), (b29, .cells true [.int .u64 ((a : Nat) : Int)] 1), (b17, .cells true [.bool false] 1), (b13, .cells true [.int .u64 0] 1), (b9, .cells true [.int .u64 ((iv.1 : Nat) : Int), .int .u64 ((iv.2 : Nat) : Int)] 2), (b5, .cells true [.int .u64 ((al : Nat) : Int)] 1), (b1, .cells true [.int .u64 ((n : Nat) : Int)] 1)]) rfl (fun H84 s85 => ⟨?_, ?_⟩)
              · exact trivial
              refine ⟨_, Wk.refl _ _, ?_⟩
              show awp _ _ _ _ _ _ _
              refine awp_ret_wk ?_
              refine ⟨_, Wk.refl _ _, ?_⟩
              repeat (with_reducible first | refine then_ret ?_ | refine blk_ret ?_ | refine then_exit ?_ | refine blk_exit ?_ | refine blk_exit' (by decide) ?_ | refine blk_normal ?_ | refine then_normal ?_ | refine retq_ret ?_ | refine retq_normal ?_ | refine ng_normal ?_ | refine ng_ret ?_ | refine ng_exit ?_)
              exact ret_noneD (v := .tuple #[.int .u64 0, .bool false]) rfl (s85.setAt (j := 0) rfl .none).kp (.cell rfl Try.isAgg27 ((s85.setAt (j := 0) rfl .none).rd (j := 5) rfl) rfl (.cell rfl Try.isAgg4 ((s85.setAt (j := 0) rfl .none).rd (j := 4) rfl) rfl .nil)) rfl rfl ⟨by rw [fitV_s (Nat.le_refl _) (by rw [← ha.1]; first | exact stop_o (by assumption) | exact stop_a (by omega) | exact stop_n (by omega))]; first | done | rfl, rfl⟩
            ·
              replace c8 := of_decide_eq_false c8
              refine dv (gyes_none rfl) (q_pf (v := .bool false) rfl rfl) rfl (by decide) (call_ok rfl) ?_
              refine dv (gyes_none rfl) (q_mv (v := .bool false) rfl) rfl (by decide) (cok1 trivial) ?_
              refine dv (gyes_some rfl rfl) (q_field Try.underlying30 rfl Try.sizeOf27 rfl (s81.rd (j := 6) rfl)) rfl (by decide) (cok1 trivial) ?_
              refine dv (gyes_some rfl rfl) (q_load (v := .int .u64 ((iv.2 : Nat) : Int)) Try.isAgg27 rfl (s81.rd (j := 6) rfl) rfl) rfl (by decide) (cok1 trivial) ?_
              refine dv (gyes_some rfl rfl) (q_load (v := .int .u64 ((a : Nat) : Int)) Try.isAgg27 rfl (s81.rd (j := 3) rfl) rfl) rfl (by decide) (cok1 trivial) ?_
              refine dv (gyes_some rfl rfl) (OpQ.cast (v' := .int .u64 ((iv.2 - a : Nat) : Int)) (q_int rfl rfl rfl) (congrArg _ ((u64_in (by omega)).trans (by omega)))) rfl (by decide) (cok2 trivial trivial) ?_
              refine dv (gyes_some rfl rfl) (q_load (v := .int .u64 ((n : Nat) : Int)) Try.isAgg27 rfl (s81.rd (j := 8) rfl) rfl) rfl (by decide) (cok1 trivial) ?_
              refine dvb (gyes_some rfl rfl) (q_int rfl rfl rfl) rfl (by decide) (cok2 trivial trivial) (fun c9 => ?_) (fun c9 => ?_)
              ·
                replace c9 := of_decide_eq_true c9
                refine dv (gyes_none rfl) (q_pf (v := .bool true) rfl rfl) rfl (by decide) (call_ok rfl) ?_
                refine ⟨_, Wk.refl _ _, ?_⟩
                show awp _ _ _ _ _ _ _
                refine awp_cond_t rfl ?_
                refine awp_seq ?_
                refine awp_regs hF ?_
                refine x_store1 [] hF s81 (by kernel_rfl) (gyes_none rfl) (j := 5) (v := .int .u64 0) rfl Try.sizeOf27 rfl rfl rfl (lc_scalar rfl) (Nat.le_of_ble_eq_true rfl) trivial (cconst rfl) rfl rfl (F' := [(d47, .mark), (b41, .cells true [.pointer (some ⟨bs, 0, none⟩)] 1), (b33, .cells true [.bool o] 1), (b29, .cells true [.int .u64 ((a : Nat) : Int)] 1), (b17, .cells true [.bool false] 1), (b13, .cells true [.int .u64 0] 1), (b9, .cells true [.int .u64 ((iv.1 : Nat) : Int), .int .u64 ((iv.2 : Nat) : Int)] 2), (b5, .cells true [.int .u64 ((al : Nat) : Int)] 1), (b1, .cells true [.int .u64 ((n : Nat) : Int)] 1)]) rfl (fun H86 s87 => ⟨?_, ?_⟩)
                · exact trivial
                refine x_store1 [] hF s87 (by kernel_rfl) (gyes_none rfl) (j := 4) (v := .bool false) rfl Try.sizeOf4 rfl rfl rfl (lc_scalar rfl) (Nat.le_of_ble_eq_true rfl) trivial (cconst rfl) rfl rfl (F' := [(d47, .mark), (b41, .cells true [.pointer (some ⟨bs, 0, none⟩)] 1), (b33, .cells true [.bool o] 1), (b29, .cells true [.int .u64 ((a : Nat) : Int)] 1), (b17, .cells true [.bool false] 1), (b13, .cells true [.int .u64 0] 1), (b9, .cells true [.int .u64 ((iv.1 : Nat) : Int), .int .u64 ((iv.2 : Nat) : Int)] 2), (b5, .cells true [.int .u64 ((al : Nat) : Int)] 1), (b1, .cells true [.int .u64 ((n : Nat) : Int)] 1)]) rfl (fun H88 s89 => ⟨?_, ?_⟩)
                · exact trivial
                refine ⟨_, Wk.refl _ _, ?_⟩
                show awp _ _ _ _ _ _ _
                refine awp_ret_wk ?_
                refine ⟨_, Wk.refl _ _, ?_⟩
                repeat (with_reducible first | refine then_ret ?_ | refine blk_ret ?_ | refine then_exit ?_ | refine blk_exit ?_ | refine blk_exit' (by decide) ?_ | refine blk_normal ?_ | refine then_normal ?_ | refine retq_ret ?_ | refine retq_normal ?_ | refine ng_normal ?_ | refine ng_ret ?_ | refine ng_exit ?_)
                exact ret_noneD (v := .tuple #[.int .u64 0, .bool false]) rfl (s89.setAt (j := 0) rfl .none).kp (.cell rfl Try.isAgg27 ((s89.setAt (j := 0) rfl .none).rd (j := 5) rfl) rfl (.cell rfl Try.isAgg4 ((s89.setAt (j := 0) rfl .none).rd (j := 4) rfl) rfl .nil)) rfl rfl ⟨by rw [fitV_s (Nat.le_refl _) (by rw [← ha.1]; first | exact stop_o (by assumption) | exact stop_a (by omega) | exact stop_n (by omega))]; first | done | rfl, rfl⟩
              ·
                replace c9 := of_decide_eq_false c9
                refine dv (gyes_none rfl) (q_pf (v := .bool false) rfl rfl) rfl (by decide) (call_ok rfl) ?_
                refine ⟨_, Wk.refl _ _, ?_⟩
                show awp _ _ _ _ _ _ _
                refine awp_cond_f rfl ?_
                refine awp_skip_wk ?_
                refine ⟨_, Wk.refl _ _, ?_⟩
                show awp _ _ _ _ _ _ _
                refine awp_seq ?_
                refine awp_regs hF ?_
                refine dv (gyes_none rfl) (q_load (v := .int .u64 ((a : Nat) : Int)) Try.isAgg27 rfl (s81.rd (j := 3) rfl) rfl) rfl (by decide) (cok1 trivial) ?_
                refine x_store1 [] hF s81 (by kernel_rfl) (gyes_none rfl) (j := 5) (v := .int .u64 ((a : Nat) : Int)) rfl Try.sizeOf27 rfl rfl rfl (lc_scalar rfl) (Nat.le_of_ble_eq_true rfl) trivial trivial rfl rfl (F' := [(d47, .mark), (b41, .cells true [.pointer (some ⟨bs, 0, none⟩)] 1), (b33, .cells true [.bool o] 1), (b29, .cells true [.int .u64 ((a : Nat) : Int)] 1), (b17, .cells true [.bool false] 1), (b13, .cells true [.int .u64 ((a : Nat) : Int)] 1), (b9, .cells true [.int .u64 ((iv.1 : Nat) : Int), .int .u64 ((iv.2 : Nat) : Int)] 2), (b5, .cells true [.int .u64 ((al : Nat) : Int)] 1), (b1, .cells true [.int .u64 ((n : Nat) : Int)] 1)]) rfl (fun H90 s91 => ⟨?_, ?_⟩)
                · exact trivial
                refine x_store1 [] hF s91 (by kernel_rfl) (gyes_none rfl) (j := 4) (v := .bool true) rfl Try.sizeOf4 rfl rfl rfl (lc_scalar rfl) (Nat.le_of_ble_eq_true rfl) trivial (cconst rfl) rfl rfl (F' := [(d47, .mark), (b41, .cells true [.pointer (some ⟨bs, 0, none⟩)] 1), (b33, .cells true [.bool o] 1), (b29, .cells true [.int .u64 ((a : Nat) : Int)] 1), (b17, .cells true [.bool true] 1), (b13, .cells true [.int .u64 ((a : Nat) : Int)] 1), (b9, .cells true [.int .u64 ((iv.1 : Nat) : Int), .int .u64 ((iv.2 : Nat) : Int)] 2), (b5, .cells true [.int .u64 ((al : Nat) : Int)] 1), (b1, .cells true [.int .u64 ((n : Nat) : Int)] 1)]) rfl (fun H92 s93 => ⟨?_, ?_⟩)
                · exact trivial
                refine ⟨_, Wk.refl _ _, ?_⟩
                show awp _ _ _ _ _ _ _
                refine awp_ret_wk ?_
                refine ⟨_, Wk.refl _ _, ?_⟩
                repeat (with_reducible first | refine then_ret ?_ | refine blk_ret ?_ | refine then_exit ?_ | refine blk_exit ?_ | refine blk_exit' (by decide) ?_ | refine blk_normal ?_ | refine then_normal ?_ | refine retq_ret ?_ | refine retq_normal ?_ | refine ng_normal ?_ | refine ng_ret ?_ | refine ng_exit ?_)
                exact ret_noneD (v := .tuple #[.int .u64 ((a : Nat) : Int), .bool true]) rfl (s93.setAt (j := 0) rfl .none).kp (.cell rfl Try.isAgg27 ((s93.setAt (j := 0) rfl .none).rd (j := 5) rfl) rfl (.cell rfl Try.isAgg4 ((s93.setAt (j := 0) rfl .none).rd (j := 4) rfl) rfl .nil)) rfl rfl ⟨by rw [fitV_t (by omega) (lt_succ_casesN hs (by rw [← ha.1]; exact stop_f (by assumption) (by omega) (by omega))), ← ha.1]; first | done | rfl, rfl⟩
          ·
            refine dv (gyes_none rfl) (q_not (b := false) rfl) rfl (by decide) (cok1 trivial) ?_
            refine dv (gyes_none rfl) (q_mv (v := .bool true) rfl) rfl (by decide) (cok1 trivial) ?_
            refine dno rfl (.inl rfl) rfl (by decide) ?_
            refine dno rfl (.inl rfl) rfl (by decide) ?_
            refine dno rfl (.inl rfl) rfl (by decide) ?_
            refine dno rfl (.inl rfl) rfl (by decide) ?_
            refine dv (gyes_none rfl) (q_pt (v := .bool true) rfl rfl) rfl (by decide) (call_ok rfl) ?_
            refine dv (gyes_none rfl) (q_mv (v := .bool true) rfl) rfl (by decide) (cok1 trivial) ?_
            refine dno rfl (.inl rfl) rfl (by decide) ?_
            refine dno rfl (.inl rfl) rfl (by decide) ?_
            refine dno rfl (.inl rfl) rfl (by decide) ?_
            refine dno rfl (.inl rfl) rfl (by decide) ?_
            refine dno rfl (.inl rfl) rfl (by decide) ?_
            refine dno rfl (.inl rfl) rfl (by decide) ?_
            refine dv (gyes_none rfl) (q_pt (v := .bool true) rfl rfl) rfl (by decide) (call_ok rfl) ?_
            refine ⟨_, Wk.refl _ _, ?_⟩
            show awp _ _ _ _ _ _ _
            refine awp_cond_t rfl ?_
            refine awp_seq ?_
            refine awp_regs hF ?_
            refine x_store1 [] hF s81 (by kernel_rfl) (gyes_none rfl) (j := 5) (v := .int .u64 0) rfl Try.sizeOf27 rfl rfl rfl (lc_scalar rfl) (Nat.le_of_ble_eq_true rfl) trivial (cconst rfl) rfl rfl (F' := [(d47, .mark), (b41, .cells true [.pointer (some ⟨bs, 0, none⟩)] 1), (b33, .cells true [.bool o] 1), (b29, .cells true [.int .u64 ((a : Nat) : Int)] 1), (b17, .cells true [.bool false] 1), (b13, .cells true [.int .u64 0] 1), (b9, .cells true [.int .u64 ((iv.1 : Nat) : Int), .int .u64 ((iv.2 : Nat) : Int)] 2), (b5, .cells true [.int .u64 ((al : Nat) : Int)] 1), (b1, .cells true [.int .u64 ((n : Nat) : Int)] 1)]) rfl (fun H94 s95 => ⟨?_, ?_⟩)
            · exact trivial
            refine x_store1 [] hF s95 (by kernel_rfl) (gyes_none rfl) (j := 4) (v := .bool false) rfl Try.sizeOf4 rfl rfl rfl (lc_scalar rfl) (Nat.le_of_ble_eq_true rfl) trivial (cconst rfl) rfl rfl (F' := [(d47, .mark), (b41, .cells true [.pointer (some ⟨bs, 0, none⟩)] 1), (b33, .cells true [.bool o] 1), (b29, .cells true [.int .u64 ((a : Nat) : Int)] 1), (b17, .cells true [.bool false] 1), (b13, .cells true [.int .u64 0] 1), (b9, .cells true [.int .u64 ((iv.1 : Nat) : Int), .int .u64 ((iv.2 : Nat) : Int)] 2), (b5, .cells true [.int .u64 ((al : Nat) : Int)] 1), (b1, .cells true [.int .u64 ((n : Nat) : Int)] 1)]) rfl (fun H96 s97 => ⟨?_, ?_⟩)
            · exact trivial
            refine ⟨_, Wk.refl _ _, ?_⟩
            show awp _ _ _ _ _ _ _
            refine awp_ret_wk ?_
            refine ⟨_, Wk.refl _ _, ?_⟩
            repeat (with_reducible first | refine then_ret ?_ | refine blk_ret ?_ | refine then_exit ?_ | refine blk_exit ?_ | refine blk_exit' (by decide) ?_ | refine blk_normal ?_ | refine then_normal ?_ | refine retq_ret ?_ | refine retq_normal ?_ | refine ng_normal ?_ | refine ng_ret ?_ | refine ng_exit ?_)
            exact ret_noneD (v := .tuple #[.int .u64 0, .bool false]) rfl (s97.setAt (j := 0) rfl .none).kp (.cell rfl Try.isAgg27 ((s97.setAt (j := 0) rfl .none).rd (j := 5) rfl) rfl (.cell rfl Try.isAgg4 ((s97.setAt (j := 0) rfl .none).rd (j := 4) rfl) rfl .nil)) rfl rfl ⟨by rw [fitV_s (Nat.le_refl _) (by rw [← ha.1]; first | exact stop_o (by assumption) | exact stop_a (by omega) | exact stop_n (by omega))]; first | done | rfl, rfl⟩
        ·
          refine ⟨(by
              intro e he
              rcases List.mem_cons.1 he with rfl | he
              · exact s80.getj (j := 1) rfl
              · cases he), .inr ⟨_, s80.getj (j := 0) rfl, ?_⟩⟩
          have s98 := (s80.setAt (j := 0) rfl .none).forget 0
          refine awp_ret_wk ?_
          refine ⟨_, Wk.refl _ _, ?_⟩
          repeat (with_reducible first | refine then_ret ?_ | refine blk_ret ?_ | refine then_exit ?_ | refine blk_exit ?_ | refine blk_exit' (by decide) ?_ | refine blk_normal ?_ | refine then_normal ?_ | refine retq_ret ?_ | refine retq_normal ?_ | refine ng_normal ?_ | refine ng_ret ?_ | refine ng_exit ?_)
          exact ret_noneD (v := .tuple #[.int .u64 0, .bool false]) rfl (s98.setAt (j := 0) rfl .none).kp (.cell rfl Try.isAgg27 ((s98.setAt (j := 0) rfl .none).rd (j := 5) rfl) rfl (.cell rfl Try.isAgg4 ((s98.setAt (j := 0) rfl .none).rd (j := 4) rfl) rfl .nil)) rfl rfl ⟨by rw [hf]; first | done | rfl, rfl⟩
end Go.Proofs.YtjgeheookgogaaaA


/-
  Walks of functions of the given program, and what they compute.
-/
namespace Go.Proofs.YtjgeheookgogaaaA
set_option linter.unusedVariables false
open Go Go.RowKit Go.Shelf Go.Proofs
set_option maxRecDepth 100000 in
set_option maxHeartbeats 4000000 in
theorem remove_ok {H0 : AHeap} (bs bl : Nat) (l : List Sp) (hl : l.length ≤ 900) (hnd : [bs, bl].Nodup) (h1 : H0[bs]? = some (.cells true [.slice (some ⟨bl, 0, none⟩) l.length l.length] 1)) (h2 : H0[bl]? = some (.cells true (fl spc l) 2)) (x : Sp) : ACalls Try.prog 21 [.pointer (some ⟨bs, 0, none⟩), .agg #[.int .u64 ((x.1 : Nat) : Int), .int .u64 ((x.2 : Nat) : Int)]] H0 (fun v H' => ∃ (ok : Bool) (L : List Sp) (bn : Nat), v = .bool ok ∧ RemR l x ok L ∧ Kp (· ∈ [bs, bl]) H0 H' ∧ (H0.length ≤ bn ∨ bn ∈ [bs, bl]) ∧ bn ≠ bs ∧ H'[bs]? = some (.cells true [.slice (some ⟨bn, 0, none⟩) L.length L.length] 1) ∧ H'[bn]? = some (.cells true (fl spc L) 2)) := by
  have hF : Wd Fence.wide := .inl rfl
  have hM : Try.prog.follows .mixedOrders = true := by kernel_rfl
  have s0 : St H0 (· ∈ [bs, bl]) (Off H0 [bs, bl]) H0 [(bs, .cells true [.slice (some ⟨bl, 0, none⟩) l.length l.length] 1), (bl, .cells true (fl spc l) 2)] := St.beginL [(bs, .cells true [.slice (some ⟨bl, 0, none⟩) l.length l.length] 1), (bl, .cells true (fl spc l) 2)] hnd (allAt_mem ⟨h1, h2, trivial⟩)
  refine acalls_st Try.func21 rfl Try.ntmps21 rfl ?_
  refine awp_seq ?_
  refine awp_regs hF ?_
  refine x_new (fun b => .pointer (some ⟨b, 0, none⟩)) s0 (gyes_none rfl) (q_box (v := .agg #[.int .u64 ((x.1 : Nat) : Int), .int .u64 ((x.2 : Nat) : Int)]) (vs := [.int .u64 ((x.1 : Nat) : Int), .int .u64 ((x.2 : Nat) : Int)]) 2 rfl (by exact trivial) rfl) rfl (by decide) (cok1 trivial) (fun b1 H2 hb4 s3 => ?_)
  refine dv (gyes_none rfl) (q_as (v := .bool false) rfl) rfl (by decide) (cok1 (cconst rfl)) ?_
  refine ⟨_, Wk.refl _ _, ?_⟩
  show awp _ _ _ _ _ _ _
  refine awp_seq ?_
  refine awp_seq ?_
  refine awp_regs hF ?_
  refine dv (gyes_none rfl) (q_loadAgg Try.isAgg30 Try.sizeOf30 rfl (s3.rd (j := 0) rfl) (Nat.le_of_ble_eq_true rfl) rfl) rfl (by decide) (cok1 trivial) ?_
  refine dvb (gyes_none rfl) (q_call0 Try.call27 rfl (empty_ok x)) rfl (by decide) (cok2 trivial trivial) (fun c1 => ?_) (fun c1 => ?_)
  ·
    replace c1 := of_decide_eq_true c1
    refine dv (gyes_none rfl) (q_mv (v := .bool true) rfl) rfl (by decide) (cok1 trivial) ?_
    refine dno rfl (.inl rfl) rfl (by decide) ?_
    refine dno rfl (.inl rfl) rfl (by decide) ?_
    refine dno rfl (.inl rfl) rfl (by decide) ?_
    refine dno rfl (.inl rfl) rfl (by decide) ?_
    refine dv (gyes_none rfl) (q_pt (v := .bool true) rfl rfl) rfl (by decide) (call_ok rfl) ?_
    refine ⟨_, Wk.refl _ _, ?_⟩
    show awp _ _ _ _ _ _ _
    refine awp_cond_t rfl ?_
    refine awp_seq ?_
    refine awp_regs hF ?_
    refine dv (gyes_none rfl) (q_as (v := .bool false) rfl) rfl (by decide) (cok1 (cconst rfl)) ?_
    refine ⟨_, Wk.refl _ _, ?_⟩
    show awp _ _ _ _ _ _ _
    refine awp_ret_wk ?_
    refine ⟨_, Wk.refl _ _, ?_⟩
    repeat (with_reducible first | refine then_ret ?_ | refine blk_ret ?_ | refine then_exit ?_ | refine blk_exit ?_ | refine blk_exit' (by decide) ?_ | refine blk_normal ?_ | refine then_normal ?_ | refine retq_ret ?_ | refine retq_normal ?_ | refine ng_normal ?_ | refine ng_ret ?_ | refine ng_exit ?_)
    refine ret_is (v := .bool false) rfl (.tmp rfl .nil) rfl ?_
    exact ⟨_, l, _, rfl, .inl ⟨rfl, by first | exact .inl (by assumption) | exact .inr (by assumption), rfl⟩, s3.kp, s3.own _ (List.mem_of_getElem? (i := 2) rfl), s3.nej (i := 2) (j := 1) rfl rfl (by decide), s3.getj (j := 1) rfl, s3.getj (j := 2) rfl⟩
  ·
    replace c1 := of_decide_eq_false c1
    refine dv (gyes_none rfl) (q_mv (v := .bool false) rfl) rfl (by decide) (cok1 trivial) ?_
    refine dv (gyes_some rfl rfl) (q_mv (v := .pointer (some ⟨bs, 0, none⟩)) rfl) rfl (by decide) (cok1 trivial) ?_
    refine dv (gyes_some rfl rfl) (q_loadAgg Try.isAgg30 Try.sizeOf30 rfl (s3.rd (j := 0) rfl) (Nat.le_of_ble_eq_true rfl) rfl) rfl (by decide) (cok1 trivial) ?_
    refine dvb (gyes_some rfl rfl) (q_call0 Try.call14 rfl (covers_ok bs _ l (s3.rd (j := 1) rfl) (s3.slsj (l := l) spc_w (j := 2) rfl rfl (Nat.le_refl _)) (by omega) x)) rfl (by decide) (call_ok rfl) (fun c2 => ?_) (fun c2 => ?_)
    ·
      refine dv (gyes_some rfl rfl) (q_not (b := true) rfl) rfl (by decide) (cok1 trivial) ?_
      refine dv (gyes_none rfl) (q_pf (v := .bool false) rfl rfl) rfl (by decide) (call_ok rfl) ?_
      refine ⟨_, Wk.refl _ _, ?_⟩
      show awp _ _ _ _ _ _ _
      refine awp_cond_f rfl ?_
      refine awp_skip_wk ?_
      refine ⟨_, Wk.refl _ _, ?_⟩
      show awp _ _ _ _ _ _ _
      refine awp_seq ?_
      refine awp_regs hF ?_
      refine x_new (fun b => .pointer (some ⟨b, 0, none⟩)) s3 (gyes_none rfl) (q_alloc (vs := [.slice none 0 0]) 1 Try.zeroValue24 (by first | exact flat_scalar rfl | exact flat_agg rfl) rfl) rfl (by decide) (by simp [Op.operands, Call.operands]) (fun b5 H6 hb8 s7 => ?_)
      refine ⟨_, Wk.refl _ _, ?_⟩
      show awp _ _ _ _ _ _ _
      refine awp_seq ?_
      refine awp_seq ?_
      refine awp_nilc s7 (j := 0) (o := 0) (sz' := 2) rfl rfl (fun b9 H10 hb12 s11 => ?_)
      refine awp_regs hF ?_
      refine dv (gyes_none rfl) (q_mv (v := .pointer (some ⟨bs, 0, none⟩)) rfl) rfl (by decide) (cok1 trivial) ?_
      refine x_call [] hF (by kernel_rfl) (gyes_none rfl) Try.call11 rfl (args := [.pointer (some ⟨bs, 0, none⟩)]) rfl (all_ok bs _ (s11.rd (j := 3) rfl)) (show _ < _ by decide) (call_ok rfl) rfl rfl (fun _ _ _ _ hd => by cases hd) ?_
      rintro _ H14 ⟨b13, rfl, hn15⟩
      have s16 := s11.callL hn15
      refine ⟨trivial, ?_⟩
      show dList _ _ _ _ _ _ _ _ _ _
      refine ⟨_, Wk.refl _ _, ?_⟩
      show awp _ _ _ _ _ _ _
      refine awp_block ?_
      refine range_st s16 rfl Try.call29 (fun fn17 lp18 d19 l20 H21 hlp22 hd23 s24 => ?_)
      refine (alls1_ok (H0 := H21) b13 bs (.slice (some ⟨bl, 0, none⟩) l.length l.length) l (by omega) _ (fun (k : Nat) (H25 : AHeap) => ∃ (bo : Nat) (m : Nat) (g : List Sp), St H0 ((· ∈ [bs, bl])) (Off H0 [bs, bl]) H25 [(l20, lp18 .ready none), (d19, .mark), (b13, .cells true [.pointer (some ⟨bs, 0, none⟩)] 1), (bo, .cells true (fl spc g) 2), (b5, .cells true [.slice (some ⟨bo, 0, none⟩) m m] 1), (b1, .cells true [.int .u64 ((x.1 : Nat) : Int), .int .u64 ((x.2 : Nat) : Int)] 2), (bs, .cells true [.slice (some ⟨bl, 0, none⟩) l.length l.length] 1), (bl, .cells true (fl spc l) 2)] ∧ (g = remA x l k ∧ m = g.length ∧ m ≤ 2 * k)) (fun _ _ => False) ?h00 (fun _ _ _ ⟨bo, m, g, s_, hg⟩ k_ => ⟨bo, m, g, s_.call0 k_, hg⟩) ?hb ?round).mono ?after
      case h00 => exact ⟨_, 0, [], s24, ⟨rfl, rfl, Nat.zero_le _⟩⟩
      case hb =>
        rintro k H25 ⟨bo, m, g, s26, hg⟩
        exact ⟨s26.rd (j := 2) rfl, s26.rd (j := 6) rfl, s26.slsj (l := l) spc_w (j := 7) rfl rfl (Nat.le_refl _)⟩
      case round =>
        rintro k H25  ⟨bo, m, g, s26, hg⟩ hx
        refine ylds_roundB hlp22 (s26.getj (j := 0) rfl) rfl rfl (fun l27 hF => ?_)
        refine awp_regs hF ?_
        refine x_new (fun b => .pointer (some ⟨b, 0, none⟩)) s26 (gyes_none rfl) (q_alloc (vs := [.int .u64 0, .int .u64 0]) 2 Try.zeroValue30 (by first | exact flat_scalar rfl | exact flat_agg rfl) rfl) rfl (by decide) (by simp [Op.operands, Call.operands]) (fun b28 H29 hb31 s30 => ?_)
        refine x_store [] hF s30 (by kernel_rfl) (gyes_none rfl) (j := 0) (v := .agg #[.int .u64 (((nth l k).1 : Nat) : Int), .int .u64 (((nth l k).2 : Nat) : Int)]) rfl Try.sizeOf30 rfl rfl rfl rfl rfl trivial (lcsA ⟨(lc_scalar rfl), (lc_scalar rfl), trivial⟩) (Nat.le_of_ble_eq_true rfl) trivial trivial rfl rfl (F' := [(b28, .cells true [.int .u64 (((nth l k).1 : Nat) : Int), .int .u64 (((nth l k).2 : Nat) : Int)] 2), (l20, lp18 .ready none), (d19, .mark), (b13, .cells true [.pointer (some ⟨bs, 0, none⟩)] 1), (bo, .cells true (fl spc g) 2), (b5, .cells true [.slice (some ⟨bo, 0, none⟩) m m] 1), (b1, .cells true [.int .u64 ((x.1 : Nat) : Int), .int .u64 ((x.2 : Nat) : Int)] 2), (bs, .cells true [.slice (some ⟨bl, 0, none⟩) l.length l.length] 1), (bl, .cells true (fl spc l) 2)]) rfl (fun H32 s33 => ⟨?_, ?_⟩)
        · exact trivial
        refine ⟨_, Wk.refl _ _, ?_⟩
        refine then_normal ?_
        refine ⟨_, _, rfl, s33.getj (j := 1) rfl, ?body⟩
        case body =>
          have s34 := s33.setAt (j := 1) rfl (lp18 .busy none)
          show awp _ _ _ _ _ _ _
          refine awp_block ?_
          refine awp_seq ?_
          refine awp_seq ?_
          refine awp_regs hF ?_
          refine dv (gyes_none rfl) (q_loadAgg Try.isAgg30 Try.sizeOf30 rfl (s34.rd (j := 6) rfl) (Nat.le_of_ble_eq_true rfl) rfl) rfl (by decide) (cok1 trivial) ?_
          refine dv (gyes_none rfl) (q_loadAgg Try.isAgg30 Try.sizeOf30 rfl (s34.rd (j := 0) rfl) (Nat.le_of_ble_eq_true rfl) rfl) rfl (by decide) (cok1 trivial) ?_
          refine dvb (gyes_none rfl) (q_call0 Try.call18 rfl (spwithin_ok x (nth l k))) rfl (by decide) (call_ok rfl) (fun c3 => ?_) (fun c3 => ?_)
          ·
            refine dv (gyes_none rfl) (q_not (b := true) rfl) rfl (by decide) (cok1 trivial) ?_
            refine ⟨_, Wk.refl _ _, ?_⟩
            show awp _ _ _ _ _ _ _
            refine awp_cond_f rfl ?_
            refine awp_skip_wk ?_
            refine ⟨_, Wk.refl _ _, ?_⟩
            show awp _ _ _ _ _ _ _
            refine awp_seq ?_
            refine awp_regs hF ?_
            refine dv (gyes_none rfl) (q_field Try.underlying30 rfl Try.sizeOf27 rfl (s34.rd (j := 0) rfl)) rfl (by decide) (cok1 trivial) ?_
            refine dv (gyes_none rfl) (q_load (v := .int .u64 (((nth l k).1 : Nat) : Int)) Try.isAgg27 rfl (s34.rd (j := 0) rfl) rfl) rfl (by decide) (cok1 trivial) ?_
            refine dv (gyes_none rfl) (q_field Try.underlying30 rfl Try.sizeOf27 rfl (s34.rd (j := 6) rfl)) rfl (by decide) (cok1 trivial) ?_
            refine dv (gyes_none rfl) (q_load (v := .int .u64 ((x.1 : Nat) : Int)) Try.isAgg27 rfl (s34.rd (j := 6) rfl) rfl) rfl (by decide) (cok1 trivial) ?_
            refine dv (gyes_none rfl) (q_buildL (ds := [.int .u64 (((nth l k).1 : Nat) : Int), .int .u64 ((x.1 : Nat) : Int)]) [(0, 1), (1, 1)] [.int .u64 (((nth l k).1 : Nat) : Int), .int .u64 ((x.1 : Nat) : Int)] Try.underlying30 Try.zeroValue30 (by first | exact flat_agg rfl | exact flat_scalar rfl) (by kernel_rfl) ⟨rfl, rfl, trivial⟩ (lvsC (by exact trivial) (lvsC (by exact trivial) lvs0)) rfl) rfl (by decide) (cok2 trivial trivial) ?_
            refine dv (gyes_none rfl) (q_field Try.underlying30 rfl Try.sizeOf27 rfl (s34.rd (j := 6) rfl)) rfl (by decide) (cok1 trivial) ?_
            refine dv (gyes_none rfl) (q_load (v := .int .u64 ((x.2 : Nat) : Int)) Try.isAgg27 rfl (s34.rd (j := 6) rfl) rfl) rfl (by decide) (cok1 trivial) ?_
            refine dv (gyes_none rfl) (q_field Try.underlying30 rfl Try.sizeOf27 rfl (s34.rd (j := 0) rfl)) rfl (by decide) (cok1 trivial) ?_
            refine dv (gyes_none rfl) (q_load (v := .int .u64 (((nth l k).2 : Nat) : Int)) Try.isAgg27 rfl (s34.rd (j := 0) rfl) rfl) rfl (by decide) (cok1 trivial) ?_
            refine dv (gyes_none rfl) (q_buildL (ds := [.int .u64 ((x.2 : Nat) : Int), .int .u64 (((nth l k).2 : Nat) : Int)]) [(0, 1), (1, 1)] [.int .u64 ((x.2 : Nat) : Int), .int .u64 (((nth l k).2 : Nat) : Int)] Try.underlying30 Try.zeroValue30 (by first | exact flat_agg rfl | exact flat_scalar rfl) (by kernel_rfl) ⟨rfl, rfl, trivial⟩ (lvsC (by exact trivial) (lvsC (by exact trivial) lvs0)) rfl) rfl (by decide) (cok2 trivial trivial) ?_
            refine dv (gyes_none rfl) (q_buildArrL (ds := [.int .u64 (((nth l k).1 : Nat) : Int), .int .u64 ((x.1 : Nat) : Int), .int .u64 ((x.2 : Nat) : Int), .int .u64 (((nth l k).2 : Nat) : Int)]) [.agg #[.int .u64 (((nth l k).1 : Nat) : Int), .int .u64 ((x.1 : Nat) : Int)], .agg #[.int .u64 ((x.2 : Nat) : Int), .int .u64 (((nth l k).2 : Nat) : Int)]] Try.underlying54 Try.sizeOf30 Try.zeroValue54 (by first | exact flat_agg rfl | exact flat_scalar rfl) ⟨rfl, rfl, trivial⟩ (lvsC (by exact trivial) (lvsC (by exact trivial) lvs0)) rfl) rfl (by decide) (cok2 trivial trivial) ?_
            refine dv (gyes_none rfl) (q_mv (v := .int .i64 0) rfl) rfl (by decide) (cok1 (cconst rfl)) ?_
            refine ⟨_, Wk.refl _ _, ?_⟩
            show awp _ _ _ _ _ _ _
            refine awp_block ?_
            refine awp_wk (Wk.U [(0, .pointer (some ⟨bs, 0, none⟩)), (3, .pointer (some ⟨b1, 0, none⟩)), (5, .pointer (some ⟨b5, 0, none⟩)), (38, .agg #[.int .u64 (((nth l k).1 : Nat) : Int), .int .u64 ((x.1 : Nat) : Int), .int .u64 ((x.2 : Nat) : Int), .int .u64 (((nth l k).2 : Nat) : Int)]), (39, .int .i64 0)] ⟨rfl, rfl, rfl, rfl, rfl, trivial⟩) ?_
            refine awp_loop (fun ((i, m2, g2) : Nat × Nat × (List Sp)) st => ∃ (H35 : AHeap) (b2 : Nat), st = ⟨54, U [(0, .pointer (some ⟨bs, 0, none⟩)), (3, .pointer (some ⟨b1, 0, none⟩)), (5, .pointer (some ⟨b5, 0, none⟩)), (38, .agg #[.int .u64 (((nth l k).1 : Nat) : Int), .int .u64 ((x.1 : Nat) : Int), .int .u64 ((x.2 : Nat) : Int), .int .u64 (((nth l k).2 : Nat) : Int)]), (39, .int .i64 ((i : Nat) : Int))], [], H35⟩ ∧ St H0 ((· ∈ [bs, bl])) (Off H0 [bs, bl]) H35 [(b28, .cells true [.int .u64 (((nth l k).1 : Nat) : Int), .int .u64 (((nth l k).2 : Nat) : Int)] 2), (l20, lp18 .busy none), (d19, .mark), (b13, .cells true [.pointer (some ⟨bs, 0, none⟩)] 1), (b2, .cells true (fl spc g2) 2), (b5, .cells true [.slice (some ⟨b2, 0, none⟩) m2 m2] 1), (b1, .cells true [.int .u64 ((x.1 : Nat) : Int), .int .u64 ((x.2 : Nat) : Int)] 2), (bs, .cells true [.slice (some ⟨bl, 0, none⟩) l.length l.length] 1), (bl, .cells true (fl spc l) 2)] ∧ (g2 = g ++ remP x (nth l k) i ∧ m2 = g2.length ∧ m2 ≤ m + i ∧ i ≤ 2)) (fun ((i, m2, g2) : Nat × Nat × (List Sp)) => 2 - i) (x0 := (0, m, g)) ?h0 ?round
            case h0 =>
              exact ⟨_, _, rfl, s34, ⟨(List.append_nil _).symm, hg.2.1, Nat.le_refl _, by decide⟩⟩
            case round =>
              rintro ⟨i, m2, g2⟩ _ ⟨H35, b2, rfl, s36, hgg⟩
              dsimp only at *
              refine awp_seq ?_
              refine awp_regs hF ?_
              refine dvb (gyes_none rfl) (q_int rfl rfl rfl) rfl (by decide) (cok2 trivial (cconst rfl)) (fun c4 => ?_) (fun c4 => ?_)
              ·
                replace c4 := of_decide_eq_true c4
                refine ⟨_, Wk.refl _ _, ?_⟩
                show awp _ _ _ _ _ _ _
                refine awp_seq ?_
                refine awp_cond_t rfl ?_
                refine awp_skip_wk ?_
                refine ⟨_, Wk.refl _ _, ?_⟩
                show awp _ _ _ _ _ _ _
                refine awp_seq ?_
                refine awp_block ?_
                refine awp_seq ?_
                refine awp_regs hF ?_
                refine dv (gyes_none rfl) (OpQ.cast (v' := .agg #[.int .u64 (((p2 x (nth l k) i).1 : Nat) : Int), .int .u64 (((p2 x (nth l k) i).2 : Nat) : Int)]) (q_indexA (i := i) Try.underlying54 Try.isAgg30 Try.sizeOf30 rfl rfl (by omega)) (congrArg Value.agg (p2X x (nth l k) i (by omega)))) rfl (by decide) (cok2 trivial trivial) ?_
                refine x_new (fun b => .pointer (some ⟨b, 0, none⟩)) s36 (gyes_none rfl) (q_alloc (vs := [.int .u64 0, .int .u64 0]) 2 Try.zeroValue30 (by first | exact flat_scalar rfl | exact flat_agg rfl) rfl) rfl (by decide) (by simp [Op.operands, Call.operands]) (fun b37 H38 hb40 s39 => ?_)
                refine x_store [] hF s39 (by kernel_rfl) (gyes_none rfl) (j := 0) (v := .agg #[.int .u64 (((p2 x (nth l k) i).1 : Nat) : Int), .int .u64 (((p2 x (nth l k) i).2 : Nat) : Int)]) rfl Try.sizeOf30 rfl rfl rfl rfl rfl trivial (lcsA ⟨(lc_scalar rfl), (lc_scalar rfl), trivial⟩) (Nat.le_of_ble_eq_true rfl) trivial trivial rfl rfl (F' := [(b37, .cells true [.int .u64 (((p2 x (nth l k) i).1 : Nat) : Int), .int .u64 (((p2 x (nth l k) i).2 : Nat) : Int)] 2), (b28, .cells true [.int .u64 (((nth l k).1 : Nat) : Int), .int .u64 (((nth l k).2 : Nat) : Int)] 2), (l20, lp18 .busy none), (d19, .mark), (b13, .cells true [.pointer (some ⟨bs, 0, none⟩)] 1), (b2, .cells true (fl spc g2) 2), (b5, .cells true [.slice (some ⟨b2, 0, none⟩) m2 m2] 1), (b1, .cells true [.int .u64 ((x.1 : Nat) : Int), .int .u64 ((x.2 : Nat) : Int)] 2), (bs, .cells true [.slice (some ⟨bl, 0, none⟩) l.length l.length] 1), (bl, .cells true (fl spc l) 2)]) rfl (fun H41 s42 => ⟨?_, ?_⟩)
                · exact trivial
                refine ⟨_, Wk.refl _ _, ?_⟩
                show awp _ _ _ _ _ _ _
                refine awp_seq ?_
                refine awp_regs hF ?_
                refine dv (gyes_none rfl) (q_loadAgg Try.isAgg30 Try.sizeOf30 rfl (s42.rd (j := 0) rfl) (Nat.le_of_ble_eq_true rfl) rfl) rfl (by decide) (cok1 trivial) ?_
                refine dvb (gyes_none rfl) (q_call0 Try.call27 rfl (empty_ok (p2 x (nth l k) i))) rfl (by decide) (cok2 trivial trivial) (fun c5 => ?_) (fun c5 => ?_)
                ·
                  replace c5 := of_decide_eq_true c5
                  refine dv (gyes_none rfl) (q_not (b := true) rfl) rfl (by decide) (cok1 trivial) ?_
                  refine ⟨_, Wk.refl _ _, ?_⟩
                  show awp _ _ _ _ _ _ _
                  refine awp_cond_f rfl ?_
                  refine awp_skip_wk ?_
                  refine ⟨_, Wk.refl _ _, ?_⟩
                  show awp _ _ _ _ _ _ _
                  refine awp_regs hF ?_
                  refine dv (gyes_none rfl) (OpQ.cast (v' := .int .i64 ((i + 1 : Nat) : Int)) (q_int rfl rfl rfl) (congrArg _ ((i64_in (by omega)).trans (by first | rfl | omega | (push_cast; rfl))))) rfl (by decide) (cok2 trivial (cconst rfl)) ?_
                  refine dv (gyes_none rfl) (q_mv (v := .int .i64 ((i + 1 : Nat) : Int)) rfl) rfl (by decide) (cok1 trivial) ?_
                  refine ⟨_, Wk.U [(0, .pointer (some ⟨bs, 0, none⟩)), (3, .pointer (some ⟨b1, 0, none⟩)), (5, .pointer (some ⟨b5, 0, none⟩)), (38, .agg #[.int .u64 (((nth l k).1 : Nat) : Int), .int .u64 ((x.1 : Nat) : Int), .int .u64 ((x.2 : Nat) : Int), .int .u64 (((nth l k).2 : Nat) : Int)]), (39, .int .i64 (((i + 1) : Nat) : Int))] ⟨rfl, rfl, rfl, rfl, rfl, trivial⟩, ((i + 1), m2, g2), ⟨_, _, rfl, (s42.sub (.cons _ (.cons_cons _ (.cons_cons _ (.cons_cons _ (.cons_cons _ (.cons_cons _ (.cons_cons _ (.cons_cons _ (.cons_cons _ (.cons_cons _ (.refl _)))))))))))), ⟨by rw [remP_e (by assumption)]; first | (rw [← List.append_assoc, ← hgg.1]) | exact hgg.1, by dsimp only; first | (rw [List.length_append, hgg.2.1]; rfl) | exact hgg.2.1, by dsimp only; omega, by dsimp only; omega⟩⟩, (by omega)⟩
                ·
                  replace c5 := of_decide_eq_false c5
                  refine dv (gyes_none rfl) (q_not (b := false) rfl) rfl (by decide) (cok1 trivial) ?_
                  refine ⟨_, Wk.refl _ _, ?_⟩
                  show awp _ _ _ _ _ _ _
                  refine awp_cond_t rfl ?_
                  refine awp_regs hF ?_
                  refine dv (gyes_none rfl) (q_load (v := .slice (some ⟨b2, 0, none⟩) m2 m2) Try.isAgg24 rfl (s42.rd (j := 6) rfl) rfl) rfl (by decide) (cok1 trivial) ?_
                  refine dv (gyes_none rfl) (q_loadAgg Try.isAgg30 Try.sizeOf30 rfl (s42.rd (j := 0) rfl) (Nat.le_of_ble_eq_true rfl) rfl) rfl (by decide) (cok1 trivial) ?_
                  refine x_new (fun b => .slice (some ⟨b, 0, none⟩) 1 1) s42 (gyes_none rfl) (q_buildSliceL (ds := [.int .u64 (((p2 x (nth l k) i).1 : Nat) : Int), .int .u64 (((p2 x (nth l k) i).2 : Nat) : Int)]) [.agg #[.int .u64 (((p2 x (nth l k) i).1 : Nat) : Int), .int .u64 (((p2 x (nth l k) i).2 : Nat) : Int)]] rfl Try.underlying24 Try.sizeOf30 Try.zeroValue30 rfl (by decide) (by decide) ⟨rfl, trivial⟩ (lvsC (by exact trivial) lvs0) rfl rfl) rfl (by decide) (cok1 trivial) (fun b43 H44 hb46 s45 => ?_)
                  refine x_appendS (m := 2) (l := [((p2 x (nth l k) i).1, (p2 x (nth l k) i).2)]) (l0 := g2) (l' := g2 ++ [p2 x (nth l k) i]) (f := spc) [] hF s45 (by kernel_rfl) (j := 6) (m2 + 1) rfl (gyes_none rfl) Try.underlying24 Try.underlying24 Try.type30 rfl rfl (by decide) rfl spc_w rfl rfl rfl (s45.slsj (l := [((p2 x (nth l k) i).1, (p2 x (nth l k) i).2)]) spc_w (j := 0) rfl rfl (Nat.le_refl _)) (fun x _ u hu => lc_scalar (spc_sc x u hu)) hgg.2.1 (by show (2 * (m2 + 1) + 1000) * 16 ≤ _; omega) trivial trivial (by decide) rfl rfl rfl (fun b47 H48 hb50 s49 => ⟨?_, ?_⟩)
                  · exact trivial
                  refine x_store1 [] hF s49 (by kernel_rfl) (gyes_none rfl) (j := 7) (v := .slice (some ⟨b47, 0, none⟩) (m2 + 1) (m2 + 1)) rfl Try.sizeOf24 rfl rfl rfl (lc_slice (s49.live (j := 6) rfl)) (Nat.le_of_ble_eq_true rfl) trivial trivial rfl rfl (F' := [(b43, .cells true [.int .u64 (((p2 x (nth l k) i).1 : Nat) : Int), .int .u64 (((p2 x (nth l k) i).2 : Nat) : Int)] 2), (b37, .cells true [.int .u64 (((p2 x (nth l k) i).1 : Nat) : Int), .int .u64 (((p2 x (nth l k) i).2 : Nat) : Int)] 2), (b28, .cells true [.int .u64 (((nth l k).1 : Nat) : Int), .int .u64 (((nth l k).2 : Nat) : Int)] 2), (l20, lp18 .busy none), (d19, .mark), (b13, .cells true [.pointer (some ⟨bs, 0, none⟩)] 1), (b47, .cells true (fl spc (g2 ++ [p2 x (nth l k) i])) 2), (b5, .cells true [.slice (some ⟨b47, 0, none⟩) (m2 + 1) (m2 + 1)] 1), (b1, .cells true [.int .u64 ((x.1 : Nat) : Int), .int .u64 ((x.2 : Nat) : Int)] 2), (bs, .cells true [.slice (some ⟨bl, 0, none⟩) l.length l.length] 1), (bl, .cells true (fl spc l) 2)]) rfl (fun H51 s52 => ⟨?_, ?_⟩)
                  · exact trivial
                  refine ⟨_, Wk.refl _ _, ?_⟩
                  show awp _ _ _ _ _ _ _
                  refine awp_regs hF ?_
                  refine dv (gyes_none rfl) (OpQ.cast (v' := .int .i64 ((i + 1 : Nat) : Int)) (q_int rfl rfl rfl) (congrArg _ ((i64_in (by omega)).trans (by first | rfl | omega | (push_cast; rfl))))) rfl (by decide) (cok2 trivial (cconst rfl)) ?_
                  refine dv (gyes_none rfl) (q_mv (v := .int .i64 ((i + 1 : Nat) : Int)) rfl) rfl (by decide) (cok1 trivial) ?_
                  refine ⟨_, Wk.U [(0, .pointer (some ⟨bs, 0, none⟩)), (3, .pointer (some ⟨b1, 0, none⟩)), (5, .pointer (some ⟨b5, 0, none⟩)), (38, .agg #[.int .u64 (((nth l k).1 : Nat) : Int), .int .u64 ((x.1 : Nat) : Int), .int .u64 ((x.2 : Nat) : Int), .int .u64 (((nth l k).2 : Nat) : Int)]), (39, .int .i64 (((i + 1) : Nat) : Int))] ⟨rfl, rfl, rfl, rfl, rfl, trivial⟩, ((i + 1), (m2 + 1), (g2 ++ [p2 x (nth l k) i])), ⟨_, _, rfl, (s52.sub (.cons _ (.cons _ (.cons_cons _ (.cons_cons _ (.cons_cons _ (.cons_cons _ (.cons_cons _ (.cons_cons _ (.cons_cons _ (.cons_cons _ (.cons_cons _ (.refl _))))))))))))), ⟨by rw [remP_f (by assumption)]; first | (rw [← List.append_assoc, ← hgg.1]) | exact hgg.1, by dsimp only; first | (rw [List.length_append, hgg.2.1]; rfl) | exact hgg.2.1, by dsimp only; omega, by dsimp only; omega⟩⟩, (by omega)⟩
              ·
                replace c4 := of_decide_eq_false c4
                have hgi : remP x (nth l k) i = remP x (nth l k) 2 := by rw [show i = 2 by omega]
                refine ⟨_, Wk.refl _ _, ?_⟩
                show awp _ _ _ _ _ _ _
                refine awp_seq ?_
                refine awp_cond_f rfl ?_
                refine awp_exit_wk ?_
                refine ⟨_, Wk.refl _ _, ?_⟩
                repeat (with_reducible first | refine then_ret ?_ | refine blk_ret ?_ | refine then_exit ?_ | refine blk_exit ?_ | refine blk_exit' (by decide) ?_ | refine blk_normal ?_ | refine then_normal ?_ | refine retq_ret ?_ | refine retq_normal ?_ | refine ng_normal ?_ | refine ng_ret ?_ | refine ng_exit ?_)
                exact ⟨(s36.forget 0).getj (j := 0) rfl, (fun _ => ⟨_, _, _, ((s36.forget 0).setAt (j := 0) rfl (lp18 .ready none)), ⟨by rw [remA_y (by assumption), hgg.1, hgi, hg.1], hgg.2.1, by have := remP_len x (nth l k) 2; have := hgg.2.2; omega⟩⟩), (fun h => nomatch h)⟩
          ·
            refine dv (gyes_none rfl) (q_not (b := false) rfl) rfl (by decide) (cok1 trivial) ?_
            refine ⟨_, Wk.refl _ _, ?_⟩
            show awp _ _ _ _ _ _ _
            refine awp_cond_t rfl ?_
            refine awp_seq ?_
            refine awp_regs hF ?_
            refine dv (gyes_none rfl) (q_load (v := .slice (some ⟨bo, 0, none⟩) m m) Try.isAgg24 rfl (s34.rd (j := 5) rfl) rfl) rfl (by decide) (cok1 trivial) ?_
            refine dv (gyes_none rfl) (q_loadAgg Try.isAgg30 Try.sizeOf30 rfl (s34.rd (j := 0) rfl) (Nat.le_of_ble_eq_true rfl) rfl) rfl (by decide) (cok1 trivial) ?_
            refine x_new (fun b => .slice (some ⟨b, 0, none⟩) 1 1) s34 (gyes_none rfl) (q_buildSliceL (ds := [.int .u64 (((nth l k).1 : Nat) : Int), .int .u64 (((nth l k).2 : Nat) : Int)]) [.agg #[.int .u64 (((nth l k).1 : Nat) : Int), .int .u64 (((nth l k).2 : Nat) : Int)]] rfl Try.underlying24 Try.sizeOf30 Try.zeroValue30 rfl (by decide) (by decide) ⟨rfl, trivial⟩ (lvsC (by exact trivial) lvs0) rfl rfl) rfl (by decide) (cok1 trivial) (fun b53 H54 hb56 s55 => ?_)
            refine x_appendS (m := 2) (l := [((nth l k).1, (nth l k).2)]) (l0 := g) (l' := g ++ [(nth l k)]) (f := spc) [] hF s55 (by kernel_rfl) (j := 5) (m + 1) rfl (gyes_none rfl) Try.underlying24 Try.underlying24 Try.type30 rfl rfl (by decide) rfl spc_w rfl rfl rfl (s55.slsj (l := [((nth l k).1, (nth l k).2)]) spc_w (j := 0) rfl rfl (Nat.le_refl _)) (fun x _ u hu => lc_scalar (spc_sc x u hu)) hg.2.1 (by show (2 * (m + 1) + 1000) * 16 ≤ _; omega) trivial trivial (by decide) rfl rfl rfl (fun b57 H58 hb60 s59 => ⟨?_, ?_⟩)
            · exact trivial
            refine x_store1 [] hF s59 (by kernel_rfl) (gyes_none rfl) (j := 6) (v := .slice (some ⟨b57, 0, none⟩) (m + 1) (m + 1)) rfl Try.sizeOf24 rfl rfl rfl (lc_slice (s59.live (j := 5) rfl)) (Nat.le_of_ble_eq_true rfl) trivial trivial rfl rfl (F' := [(b53, .cells true [.int .u64 (((nth l k).1 : Nat) : Int), .int .u64 (((nth l k).2 : Nat) : Int)] 2), (b28, .cells true [.int .u64 (((nth l k).1 : Nat) : Int), .int .u64 (((nth l k).2 : Nat) : Int)] 2), (l20, lp18 .busy none), (d19, .mark), (b13, .cells true [.pointer (some ⟨bs, 0, none⟩)] 1), (b57, .cells true (fl spc (g ++ [(nth l k)])) 2), (b5, .cells true [.slice (some ⟨b57, 0, none⟩) (m + 1) (m + 1)] 1), (b1, .cells true [.int .u64 ((x.1 : Nat) : Int), .int .u64 ((x.2 : Nat) : Int)] 2), (bs, .cells true [.slice (some ⟨bl, 0, none⟩) l.length l.length] 1), (bl, .cells true (fl spc l) 2)]) rfl (fun H61 s62 => ⟨?_, ?_⟩)
            · exact trivial
            refine ⟨_, Wk.refl _ _, ?_⟩
            show awp _ _ _ _ _ _ _
            refine awp_exit_wk ?_
            refine ⟨_, Wk.refl _ _, ?_⟩
            repeat (with_reducible first | refine then_ret ?_ | refine blk_ret ?_ | refine then_exit ?_ | refine blk_exit ?_ | refine blk_exit' (by decide) ?_ | refine blk_normal ?_ | refine then_normal ?_ | refine retq_ret ?_ | refine retq_normal ?_ | refine ng_normal ?_ | refine ng_ret ?_ | refine ng_exit ?_)
            exact ⟨((s62.forget 0).forget 0).getj (j := 0) rfl, (fun _ => ⟨_, _, _, (((s62.forget 0).forget 0).setAt (j := 0) rfl (lp18 .ready none)), ⟨by rw [remA_n (by assumption), ← hg.1], by rw [List.length_append, hg.2.1]; rfl, by omega⟩⟩), (fun h => nomatch h)⟩
      case after =>
        rintro v H' ⟨rfl, hpost⟩
        replace hpost := hpost.resolve_right (fun ⟨_, _, h⟩ => h)
        obtain ⟨bo, m, g, s63, hg⟩ := hpost
        refine ⟨(by
            intro e he
            rcases List.mem_cons.1 he with rfl | he
            · exact s63.getj (j := 1) rfl
            · cases he), .inl ⟨s63.getj (j := 0) rfl, ?_⟩⟩
        have s65 := (s63.setAt (j := 0) rfl .none).forget 0
        refine ⟨_, Wk.refl _ _, ?_⟩
        show awp _ _ _ _ _ _ _
        refine awp_seq ?_
        refine awp_regs hF ?_
        refine dv (gyes_none rfl) (q_mv (v := .pointer (some ⟨bs, 0, none⟩)) rfl) rfl (by decide) (cok1 trivial) ?_
        refine dv (gyes_none rfl) (q_load (v := .slice (some ⟨bo, 0, none⟩) m m) Try.isAgg24 rfl (s65.rd (j := 3) rfl) rfl) rfl (by decide) (cok1 trivial) ?_
        refine dv (gyes_none rfl) (q_nilCheck rfl (s65.live (j := 5) rfl)) rfl (by decide) (cok1 trivial) ?_
        refine dv (gyes_none rfl) (q_field Try.underlying26 rfl Try.sizeOf24 rfl (s65.rd (j := 5) rfl)) rfl (by decide) (cok1 trivial) ?_
        refine x_store1 [] hF s65 (by kernel_rfl) (gyes_none rfl) (j := 5) (v := .slice (some ⟨bo, 0, none⟩) m m) rfl Try.sizeOf24 rfl rfl rfl (lc_slice (s65.live (j := 2) rfl)) (Nat.le_of_ble_eq_true rfl) trivial trivial rfl rfl (F' := [(d19, .mark), (b13, .cells true [.pointer (some ⟨bs, 0, none⟩)] 1), (bo, .cells true (fl spc g) 2), (b5, .cells true [.slice (some ⟨bo, 0, none⟩) m m] 1), (b1, .cells true [.int .u64 ((x.1 : Nat) : Int), .int .u64 ((x.2 : Nat) : Int)] 2), (bs, .cells true [.slice (some ⟨bo, 0, none⟩) m m] 1), (bl, .cells true (fl spc l) 2)]) rfl (fun H66 s67 => ⟨?_, ?_⟩)
        · exact trivial
        refine ⟨_, Wk.refl _ _, ?_⟩
        show awp _ _ _ _ _ _ _
        refine awp_seq ?_
        refine awp_regs hF ?_
        refine dv (gyes_none rfl) (q_as (v := .bool true) rfl) rfl (by decide) (cok1 (cconst rfl)) ?_
        refine ⟨_, Wk.refl _ _, ?_⟩
        show awp _ _ _ _ _ _ _
        refine awp_ret_wk ?_
        refine ⟨_, Wk.refl _ _, ?_⟩
        repeat (with_reducible first | refine then_ret ?_ | refine blk_ret ?_ | refine then_exit ?_ | refine blk_exit ?_ | refine blk_exit' (by decide) ?_ | refine blk_normal ?_ | refine then_normal ?_ | refine retq_ret ?_ | refine retq_normal ?_ | refine ng_normal ?_ | refine ng_ret ?_ | refine ng_exit ?_)
        refine ret_isD (v := .bool true) rfl (.tmp rfl .nil) rfl ?_
        exact ⟨_, g, _, rfl, .inr ⟨rfl, by omega, by assumption, by rw [hg.1]⟩, (s67.setAt (j := 0) rfl .none).kp, (s67.setAt (j := 0) rfl .none).own _ (List.mem_of_getElem? (i := 2) rfl), (s67.setAt (j := 0) rfl .none).nej (i := 2) (j := 5) rfl rfl (by decide), by rw [← hg.2.1]; exact (s67.setAt (j := 0) rfl .none).getj (j := 5) rfl, (s67.setAt (j := 0) rfl .none).getj (j := 2) rfl⟩
    ·
      refine dv (gyes_some rfl rfl) (q_not (b := false) rfl) rfl (by decide) (cok1 trivial) ?_
      refine dv (gyes_none rfl) (q_pf (v := .bool true) rfl rfl) rfl (by decide) (call_ok rfl) ?_
      refine ⟨_, Wk.refl _ _, ?_⟩
      show awp _ _ _ _ _ _ _
      refine awp_cond_t rfl ?_
      refine awp_seq ?_
      refine awp_regs hF ?_
      refine dv (gyes_none rfl) (q_as (v := .bool false) rfl) rfl (by decide) (cok1 (cconst rfl)) ?_
      refine ⟨_, Wk.refl _ _, ?_⟩
      show awp _ _ _ _ _ _ _
      refine awp_ret_wk ?_
      refine ⟨_, Wk.refl _ _, ?_⟩
      repeat (with_reducible first | refine then_ret ?_ | refine blk_ret ?_ | refine then_exit ?_ | refine blk_exit ?_ | refine blk_exit' (by decide) ?_ | refine blk_normal ?_ | refine then_normal ?_ | refine retq_ret ?_ | refine retq_normal ?_ | refine ng_normal ?_ | refine ng_ret ?_ | refine ng_exit ?_)
      refine ret_is (v := .bool false) rfl (.tmp rfl .nil) rfl ?_
      exact ⟨_, l, _, rfl, .inl ⟨rfl, by first | exact .inl (by assumption) | exact .inr (by assumption), rfl⟩, s3.kp, s3.own _ (List.mem_of_getElem? (i := 2) rfl), s3.nej (i := 2) (j := 1) rfl rfl (by decide), s3.getj (j := 1) rfl, s3.getj (j := 2) rfl⟩
end Go.Proofs.YtjgeheookgogaaaA


/-
  Walks of functions of the given program, and what they compute.
-/
namespace Go.Proofs.YtjgeheookgogaaaA
set_option linter.unusedVariables false
open Go Go.RowKit Go.Shelf Go.Proofs
theorem ACalls.castV {P : Program} {f : FuncId} {a : List Value} {H : AHeap} {H' : AHeap} {v v' : Value} (h : ACalls P f a H (Rets v H')) (e : v = v') : ACalls P f a H (Rets v' H') := e ▸ h
theorem perm_sorted_eq : ∀ {m l : List Sp}, l.Perm m → l.Pairwise (fun a b => a.1 ≤ b.1) → m.Pairwise (fun a b => a.1 < b.1) → l = m
  | [], l, h, _, _ => h.eq_nil
  | b :: m, [], h, _, _ => by have := h.length_eq; simp at this
  | b :: m, a :: l, h, h1, h2 => by
    have ha : a ∈ b :: m := h.subset List.mem_cons_self
    have hb : b ∈ a :: l := h.symm.subset List.mem_cons_self
    have e : a = b := by
      rcases List.mem_cons.1 ha with e | ha
      · exact e
      · rcases List.mem_cons.1 hb with e | hb
        · exact e.symm
        · have q1 := (List.pairwise_cons.1 h2).1 a ha
          have q2 := (List.pairwise_cons.1 h1).1 b hb
          omega
    subst e
    rw [perm_sorted_eq (h.cons_inv) (List.pairwise_cons.1 h1).2 (List.pairwise_cons.1 h2).2]
theorem sortedLo_pw {l : List Sp} (h : SortedLo l) : l.Pairwise (fun a b => a.1 ≤ b.1) := by
  rw [List.pairwise_iff_getElem]
  intro i j hi hj hij
  have := h i j hij hj
  rwa [nth_eq hi, nth_eq hj] at this
theorem addR_eq {l m : List Sp} {x : Sp} {ok : Bool} {L : List Sp} (h : AddR l x ok L) (hx : x.1 < x.2) (hm : l.any (meetsB x) = false) (hp : m.Perm (l ++ [x])) (hs : m.Pairwise (fun a b => a.1 < b.1)) : ok = true ∧ L = joinS m := by
  rcases h with ⟨_, h | h, _⟩ | ⟨h1, _, _, l', h2, h3, h4⟩
  · omega
  · rw [hm] at h; exact nomatch h
  · rw [h4, perm_sorted_eq (h2.trans hp.symm) (sortedLo_pw h3) hs]
    exact ⟨h1, rfl⟩
theorem addR_no {l : List Sp} {x : Sp} {ok : Bool} {L : List Sp} (h : AddR l x ok L) (hx : x.2 ≤ x.1 ∨ l.any (meetsB x) = true) : ok = false ∧ L = l := by
  rcases h with ⟨h1, _, h2⟩ | ⟨h1, h2, h3, _⟩
  · exact ⟨h1, h2⟩
  · rcases hx with h | h
    · omega
    · rw [h3] at h; exact nomatch h
theorem fit_c : fitV 5 8 (8, 100) [(10, 30)] = (32, true) := by decide +kernel
theorem sp_1 {ok : Bool} {L : List Sp} (h : AddR [] (10, 20) ok L) : ok = true ∧ L = [(10, 20)] := addR_eq (m := [(10, 20)]) h (by decide) (by decide) (List.Perm.refl _) (by decide)
theorem sp_2 {ok : Bool} {L : List Sp} (h : AddR [(10, 20)] (20, 30) ok L) : ok = true ∧ L = [(10, 30)] := addR_eq (m := [(10, 20), (20, 30)]) h (by decide) (by decide) (List.Perm.refl _) (by decide)
theorem sp_3 {ok : Bool} {L : List Sp} (h : AddR [(10, 30)] (29, 31) ok L) : ok = false ∧ L = [(10, 30)] := addR_no h (.inr (by decide))
set_option maxRecDepth 100000 in
set_option maxHeartbeats 4000000 in
theorem speaks_ok {H0 : AHeap}  : ACalls Try.prog 8 [] H0 (Rets (.bool true) H0) := by
  have hF : Wd Fence.wide := .inl rfl
  have hM : Try.prog.follows .mixedOrders = true := by kernel_rfl
  have s0 := St.begin H0
  refine acalls_st Try.func8 rfl Try.ntmps8 rfl ?_
  refine awp_seq ?_
  refine awp_regs hF ?_
  refine dv (gyes_none rfl) (q_as (v := .bool false) rfl) rfl (by decide) (cok1 (cconst rfl)) ?_
  refine ⟨_, Wk.refl _ _, ?_⟩
  show awp _ _ _ _ _ _ _
  refine awp_seq ?_
  refine awp_regs hF ?_
  refine x_new (fun b => .pointer (some ⟨b, 0, none⟩)) s0 (gyes_none rfl) (q_alloc (vs := [.slice none 0 0]) 1 Try.zeroValue26 (by first | exact flat_scalar rfl | exact flat_agg rfl) rfl) rfl (by decide) (by simp [Op.operands, Call.operands]) (fun b1 H2 hb4 s3 => ?_)
  refine ⟨_, Wk.refl _ _, ?_⟩
  show awp _ _ _ _ _ _ _
  refine awp_seq ?_
  refine awp_seq ?_
  refine awp_nilc s3 (j := 0) (o := 0) (sz' := 2) rfl rfl (fun b5 H6 hb8 s7 => ?_)
  refine awp_regs hF ?_
  refine dv (gyes_none rfl) (q_buildL (ds := [.int .u64 10, .int .u64 20]) [(0, 1), (1, 1)] [.int .u64 10, .int .u64 20] Try.underlying30 Try.zeroValue30 (by first | exact flat_agg rfl | exact flat_scalar rfl) (by kernel_rfl) ⟨rfl, rfl, trivial⟩ (lvsC (by exact trivial) (lvsC (by exact trivial) lvs0)) rfl) rfl (by decide) (cok2 (cconst rfl) (cconst rfl)) ?_
  refine x_call [] hF (by kernel_rfl) (gyes_none rfl) Try.call9 rfl (args := [.pointer (some ⟨b1, 0, none⟩), .agg #[.int .u64 10, .int .u64 20]]) rfl (add_ok b1 b5 ([] : List Sp) (by first | decide | omega) (nod2 (s7.nej (i := 1) (j := 0) rfl rfl (by decide))) (s7.getj (j := 1) rfl) (s7.getj (j := 0) rfl) (10, 20)) (show _ < _ by decide) (call_ok rfl) rfl rfl (fun _ _ _ _ hd => by cases hd) ?_
  rintro _ H9 ⟨ok18, L19, b10, rfl, hr11, hk12, ho13, hn14, h15, h16⟩
  have s17 := s7.turn2 (j9 := 1) (jl := 0) rfl rfl (by decide) hk12 ho13 hn14 h15 h16
  obtain ⟨rfl, rfl⟩ := sp_1 hr11
  refine ⟨trivial, ?_⟩
  show dList _ _ _ _ _ _ _ _ _ _
  refine dv (gyes_none rfl) (q_not (b := true) rfl) rfl (by decide) (cok1 trivial) ?_
  refine dv (gyes_none rfl) (q_mv (v := .bool false) rfl) rfl (by decide) (cok1 trivial) ?_
  refine dv (gyes_some rfl rfl) (q_buildL (ds := [.int .u64 20, .int .u64 30]) [(0, 1), (1, 1)] [.int .u64 20, .int .u64 30] Try.underlying30 Try.zeroValue30 (by first | exact flat_agg rfl | exact flat_scalar rfl) (by kernel_rfl) ⟨rfl, rfl, trivial⟩ (lvsC (by exact trivial) (lvsC (by exact trivial) lvs0)) rfl) rfl (by decide) (cok2 (cconst rfl) (cconst rfl)) ?_
  refine x_call [] hF (by kernel_rfl) (gyes_some rfl rfl) Try.call9 rfl (args := [.pointer (some ⟨b1, 0, none⟩), .agg #[.int .u64 20, .int .u64 30]]) rfl (add_ok b1 b10 ([(10, 20)]) (by first | decide | omega) (nod2 (s17.nej (i := 1) (j := 0) rfl rfl (by decide))) (s17.getj (j := 1) rfl) (s17.getj (j := 0) rfl) (20, 30)) (show _ < _ by decide) (call_ok rfl) rfl rfl (fun _ _ _ _ hd => by cases hd) ?_
  rintro _ H20 ⟨ok29, L30, b21, rfl, hr22, hk23, ho24, hn25, h26, h27⟩
  have s28 := s17.turn2 (j9 := 1) (jl := 0) rfl rfl (by decide) hk23 ho24 hn25 h26 h27
  obtain ⟨rfl, rfl⟩ := sp_2 hr22
  refine ⟨trivial, ?_⟩
  show dList _ _ _ _ _ _ _ _ _ _
  refine dv (gyes_some rfl rfl) (q_not (b := true) rfl) rfl (by decide) (cok1 trivial) ?_
  refine dv (gyes_none rfl) (q_pf (v := .bool false) rfl rfl) rfl (by decide) (call_ok rfl) ?_
  refine dv (gyes_none rfl) (q_mv (v := .bool false) rfl) rfl (by decide) (cok1 trivial) ?_
  refine dv (gyes_some rfl rfl) (q_buildL (ds := [.int .u64 29, .int .u64 31]) [(0, 1), (1, 1)] [.int .u64 29, .int .u64 31] Try.underlying30 Try.zeroValue30 (by first | exact flat_agg rfl | exact flat_scalar rfl) (by kernel_rfl) ⟨rfl, rfl, trivial⟩ (lvsC (by exact trivial) (lvsC (by exact trivial) lvs0)) rfl) rfl (by decide) (cok2 (cconst rfl) (cconst rfl)) ?_
  refine x_call [] hF (by kernel_rfl) (gyes_some rfl rfl) Try.call9 rfl (args := [.pointer (some ⟨b1, 0, none⟩), .agg #[.int .u64 29, .int .u64 31]]) rfl (add_ok b1 b21 ([(10, 30)]) (by first | decide | omega) (nod2 (s28.nej (i := 1) (j := 0) rfl rfl (by decide))) (s28.getj (j := 1) rfl) (s28.getj (j := 0) rfl) (29, 31)) (show _ < _ by decide) (call_ok rfl) rfl rfl (fun _ _ _ _ hd => by cases hd) ?_
  rintro _ H31 ⟨ok40, L41, b32, rfl, hr33, hk34, ho35, hn36, h37, h38⟩
  have s39 := s28.turn2 (j9 := 1) (jl := 0) rfl rfl (by decide) hk34 ho35 hn36 h37 h38
  obtain ⟨rfl, rfl⟩ := sp_3 hr33
  refine ⟨trivial, ?_⟩
  show dList _ _ _ _ _ _ _ _ _ _
  refine dv (gyes_none rfl) (q_pf (v := .bool false) rfl rfl) rfl (by decide) (call_ok rfl) ?_
  refine ⟨_, Wk.refl _ _, ?_⟩
  show awp _ _ _ _ _ _ _
  refine awp_cond_f rfl ?_
  refine awp_skip_wk ?_
  refine ⟨_, Wk.refl _ _, ?_⟩
  show awp _ _ _ _ _ _ _
  refine awp_seq ?_
  refine awp_regs hF ?_
  refine dv (gyes_none rfl) (q_buildL (ds := [.int .u64 8, .int .u64 100]) [(0, 1), (1, 1)] [.int .u64 8, .int .u64 100] Try.underlying30 Try.zeroValue30 (by first | exact flat_agg rfl | exact flat_scalar rfl) (by kernel_rfl) ⟨rfl, rfl, trivial⟩ (lvsC (by exact trivial) (lvsC (by exact trivial) lvs0)) rfl) rfl (by decide) (cok2 (cconst rfl) (cconst rfl)) ?_
  refine dv (gyes_none rfl) (q_call0 Try.call23 rfl (ACalls.castV (v' := .tuple #[.int .u64 32, .bool true]) (fit_ok b1 _ ([(10, 30)]) (s39.rd (j := 1) rfl) (s39.slsj (l := [(10, 30)]) spc_w (j := 0) rfl rfl (Nat.le_refl _)) (by first | decide | omega) (by unfold SpW; decide) 5 8 (8, 100) (by decide) (by decide) (by unfold SpW; decide)) (congrArg (fun p : Nat × Bool => Value.tuple #[.int .u64 (p.1 : Int), .bool p.2]) fit_c))) rfl (by decide) (call_ok rfl) ?_
  refine dv (gyes_none rfl) (q_mv (v := .tuple #[.int .u64 32, .bool true]) rfl) rfl (by decide) (cok1 trivial) ?_
  refine dv (gyes_none rfl) (q_extract (v := .int .u64 32) rfl rfl) rfl (by decide) (cok1 trivial) ?_
  refine dv (gyes_none rfl) (q_extract (v := .bool true) rfl rfl) rfl (by decide) (cok1 trivial) ?_
  refine dv (gyes_none rfl) (q_as (v := .int .u64 32) rfl) rfl (by decide) (cok1 trivial) ?_
  refine dv (gyes_none rfl) (q_as (v := .bool true) rfl) rfl (by decide) (cok1 trivial) ?_
  refine ⟨_, Wk.refl _ _, ?_⟩
  show awp _ _ _ _ _ _ _
  refine awp_seq ?_
  refine awp_regs hF ?_
  refine dv (gyes_none rfl) (q_mv (v := .bool true) rfl) rfl (by decide) (cok1 trivial) ?_
  refine dv (gyes_none rfl) (q_mv (v := .bool true) rfl) rfl (by decide) (cok1 trivial) ?_
  refine dv (gyes_some rfl rfl) (q_mv (v := .int .u64 32) rfl) rfl (by decide) (cok1 trivial) ?_
  refine dv (gyes_some rfl rfl) (OpQ.cast (v' := .bool true) (q_int rfl rfl rfl) (congrArg Value.bool (beq_self_eq_true _))) rfl (by decide) (cok2 trivial (cconst rfl)) ?_
  refine dv (gyes_none rfl) (q_pt (v := .bool true) rfl rfl) rfl (by decide) (call_ok rfl) ?_
  refine dv (gyes_none rfl) (q_mv (v := .bool true) rfl) rfl (by decide) (cok1 trivial) ?_
  refine dv (gyes_some rfl rfl) (q_call0 Try.call15 rfl (ACalls.castV (v' := .int .u64 20) (slen_ok b1 _ ([(10, 30)]) (s39.rd (j := 1) rfl) (s39.slsj (l := [(10, 30)]) spc_w (j := 0) rfl rfl (Nat.le_refl _)) (by first | decide | omega) (by unfold SpW; decide)) rfl)) rfl (by decide) (cok2 trivial trivial) ?_
  refine dv (gyes_some rfl rfl) (OpQ.cast (v' := .bool true) (q_int rfl rfl rfl) (congrArg Value.bool (beq_self_eq_true _))) rfl (by decide) (cok2 trivial (cconst rfl)) ?_
  refine dv (gyes_none rfl) (q_pt (v := .bool true) rfl rfl) rfl (by decide) (call_ok rfl) ?_
  refine dv (gyes_none rfl) (q_mv (v := .bool true) rfl) rfl (by decide) (cok1 trivial) ?_
  refine dv (gyes_some rfl rfl) (q_buildL (ds := [.int .u64 15, .int .u64 25]) [(0, 1), (1, 1)] [.int .u64 15, .int .u64 25] Try.underlying30 Try.zeroValue30 (by first | exact flat_agg rfl | exact flat_scalar rfl) (by kernel_rfl) ⟨rfl, rfl, trivial⟩ (lvsC (by exact trivial) (lvsC (by exact trivial) lvs0)) rfl) rfl (by decide) (cok2 (cconst rfl) (cconst rfl)) ?_
  refine dv (gyes_some rfl rfl) (q_call0 Try.call14 rfl (ACalls.castV (v' := .bool true) (covers_ok b1 _ ([(10, 30)]) (s39.rd (j := 1) rfl) (s39.slsj (l := [(10, 30)]) spc_w (j := 0) rfl rfl (Nat.le_refl _)) (by first | decide | omega) (15, 25)) rfl)) rfl (by decide) (call_ok rfl) ?_
  refine dv (gyes_none rfl) (q_pt (v := .bool true) rfl rfl) rfl (by decide) (call_ok rfl) ?_
  refine dv (gyes_none rfl) (q_as (v := .bool true) rfl) rfl (by decide) (cok1 trivial) ?_
  refine ⟨_, Wk.refl _ _, ?_⟩
  show awp _ _ _ _ _ _ _
  refine awp_ret_wk ?_
  refine ⟨_, Wk.refl _ _, ?_⟩
  repeat (with_reducible first | refine then_ret ?_ | refine blk_ret ?_ | refine then_exit ?_ | refine blk_exit ?_ | refine blk_exit' (by decide) ?_ | refine blk_normal ?_ | refine then_normal ?_ | refine retq_ret ?_ | refine retq_normal ?_ | refine ng_normal ?_ | refine ng_ret ?_ | refine ng_exit ?_)
  exact ret_none (v := .bool true) rfl s39.kp (.tmp rfl .nil) rfl rfl ⟨rfl, rfl⟩
end Go.Proofs.YtjgeheookgogaaaA


/-
  From a law's arguments, slices among them, to abstract states.
-/
namespace Go.Proofs.YtjgeheookgogaaaA
set_option linter.unusedVariables false
open Go Go.RowKit Go.Shelf
/-- The places of the arguments' blocks. -/
def rhoOf (ls : List (Option Loc)) : Ren := fun b => match ls[b]? with | some (some l) => .at l | _ => .none
/-- A block of an argument, or none. -/
def ArgO (W : World) (ol : Option Loc) (o : AObj) : Prop :=
  (ol = none ∧ o = .none) ∨ ∃ lc vs, ol = some lc ∧ o = .cells false vs 1 ∧ lc.blk < W.heap.size ∧ ∀ ρ, ORel ρ lc W (.cells false vs 1)
def ArgOs (W : World) : List (Option Loc) → AHeap → Prop
  | [], [] => True
  | ol :: ls, o :: H => ArgO W ol o ∧ ArgOs W ls H
  | _, _ => False
theorem ArgOs.at {W : World} : ∀ {ls : List (Option Loc)} {H : AHeap}, ArgOs W ls H → ∀ (b : Nat) (ol : Option Loc), ls[b]? = some ol → ∃ o : AObj, H[b]? = some o ∧ ArgO W ol o
  | [], [], _, b, ol, h => by simp at h
  | [], _ :: _, h, _, _, _ => h.elim
  | _ :: _, [], h, _, _, _ => h.elim
  | x :: ls, o :: H, ⟨h1, h2⟩, b, ol, h => by
    cases b with
    | zero => simp at h; subst h; exact ⟨o, by simp, h1⟩
    | succ b => simpa using ArgOs.at h2 b ol (by simpa using h)
theorem ArgOs.at' {W : World} : ∀ {ls : List (Option Loc)} {H : AHeap}, ArgOs W ls H → ∀ (b : Nat) (o : AObj), H[b]? = some o → ∃ ol : Option Loc, ls[b]? = some ol ∧ ArgO W ol o
  | [], [], _, b, o, h => by simp at h
  | [], _ :: _, h, _, _, _ => h.elim
  | _ :: _, [], h, _, _, _ => h.elim
  | x :: ls, o' :: H, ⟨h1, h2⟩, b, o, h => by
    cases b with
    | zero => simp at h; subst h; exact ⟨x, by simp, h1⟩
    | succ b => simpa using ArgOs.at' h2 b o (by simpa using h)
theorem ArgOs.len {W : World} : ∀ {ls : List (Option Loc)} {H : AHeap}, ArgOs W ls H → ls.length = H.length
  | [], [], _ => rfl
  | [], _ :: _, h => h.elim
  | _ :: _, [], h => h.elim
  | x :: ls, o' :: H, ⟨h1, h2⟩ => by simp [ArgOs.len h2]
/-- A slice that came as an argument: its block, its value. -/
structure SArg {α : Type} (f : α → Value) (w : World) (v : Value) (l : List α) (b : Nat) (ol : Option Loc) (o : AObj) (va : Value) : Prop where
  obj : ArgO w ol o
  val : ∀ ρ : Ren, (∀ lc, ol = some lc → ρ b = .at lc) → VRel ρ va v
  sl : ∀ H : AHeap, H[b]? = some o → Sl f H va l
end Go.Proofs.YtjgeheookgogaaaA


/-
  Slices among a law's arguments, as the row's facts tell of them.
-/
namespace Go.Proofs.YtjgeheookgogaaaA
set_option linter.unusedVariables false
open Go Go.RowKit Go.Shelf Go.ChangeShapes
def RowF {α : Type} (f : α → Value) (w : World) (a : Option Addr) (len cap : Nat) (zs : List α) : Prop :=
  (a = none ∧ len = 0 ∧ cap = 0) ∨ ∃ x, a = some x ∧ x.spot = none ∧ len ≤ cap ∧ zs.length = cap ∧ (∃ cs T fr, w.heap[x.block]? = some (.cells cs T fr)) ∧ ∀ i (h : i < zs.length), w.cell? (x.add i) = some (f zs[i])
end Go.Proofs.YtjgeheookgogaaaA


/-
  A law's arguments, slices and slices of slices among them, as blocks.
-/
namespace Go.Proofs.YtjgeheookgogaaaA
set_option linter.unusedVariables false
open Go Go.RowKit Go.Shelf Go.ChangeShapes
def rhoP (ls : List Plc) : Ren := fun b => ls.getD b .none
def AtOff (ρ : Ren) (off : Nat) (ls : List Plc) : Prop := ∀ (i : Nat) (p : Plc), ls[i]? = some p → ρ (off + i) = p
def InH (H : AHeap) (off : Nat) (L : AHeap) : Prop := ∀ (i : Nat) (o : AObj), L[i]? = some o → H[off + i]? = some o
theorem AtOff.app {ρ : Ren} {off : Nat} {a b : List Plc} (h : AtOff ρ off (a ++ b)) : AtOff ρ off a ∧ AtOff ρ (off + a.length) b := by
  refine ⟨fun i p hi => h i p ?_, fun i p hi => ?_⟩
  · rw [List.getElem?_append_left (List.getElem?_eq_some_iff.1 hi).1]; exact hi
  · have := h (a.length + i) p (by rw [List.getElem?_append_right (by omega)]; simpa using hi)
    rw [Nat.add_assoc]; exact this
theorem InH.app {H : AHeap} {off : Nat} {a b : AHeap} (h : InH H off (a ++ b)) : InH H off a ∧ InH H (off + a.length) b := by
  refine ⟨fun i p hi => h i p ?_, fun i p hi => ?_⟩
  · rw [List.getElem?_append_left (List.getElem?_eq_some_iff.1 hi).1]; exact hi
  · have := h (a.length + i) p (by rw [List.getElem?_append_right (by omega)]; simpa using hi)
    rw [Nat.add_assoc]; exact this
theorem InH.refl (H : AHeap) : InH H 0 H := fun i o h => by rw [Nat.zero_add]; exact h
def ArgP (ρ : Ren) (w : World) (p : Plc) (o : AObj) : Prop :=
  (p = .none ∧ o = .none) ∨ (p = .null ∧ o = .null) ∨ ∃ lc vs sz, p = .at lc ∧ o = .cells false vs sz ∧ lc.blk < w.heap.size ∧ ORel ρ lc w (.cells false vs sz)
structure PArg (w : World) (v : Value) (off : Nat) (ls : List Plc) (L : AHeap) (va : Value) : Prop where
  len : ls.length = L.length
  obj : ∀ ρ : Ren, AtOff ρ off ls → ∀ (i : Nat) (p : Plc), ls[i]? = some p → ∃ o : AObj, L[i]? = some o ∧ ArgP ρ w p o
  val : ∀ ρ, AtOff ρ off ls → VRel ρ va v
inductive PAll (w : World) : Nat → List Value → List Plc → AHeap → List Value → Prop
  | nil (off : Nat) : PAll w off [] [] [] []
  | cons {off : Nat} {v va : Value} {vs vas : List Value} {ls ls' : List Plc} {L L' : AHeap} (h : PArg w v off ls L va) (k : PAll w (off + ls.length) vs ls' L' vas) : PAll w off (v :: vs) (ls ++ ls') (L ++ L') (va :: vas)
theorem PArg.scalar {w : World} {v : Value} (off : Nat) (h : Scalar v = true) : PArg w v off [] [] v := ⟨rfl, fun ρ _ i p h => by simp at h, fun ρ _ => .scalar h ρ⟩
theorem PAll.sum {w : World} : ∀ {off : Nat} {vs vas : List Value} {ls : List Plc} {L : AHeap}, PAll w off vs ls L vas → ls.length = L.length ∧ (∀ ρ : Ren, AtOff ρ off ls → (∀ (i : Nat) (p : Plc), ls[i]? = some p → ∃ o : AObj, L[i]? = some o ∧ ArgP ρ w p o) ∧ LRel ρ vas vs) := by
  intro off vs vas ls L h
  induction h with
  | nil off => exact ⟨rfl, fun ρ _ => ⟨fun i p h => by simp at h, .nil ρ⟩⟩
  | @cons off v va vs vas ls ls' L L' h k ih =>
    refine ⟨by rw [List.length_append, List.length_append, h.len, ih.1], fun ρ hρ => ?_⟩
    obtain ⟨h1, h2⟩ := hρ.app
    obtain ⟨h3, h4⟩ := ih.2 ρ h2
    refine ⟨fun i p hi => ?_, .cons (h.val ρ h1) h4⟩
    by_cases e : i < ls.length
    · rw [List.getElem?_append_left e] at hi
      obtain ⟨o, k1, k2⟩ := h.obj ρ h1 i p hi
      exact ⟨o, by rw [List.getElem?_append_left (by rw [← h.len]; exact e)]; exact k1, k2⟩
    · rw [List.getElem?_append_right (by omega)] at hi
      obtain ⟨o, k1, k2⟩ := h3 _ p hi
      exact ⟨o, by rw [List.getElem?_append_right (by rw [← h.len]; omega), ← h.len]; exact k1, k2⟩
theorem world_of_acallsP {P : Program} {f : FuncId} {args : List Value} {args' : Array Value} {H : AHeap} {ls : List Plc} {v : Value} {w : World} (hA : PAll w 0 args'.toList ls H args) (hv : Scalar v = true) (h : ACalls P f args H (Rets v H)) :
    Calls P f args' w fun e w' => e = .returned v ∧ Below w.heap.size w w' := by
  obtain ⟨hlen, hs⟩ := hA.sum
  have hat : AtOff (rhoP ls) 0 ls := fun i p hi => by
    rw [Nat.zero_add]; unfold rhoP; rw [List.getD_eq_getElem?_getD, hi]; rfl
  obtain ⟨hob, hval⟩ := hs _ hat
  have hrev : ∀ (b : Nat) (o : AObj), H[b]? = some o → ∃ p, ls[b]? = some p ∧ ArgP (rhoP ls) w p o := fun b o hb => by
    have hbl := (List.getElem?_eq_some_iff.1 hb).1
    obtain ⟨o', h1, h2⟩ := hob b _ (List.getElem?_eq_getElem (by rw [hlen]; exact hbl))
    rw [hb] at h1; cases h1
    exact ⟨_, List.getElem?_eq_getElem (by rw [hlen]; exact hbl), h2⟩
  have hget : ∀ b p, rhoP ls b = p → p ≠ .none → ls[b]? = some p := fun b p hb hn => by
    unfold rhoP at hb
    rw [List.getD_eq_getElem?_getD] at hb
    cases e : ls[b]? with
    | none => rw [e] at hb; exact absurd hb.symm hn
    | some q => rw [e] at hb; exact congrArg some hb
  have hnw : ∀ b l, rhoP ls b = .at l → ¬ wr H b := fun b l hb ⟨o, h1, h2⟩ => by
    obtain ⟨o', h3, h4⟩ := hob b _ (hget b _ hb (by simp))
    rw [h1] at h3; cases h3
    rcases h4 with ⟨h3, _⟩ | ⟨h3, _⟩ | ⟨lc, vs, sz, h3, rfl, _⟩
    · cases h3
    · cases h3
    · cases h2
  have hh : HRel (rhoP ls) H w := by
    refine ⟨fun b hb => ?_, fun b l hb => ?_, fun b c l m _ hb _ hw => absurd hw (hnw b l hb), fun g vs sz hg => ?_, fun b hb => ?_⟩
    · unfold rhoP
      rw [List.getD_eq_getElem?_getD, List.getElem?_eq_none (by rw [hlen]; exact hb)]; rfl
    · obtain ⟨o, h1, h2⟩ := hob b _ (hget b _ hb (by simp))
      rcases h2 with ⟨h3, _⟩ | ⟨h3, _⟩ | ⟨lc, vs, sz, h3, rfl, h4, h5⟩
      · cases h3
      · cases h3
      · cases h3; exact ⟨_, h1, h4, h5⟩
    · obtain ⟨p, _, h3⟩ := hrev g _ hg
      rcases h3 with ⟨_, h3⟩ | ⟨_, h3⟩ | ⟨lc, vs, sz, _, h3, _⟩ <;> cases h3
    · obtain ⟨o, h1, h2⟩ := hob b _ (hget b _ hb (by simp))
      rcases h2 with ⟨h3, _⟩ | ⟨h3, _⟩ | ⟨lc, vs, sz, h3, _⟩ <;> cases h3
  refine (h _ w args' hh hval).mono ?_
  rintro e w' ⟨v1, v', H', ρ', rfl, ⟨rfl, rfl⟩, k1, k2, k3, k4⟩
  rw [k1.scalar_eq hv]
  exact ⟨rfl, k3.os, k3.tape, k3.output, k3.size, fun k hk => k3.keep k hk fun ⟨b, l, hb, _, hw⟩ => hnw b l hb hw⟩
/-! ### Slices that came in -/
/-- A slice in the world: its elements, of one cell each. -/
def SlC {α : Type} (f : α → Value) (w : World) (u : Value) (r : List α) : Prop :=
  (u = .slice none 0 0 ∧ r = []) ∨ ∃ x l c, u = .slice (some x) l c ∧ l ≤ c ∧ r.length = l ∧ (c = 0 ∨ (x.spot = none ∧ ∃ cs T fr, w.heap[x.block]? = some (.cells cs T fr) ∧ x.off + c ≤ cs.size ∧ ∀ i (h : i < r.length), cs[x.off + i]? = some (f r[i])))
theorem AtOff.one {ρ : Ren} {off : Nat} {p : Plc} (h : AtOff ρ off [p]) : ρ off = p := h 0 p rfl
theorem parg_one {w : World} {v va : Value} {off : Nat} {p : Plc} {o : AObj} (h1 : ∀ ρ, ρ off = p → ArgP ρ w p o) (h2 : ∀ ρ, ρ off = p → VRel ρ va v) : PArg w v off [p] [o] va :=
  ⟨rfl, fun ρ hρ i q hi => by
    cases i with
    | zero => simp at hi; subst hi; exact ⟨o, rfl, h1 ρ hρ.one⟩
    | succ i => simp at hi, fun ρ hρ => h2 ρ hρ.one⟩
/-- A slice of slices. -/
structure Sl2C {α : Type} (f : α → Value) (w : World) (u : Value) (us : List Value) (rs : List (List α)) : Prop where
  out : SlC (fun v : Value => v) w u us
  len : us.length = rs.length
  row : ∀ i (h : i < us.length), SlC f w us[i] (nth rs i)
/-! ### From the row's facts -/
theorem addr_at {x : Addr} (hsp : x.spot = none) (i : Nat) : x.add i = ⟨x.block, x.off + i, none⟩ := by
  have hx : x = ⟨x.block, x.off, none⟩ := by cases x; simp at hsp; subst hsp; rfl
  rw [hx]
  unfold Addr.add
  split
  · subst i; rfl
  · rfl
theorem cell_some {w : World} {a : Addr} {v : Value} (h : w.cell? a = some v) : a.spot = none ∧ ∃ cs T fr, w.heap[a.block]? = some (.cells cs T fr) ∧ cs[a.off]? = some v := by
  unfold World.cell? at h
  split at h
  · rename_i c T fr hb
    split at h
    · cases h
    · rename_i hs
      exact ⟨by simpa using hs, c, T, fr, hb, h⟩
  · cases h
/-! ### Arrays that came in -/
end Go.Proofs.YtjgeheookgogaaaA


/-
  A law's arguments: slices whose elements are structs or arrays, and arrays of numbers.
-/
namespace Go.Proofs.YtjgeheookgogaaaA
set_option linter.unusedVariables false
open Go Go.RowKit Go.Shelf Go.ChangeShapes Go.WideShapes
section
variable {α : Type} [Inhabited α] {f : α → List Value} {m : Nat}
def SlCm (f : α → List Value) (m : Nat) (w : World) (u : Value) (r : List α) : Prop :=
  (u = .slice none 0 0 ∧ r = []) ∨ ∃ x l c, u = .slice (some x) l c ∧ l ≤ c ∧ r.length = l ∧ (c = 0 ∨ (x.spot = none ∧ ∃ cs T fr, w.heap[x.block]? = some (.cells cs T fr) ∧ x.off + c * m ≤ cs.size ∧ ∀ i (h : i < r.length), ∀ j, j < m → cs[x.off + i * m + j]? = (f (nth r i))[j]?))
theorem parg_rowm (hw : Wm f m) (hm : 0 < m) (hf : ∀ x, ∀ u ∈ f x, Scalar u = true) {w : World} {u : Value} {r : List α} (h : SlCm f m w u r) (off : Nat) : ∃ p o va, PArg w u off [p] [o] va ∧ ∀ H, InH H off [o] → SlS f m H va r := by
  rcases h with ⟨rfl, rfl⟩ | ⟨x, l, c, rfl, hl, hr, h⟩
  · exact ⟨.none, .none, .slice none 0 0, parg_one (fun ρ _ => .inl ⟨rfl, rfl⟩) (fun ρ _ => .nilSlice), fun H _ => .nil⟩
  · by_cases h0 : c = 0
    · subst h0
      obtain rfl : l = 0 := by omega
      obtain rfl : r = [] := List.length_eq_zero_iff.1 hr
      exact ⟨.null, .null, .slice (some ⟨off, 0, none⟩) 0 0, parg_one (fun ρ _ => .inr (.inl ⟨rfl, rfl⟩)) (fun ρ h => .empty h), fun H hH => .inr ⟨off, 0, 0, [], rfl, .inr (.inr ⟨hH 0 _ rfl, rfl⟩), by simp, by simp, by simp [fl]⟩⟩
    · obtain ⟨hsp, cs, T, fr, hb, hsz, hc⟩ := h.resolve_left h0
      have hlt : x.block < w.heap.size := (Array.getElem?_eq_some_iff.1 hb).1
      have hx : x = ⟨x.block, x.off, none⟩ := by cases x; simp at hsp; subst hsp; rfl
      have hlen : (fl f r).length = l * m := by rw [fl_len hw, hr]
      have hlm : l * m ≤ c * m := Nat.mul_le_mul_right m hl
      refine ⟨.at ⟨x.block, x.off, x.off + c * m, m⟩, .cells false (fl f r) m, .slice (some ⟨off, 0, none⟩) l c, parg_one (fun ρ hρ => .inr (.inr ⟨_, _, _, rfl, rfl, hlt, rfl, cs, T, fr, hb, by rw [hlen]; show x.off + l * m ≤ x.off + c * m; omega, hsz, fun i hi => ?_, fun h => by cases h⟩)) (fun ρ hρ => ?_), fun H hH => ?_⟩
      · have hi1 : i < l * m := by rw [← hlen]; exact hi
        have hq : i / m < r.length := by rw [hr]; exact Nat.div_lt_of_lt_mul (by rw [Nat.mul_comm]; exact hi1)
        have hj : i % m < m := Nat.mod_lt _ hm
        have hij : i / m * m + i % m = i := by rw [Nat.mul_comm]; exact Nat.div_add_mod i m
        have h1 := hc (i / m) hq (i % m) hj
        have h2 := fl_get hw hq hj
        rw [hij] at h2
        rw [show x.off + i / m * m + i % m = x.off + i by omega, ← h2] at h1
        have h3 : (fl f r)[i]? = some (fl f r)[i] := List.getElem?_eq_getElem hi
        rw [h3] at h1
        show VRel ρ ((fl f r).getD i undef) (cs.getD (x.off + i) undef)
        rw [List.getD_eq_getElem?_getD, h3, Array.getD_eq_getD_getElem?, h1]
        have hmem : (fl f r)[i] ∈ fl f r := List.getElem_mem hi
        obtain ⟨y, _, hy⟩ := List.mem_flatMap.1 hmem
        exact .scalar (hf y _ hy) ρ
      · rw [hx]
        exact .slice hρ hl (Nat.le_refl _) (.inl rfl) (by show x.off + 0 + c * m ≤ x.off + c * m; omega)
      · exact .inr ⟨off, 0, c, fl f r, by rw [hr], .inl ⟨false, hH 0 _ rfl⟩, by rw [hlen, hr]; omega, by omega, by rw [List.drop_zero, List.take_of_length_le (by rw [hlen, hr]; exact Nat.le_refl _)]⟩
def ElemOk (P : Program) (e : TypeId) (f : α → List Value) (ok : α → Prop) : Prop := ∀ (H : Type) (enc : TypeId × Value → H) (w : World) (base fuel : Nat) (cs : List Value) (x : DataW H × List MemPlace), DataW.trod enc P w base (fun _ => true) true fuel e cs = some x → ∃ a, cs = f a ∧ ok a
theorem trod_elems {H : Type} {enc : TypeId × Value → H} {P : Program} {w : World} {base fuel : Nat} {t e : TypeId} {u : Value} {x : DataW H × List MemPlace} {ok : α → Prop} (ht : P.underlying t = some (.slice e)) (hc : P.cellsOf e = m) (hm : 0 < m) (hw : Wm f m) (hE : ElemOk P e f ok)
    (h : DataW.trod enc P w base (fun _ => true) true fuel t [u] = some x) : ∃ r, SlCm f m w u r ∧ ∀ a ∈ r, ok a := by
  rcases Go.Deep.open_slice ht h with ⟨hcs, _⟩ | ⟨a, l, c, mm, n, D, Pl, hcs, hb, hl, hmx, hmm, _, hx⟩
  · simp at hcs; subst hcs
    exact ⟨[], .inl ⟨rfl, rfl⟩, by simp⟩
  · simp at hcs; subst hcs
    simp at hmm
    subst hmm
    rw [hc] at hx
    have hex : ∀ i : Nat, ∃ g : α, i < mm → ok g ∧ ∀ j, j < m → w.cell? (a.add (i * m + j)) = (f g)[j]? := fun i => by
      by_cases hi : i < mm
      · obtain ⟨cs', h1, h2⟩ := hx i hi
        obtain ⟨g, rfl, hg⟩ := hE _ _ _ _ _ _ _ h2
        obtain ⟨_, _, hcell⟩ := World.cells?_some h1
        exact ⟨g, fun _ => ⟨hg, fun j hj => by have := hcell j hj; rwa [Go.Deep.add_add] at this⟩⟩
      · exact ⟨default, fun h => absurd h hi⟩
    obtain ⟨g, hg⟩ : ∃ g : Nat → α, ∀ i, i < mm → ok (g i) ∧ ∀ j, j < m → w.cell? (a.add (i * m + j)) = (f (g i))[j]? := ⟨fun i => (hex i).choose, fun i => (hex i).choose_spec⟩
    refine ⟨(List.range l).map g, .inr ⟨a, l, mm, rfl, hl, by simp, ?_⟩, fun b hb' => ?_⟩
    · by_cases h0 : mm = 0
      · exact .inl h0
      · right
        have some' : ∀ i j, i < mm → j < m → ∃ v, w.cell? (a.add (i * m + j)) = some v := fun i j hi hj => by
          rw [(hg i hi).2 j hj]; exact ⟨_, List.getElem?_eq_getElem (by rw [hw]; exact hj)⟩
        obtain ⟨v0, h1⟩ := some' 0 0 (by omega) hm
        have e0 : a.add (0 * m + 0) = a := by rw [Nat.zero_mul]; unfold Addr.add; rw [if_pos rfl]
        rw [e0] at h1
        obtain ⟨hsp, cs, T, fr, hbk, _⟩ := cell_some h1
        have at' : ∀ i v, w.cell? (a.add i) = some v → cs[a.off + i]? = some v := fun i v h => by
          rw [addr_at hsp] at h
          obtain ⟨_, cs', T', fr', hb', h2⟩ := cell_some h
          simp only at hb' h2
          rw [hbk] at hb'; cases hb'
          exact h2
        refine ⟨hsp, cs, T, fr, hbk, ?_, fun i h j hj => ?_⟩
        · obtain ⟨v, h2⟩ := some' (mm - 1) (m - 1) (by omega) (by omega)
          have h3 := (Array.getElem?_eq_some_iff.1 (at' _ _ h2)).1
          have h4 : (mm - 1) * m + m = mm * m := by
            conv => rhs; rw [show mm = (mm - 1) + 1 by omega, Nat.add_mul, Nat.one_mul]
          omega
        · have hil : i < l := by simpa using h
          obtain ⟨v, h2⟩ := some' i j (by omega) hj
          have h3 := at' _ _ h2
          rw [(hg i (by omega)).2 j hj] at h2
          rw [Nat.add_assoc, h3, nth_eq (by simpa using hil)]
          simp only [List.getElem_map, List.getElem_range]
          exact h2.symm
    · obtain ⟨i, hi, rfl⟩ := List.mem_map.1 hb'
      exact (hg i (by have := List.mem_range.1 hi; omega)).1
end
section
variable {H : Type} {enc : TypeId × Value → H} {P : Program} {w : World} {base fuel : Nat} {t e : TypeId} {cs : List Value} {x : DataW H × List MemPlace}
theorem take1 {o : Nat} {v : Value} (h : (cs.drop o).take 1 = [v]) : cs[o]? = some v := by
  have h1 : ((cs.drop o).take 1)[0]? = some v := by rw [h]; rfl
  rw [List.getElem?_take, if_pos (by decide), List.getElem?_drop] at h1
  exact h1
theorem trod_len {fs : Array Field} (hs : P.underlying e = some (.struct fs)) (h : DataW.trod enc P w base (fun _ => true) true fuel e cs = some x) : cs.length = P.cellsOf e := by
  obtain ⟨_, _, _, _, hl, _⟩ := DataW.trod_struct hs h
  exact hl
theorem fld {fs : Array Field} (hs : P.underlying e = some (.struct fs)) (h : DataW.trod enc P w base (fun _ => true) true fuel e cs = some x) {i : Nat} {fd : Field} (hi : fs[i]? = some fd) : ∃ n y, DataW.trod enc P w base (fun _ => true) true n fd.type ((cs.drop fd.offset).take (P.cellsOf fd.type)) = some y := by
  obtain ⟨xs, n, _, _, _, hl, hx⟩ := DataW.trod_struct hs h
  have h1 := hx i fd hi
  have h2 := (Array.getElem?_eq_some_iff.1 hi).1
  rw [List.getElem?_eq_getElem (by omega)] at h1
  exact ⟨n, _, h1⟩
theorem fld_int {fs : Array Field} {k : IntKind} (hs : P.underlying e = some (.struct fs)) (h : DataW.trod enc P w base (fun _ => true) true fuel e cs = some x) {i : Nat} {fd : Field} (hi : fs[i]? = some fd) (hc : P.cellsOf fd.type = 1) (hu : P.underlying fd.type = some (.int k)) : ∃ n : Int, cs[fd.offset]? = some (.int k n) ∧ (Lit.int k n).wf = true := by
  obtain ⟨n, y, h1⟩ := fld hs h hi
  rw [hc] at h1
  obtain ⟨z, e1, _, hw⟩ := DataW.trod_int hu h1
  exact ⟨z, take1 e1, hw⟩
theorem bnd_i64 {n : Int} (hw : (Lit.int .i64 n).wf = true) : -9223372036854775808 ≤ n ∧ n ≤ 9223372036854775807 := by
  simp [Lit.wf, IntKind.min, IntKind.max, IntKind.signed, IntKind.bits] at hw
  omega
theorem fld_i64 {fs : Array Field} (hs : P.underlying e = some (.struct fs)) (h : DataW.trod enc P w base (fun _ => true) true fuel e cs = some x) {i : Nat} {fd : Field} (hi : fs[i]? = some fd) (hc : P.cellsOf fd.type = 1) (hu : P.underlying fd.type = some (.int .i64)) : ∃ n : Int, cs[fd.offset]? = some (.int .i64 n) ∧ -9223372036854775808 ≤ n ∧ n ≤ 9223372036854775807 := by
  obtain ⟨z, h1, hw⟩ := fld_int hs h hi hc hu
  exact ⟨z, h1, bnd_i64 hw⟩
end
end Go.Proofs.YtjgeheookgogaaaA


/-
  Walks of functions of the given program, and what they compute.
-/
namespace Go.Proofs.YtjgeheookgogaaaA
set_option linter.unusedVariables false
open Go Go.RowKit Go.Shelf Go.Proofs
def Canon (l : List Sp) : Prop := (∀ x ∈ l, x.1 < x.2) ∧ l.Pairwise (fun a b => a.2 < b.1)
def Weak (l : List Sp) : Prop := (∀ x ∈ l, x.1 < x.2) ∧ l.Pairwise (fun a b => a.2 ≤ b.1)
def inS (l : List Sp) (a : Nat) : Prop := ∃ x ∈ l, x.1 ≤ a ∧ a < x.2
def totS (l : List Sp) : Nat := (l.map (fun x => x.2 - x.1)).sum
theorem totS_app (l m : List Sp) : totS (l ++ m) = totS l + totS m := by unfold totS; rw [List.map_append, List.sum_append]
theorem totS_one (x : Sp) : totS [x] = x.2 - x.1 := by simp [totS]
theorem inS_app {l m : List Sp} {a : Nat} : inS (l ++ m) a ↔ inS l a ∨ inS m a := by
  constructor
  · rintro ⟨x, hx, h⟩
    rcases List.mem_append.1 hx with hx | hx
    · exact .inl ⟨x, hx, h⟩
    · exact .inr ⟨x, hx, h⟩
  · rintro (⟨x, hx, h⟩ | ⟨x, hx, h⟩)
    · exact ⟨x, List.mem_append_left _ hx, h⟩
    · exact ⟨x, List.mem_append_right _ hx, h⟩
theorem inS_one {x : Sp} {a : Nat} : inS [x] a ↔ x.1 ≤ a ∧ a < x.2 := ⟨fun ⟨y, hy, h⟩ => by rw [List.mem_singleton.1 hy] at h; exact h, fun h => ⟨x, List.mem_cons_self, h⟩⟩
theorem inS_nil {a : Nat} : ¬ inS [] a := fun ⟨_, h, _⟩ => nomatch h
theorem js_snoc (o : List Sp) (z x : Sp) : joinStep (o ++ [z]) x = if z.2 = x.1 then o ++ [(z.1, x.2)] else o ++ [z] ++ [x] := by
  have e : nth (o ++ [z]) ((o ++ [z]).length - 1) = z := by
    rw [List.length_append]
    show nth _ (o.length + 1 - 1) = z
    rw [Nat.add_sub_cancel, nth_eq (by simp)]; simp
  unfold joinStep
  rw [e]
  by_cases h : z.2 = x.1
  · rw [if_pos ⟨by simp, h⟩, if_pos h, List.length_append]
    show (o ++ [z]).set (o.length + 1 - 1) _ = _
    rw [Nat.add_sub_cancel, List.set_append_right _ _ (Nat.le_refl _), Nat.sub_self]; rfl
  · rw [if_neg (fun q => h q.2), if_neg h]
theorem js_nil (x : Sp) : joinStep [] x = [x] := by unfold joinStep; rw [if_neg (fun q => absurd q.1 (by simp))]; rfl
structure JS (o l r : List Sp) : Prop where
  canon : Canon r
  sup : ∀ y ∈ o ++ l, ∃ y2 ∈ r, y2.1 ≤ y.1 ∧ y.2 ≤ y2.2
  tot : totS r = totS o + totS l
  ins : ∀ a, inS r a ↔ inS (o ++ l) a
  ends : ∀ a ∈ r, (∃ y ∈ o ++ l, a.1 = y.1) ∧ ∃ y ∈ o ++ l, a.2 = y.2
theorem canon_snoc {o : List Sp} {x : Sp} (ho : Canon o) (hx : x.1 < x.2) (h : ∀ a ∈ o, a.2 < x.1) : Canon (o ++ [x]) := by
  refine ⟨fun y hy => ?_, List.pairwise_append.2 ⟨ho.2, List.pairwise_singleton _ _, fun a ha b hb => ?_⟩⟩
  · rcases List.mem_append.1 hy with hy | hy
    · exact ho.1 y hy
    · rw [List.mem_singleton.1 hy]; exact hx
  · rw [List.mem_singleton.1 hb]; exact h a ha
theorem canon_app {o m : List Sp} (h : Canon (o ++ m)) : Canon o ∧ Canon m ∧ ∀ a ∈ o, ∀ b ∈ m, a.2 < b.1 := by
  obtain ⟨h1, h2⟩ := h
  obtain ⟨h3, h4, h5⟩ := List.pairwise_append.1 h2
  exact ⟨⟨fun x hx => h1 x (List.mem_append_left _ hx), h3⟩, ⟨fun x hx => h1 x (List.mem_append_right _ hx), h4⟩, h5⟩
theorem JS.new {o : List Sp} {x : Sp} (ho : Canon (o ++ [x])) : JS o [x] (o ++ [x]) :=
  ⟨ho, fun y hy => ⟨y, hy, Nat.le_refl _, Nat.le_refl _⟩, totS_app _ _, fun _ => Iff.rfl, fun a ha => ⟨⟨a, ha, rfl⟩, a, ha, rfl⟩⟩
theorem js_step {o : List Sp} {x : Sp} (ho : Canon o) (hx : x.1 < x.2) (h : ∀ a ∈ o, a.2 ≤ x.1) : JS o [x] (joinStep o x) ∧ ∀ a ∈ joinStep o x, a.2 ≤ x.2 := by
  rcases List.eq_nil_or_concat o with rfl | ⟨o', z, rfl⟩
  · rw [js_nil]
    have hc : Canon ([] ++ [x]) := canon_snoc ho hx (fun _ q => nomatch q)
    exact ⟨JS.new hc, fun a ha => by rw [List.mem_singleton.1 ha]; exact Nat.le_refl _⟩
  · rw [List.concat_eq_append] at *
    obtain ⟨c1, c2, c3⟩ := canon_app ho
    have hz : z.1 < z.2 := c2.1 z List.mem_cons_self
    have hzx : z.2 ≤ x.1 := h z (List.mem_append_right _ List.mem_cons_self)
    have h3 : ∀ a ∈ o', a.2 < z.1 := fun a ha => c3 a ha z List.mem_cons_self
    rw [js_snoc]
    by_cases e : z.2 = x.1
    · rw [if_pos e]
      have hc : Canon (o' ++ [(z.1, x.2)]) := canon_snoc c1 (show z.1 < x.2 by omega) h3
      have m1 : (z.1, x.2) ∈ o' ++ [(z.1, x.2)] := List.mem_append_right _ List.mem_cons_self
      have mz : z ∈ o' ++ [z] ++ [x] := List.mem_append_left _ (List.mem_append_right _ List.mem_cons_self)
      have mx : x ∈ o' ++ [z] ++ [x] := List.mem_append_right _ List.mem_cons_self
      refine ⟨⟨hc, fun y hy => ?_, ?_, fun a => ?_, fun a ha => ?_⟩, fun a ha => ?_⟩
      · rcases List.mem_append.1 hy with hy | hy
        · rcases List.mem_append.1 hy with hy | hy
          · exact ⟨y, List.mem_append_left _ hy, Nat.le_refl _, Nat.le_refl _⟩
          · rw [List.mem_singleton.1 hy]; exact ⟨_, m1, Nat.le_refl _, show z.2 ≤ x.2 by omega⟩
        · rw [List.mem_singleton.1 hy]; exact ⟨_, m1, show z.1 ≤ x.1 by omega, Nat.le_refl _⟩
      · rw [totS_app, totS_app, totS_one, totS_one, totS_one]
        show _ + (x.2 - z.1) = _
        omega
      · rw [inS_app, inS_app, inS_app, inS_one, inS_one, inS_one]
        constructor
        · rintro (h | ⟨q1, q2⟩)
          · exact .inl (.inl h)
          · by_cases q : a < z.2
            · exact .inl (.inr ⟨q1, q⟩)
            · exact .inr ⟨by omega, q2⟩
        · rintro ((h | ⟨q1, q2⟩) | ⟨q1, q2⟩)
          · exact .inl h
          · exact .inr ⟨q1, show a < x.2 by omega⟩
          · exact .inr ⟨show z.1 ≤ a by omega, q2⟩
      · rcases List.mem_append.1 ha with ha | ha
        · exact ⟨⟨a, List.mem_append_left _ (List.mem_append_left _ ha), rfl⟩, a, List.mem_append_left _ (List.mem_append_left _ ha), rfl⟩
        · rw [List.mem_singleton.1 ha]; exact ⟨⟨z, mz, rfl⟩, x, mx, rfl⟩
      · rcases List.mem_append.1 ha with ha | ha
        · have := h3 a ha; omega
        · rw [List.mem_singleton.1 ha]; exact Nat.le_refl _
    · rw [if_neg e]
      have hc : Canon (o' ++ [z] ++ [x]) := canon_snoc ho hx (fun a ha => by
        rcases List.mem_append.1 ha with ha | ha
        · have := h3 a ha; omega
        · rw [List.mem_singleton.1 ha]; omega)
      refine ⟨JS.new hc, fun a ha => ?_⟩
      rcases List.mem_append.1 ha with ha | ha
      · have := h a ha; omega
      · rw [List.mem_singleton.1 ha]; exact Nat.le_refl _
theorem join_all : ∀ (l o : List Sp), Canon o → Weak l → (∀ a ∈ o, ∀ b ∈ l, a.2 ≤ b.1) → JS o l (l.foldl joinStep o)
  | [], o, ho, _, _ => ⟨ho, fun y hy => ⟨y, by rwa [List.append_nil] at hy, Nat.le_refl _, Nat.le_refl _⟩, rfl, fun a => by rw [List.append_nil]; rfl, fun a ha => ⟨⟨a, by rw [List.append_nil]; exact ha, rfl⟩, a, by rw [List.append_nil]; exact ha, rfl⟩⟩
  | x :: l, o, ho, hw, h => by
    obtain ⟨w1, w2⟩ := hw
    obtain ⟨w3, w4⟩ := List.pairwise_cons.1 w2
    obtain ⟨s1, s2⟩ := js_step ho (w1 x List.mem_cons_self) (fun a ha => h a ha x List.mem_cons_self)
    have r := join_all l (joinStep o x) s1.canon ⟨fun y hy => w1 y (List.mem_cons_of_mem _ hy), w4⟩ (fun a ha b hb => Nat.le_trans (s2 a ha) (w3 b hb))
    have e : o ++ x :: l = (o ++ [x]) ++ l := by rw [List.append_assoc]; rfl
    refine ⟨r.canon, fun y hy => ?_, ?_, fun a => ?_, fun a ha => ?_⟩
    · rw [e] at hy
      rcases List.mem_append.1 hy with hy | hy
      · obtain ⟨y2, q1, q2, q3⟩ := s1.sup y hy
        obtain ⟨y3, q4, q5, q6⟩ := r.sup y2 (List.mem_append_left _ q1)
        exact ⟨y3, q4, Nat.le_trans q5 q2, Nat.le_trans q3 q6⟩
      · exact r.sup y (List.mem_append_right _ hy)
    · have := r.tot; have := s1.tot
      show totS (l.foldl joinStep (joinStep o x)) = _
      have e2 : totS (x :: l) = totS [x] + totS l := totS_app [x] l
      omega
    · show inS (l.foldl joinStep (joinStep o x)) a ↔ _
      rw [r.ins, e, inS_app, inS_app (l := o ++ [x]), s1.ins]
    · obtain ⟨⟨y, q1, q2⟩, y', q3, q4⟩ := r.ends a ha
      rw [e]
      constructor
      · rcases List.mem_append.1 q1 with q1 | q1
        · obtain ⟨⟨y3, q5, q6⟩, _⟩ := s1.ends y q1
          exact ⟨y3, List.mem_append_left _ q5, q2.trans q6⟩
        · exact ⟨y, List.mem_append_right _ q1, q2⟩
      · rcases List.mem_append.1 q3 with q3 | q3
        · obtain ⟨_, y3, q5, q6⟩ := s1.ends y' q3
          exact ⟨y3, List.mem_append_left _ q5, q4.trans q6⟩
        · exact ⟨y', List.mem_append_right _ q3, q4⟩
theorem meets_iff {x o : Sp} : meetsB x o = true ↔ max x.1 o.1 < min x.2 o.2 := decide_eq_true_iff
theorem within_iff {x o : Sp} : withinB x o = true ↔ (x.2 ≤ x.1 ∨ o.1 ≤ x.1 ∧ x.2 ≤ o.2) := decide_eq_true_iff
theorem pw_perm {α : Type} {R : α → α → Prop} (hs : ∀ a b, R a b → R b a) : ∀ {l m : List α}, l.Perm m → l.Pairwise R → m.Pairwise R := by
  intro l m h
  induction h with
  | nil => exact id
  | cons x p ih => intro h; obtain ⟨h1, h2⟩ := List.pairwise_cons.1 h; exact List.pairwise_cons.2 ⟨fun y hy => h1 y (p.symm.subset hy), ih h2⟩
  | swap x y l =>
    intro h
    obtain ⟨h1, h2⟩ := List.pairwise_cons.1 h
    obtain ⟨h3, h4⟩ := List.pairwise_cons.1 h2
    refine List.pairwise_cons.2 ⟨fun z hz => ?_, List.pairwise_cons.2 ⟨fun z hz => h1 z (List.mem_cons_of_mem _ hz), h4⟩⟩
    rcases List.mem_cons.1 hz with rfl | hz
    · exact hs _ _ (h1 _ List.mem_cons_self)
    · exact h3 z hz
  | trans _ _ h1 h2 => exact fun h => h2 (h1 h)
theorem totS_perm {l m : List Sp} (h : l.Perm m) : totS l = totS m := by
  induction h with
  | nil => rfl
  | cons x p ih => have a := totS_app [x] ‹_›; unfold totS at *; simp only [List.map_cons, List.sum_cons]; omega
  | swap x y l => unfold totS; simp only [List.map_cons, List.sum_cons]; omega
  | trans _ _ h1 h2 => exact h1.trans h2
theorem weak_of {l' l : List Sp} {x : Sp} (hc : Canon l) (hx : x.1 < x.2) (hm : l.any (meetsB x) = false) (hp : l'.Perm (l ++ [x])) (hs : SortedLo l') : Weak l' := by
  have hne : ∀ y ∈ l', y.1 < y.2 := fun y hy => by
    rcases List.mem_append.1 (hp.subset hy) with h | h
    · exact hc.1 y h
    · rw [List.mem_singleton.1 h]; exact hx
  have h1 : (l ++ [x]).Pairwise (fun a b : Sp => ¬ max a.1 b.1 < min a.2 b.2) := by
    refine List.pairwise_append.2 ⟨hc.2.imp (fun {a b} h => by omega), List.pairwise_singleton _ _, fun a ha b hb => ?_⟩
    rw [List.mem_singleton.1 hb]
    have h := List.any_eq_false.1 hm a ha
    intro q
    exact h (meets_iff.2 (by omega))
  have h2 := pw_perm (fun a b h => by omega) hp.symm h1
  refine ⟨hne, ?_⟩
  exact (h2.and (sortedLo_pw hs)).imp_of_mem (fun {a b} ha hb ⟨h, h'⟩ => by
    have := hne a ha; have := hne b hb
    omega)
structure AddV (l : List Sp) (x : Sp) (ok : Bool) (L : List Sp) : Prop where
  canon : Canon L
  spw : ∀ y ∈ L, SpW y
  len : L.length ≤ l.length + 1
  tot : totS L = totS l + (if ok = true then x.2 - x.1 else 0)
  sup : ok = true → ∃ y ∈ L, y.1 ≤ x.1 ∧ x.2 ≤ y.2
  ins : ∀ a, inS L a ↔ inS l a ∨ (ok = true ∧ x.1 ≤ a ∧ a < x.2)
  is : ok = (!decide (x.2 ≤ x.1) && !l.any (meetsB x))
theorem addR_v {l : List Sp} {x : Sp} {ok : Bool} {L : List Sp} (h : AddR l x ok L) (hc : Canon l) (hw : ∀ y ∈ l, SpW y) (hx : SpW x) : AddV l x ok L := by
  rcases h with ⟨rfl, h2, rfl⟩ | ⟨rfl, h1, h2, l', h3, h4, rfl⟩
  · refine ⟨hc, hw, by omega, by simp, (fun h => nomatch h), fun a => ⟨.inl, fun h => h.elim id (fun h => nomatch h.1)⟩, ?_⟩
    rcases h2 with h | h
    · rw [decide_eq_true h]; rfl
    · rw [h]; simp
  · have hwk := weak_of hc h1 h2 h3 h4
    have r := join_all l' [] ⟨(fun _ h => nomatch h), .nil⟩ hwk (fun _ h => nomatch h)
    have hl : l'.length = l.length + 1 := by rw [h3.length_eq, List.length_append]; rfl
    have hx' : x ∈ l' := h3.symm.subset (List.mem_append_right _ List.mem_cons_self)
    refine ⟨r.canon, fun y hy => ?_, ?_, ?_, fun _ => ?_, fun a => ?_, ?_⟩
    · have hw' : ∀ y ∈ l', SpW y := fun y hy => by
        rcases List.mem_append.1 (h3.subset hy) with h | h
        · exact hw y h
        · rw [List.mem_singleton.1 h]; exact hx
      obtain ⟨⟨y1, q1, q2⟩, y2, q3, q4⟩ := r.ends y hy
      exact ⟨by rw [q2]; exact (hw' y1 q1).1, by rw [q4]; exact (hw' y2 q3).2⟩
    · have := join_len l' l'.length (Nat.le_refl _)
      rw [List.take_length] at this
      unfold joinS; omega
    · have := r.tot
      unfold joinS
      rw [this, totS_perm h3, totS_app, totS_one, if_pos rfl]
      show 0 + _ = _
      omega
    · exact r.sup x hx'
    · unfold joinS
      rw [r.ins, List.nil_append]
      have : inS l' a ↔ inS (l ++ [x]) a := ⟨fun ⟨y, q, h⟩ => ⟨y, h3.subset q, h⟩, fun ⟨y, q, h⟩ => ⟨y, h3.symm.subset q, h⟩⟩
      rw [this, inS_app, inS_one]
      exact ⟨fun h => h.imp id (fun h => ⟨rfl, h⟩), fun h => h.imp id (fun h => h.2)⟩
    · rw [h2, decide_eq_false (by omega)]; rfl
theorem canon_nil : Canon [] := ⟨(fun _ h => nomatch h), .nil⟩
/-- What two spans have in common: an address. -/
theorem meets_in {x o : Sp} : meetsB x o = true ↔ ∃ a, (x.1 ≤ a ∧ a < x.2) ∧ (o.1 ≤ a ∧ a < o.2) := by
  rw [meets_iff]
  exact ⟨fun h => ⟨max x.1 o.1, by omega, by omega⟩, fun ⟨a, h⟩ => by omega⟩
theorem any_meets {l : List Sp} {x : Sp} : l.any (meetsB x) = true ↔ ∃ a, (x.1 ≤ a ∧ a < x.2) ∧ inS l a := by
  rw [List.any_eq_true]
  constructor
  · rintro ⟨o, ho, h⟩
    obtain ⟨a, h1, h2⟩ := meets_in.1 h
    exact ⟨a, h1, o, ho, h2⟩
  · rintro ⟨a, h1, o, ho, h2⟩
    exact ⟨o, ho, meets_in.2 ⟨a, h1, h2⟩⟩
theorem canon_disj : ∀ {l : List Sp}, Canon l → ∀ {a b : Sp}, a ∈ l → b ∈ l → a = b ∨ a.2 < b.1 ∨ b.2 < a.1
  | c :: l, hc, a, b, ha, hb => by
    obtain ⟨h1, h2⟩ := List.pairwise_cons.1 hc.2
    rcases List.mem_cons.1 ha with rfl | ha'
    · rcases List.mem_cons.1 hb with rfl | hb'
      · exact .inl rfl
      · exact .inr (.inl (h1 b hb'))
    · rcases List.mem_cons.1 hb with rfl | hb'
      · exact .inr (.inr (h1 a ha'))
      · exact canon_disj ⟨fun x hx => hc.1 x (List.mem_cons_of_mem _ hx), h2⟩ ha' hb'
def pcs (x o : Sp) : List Sp := if withinB x o = true then remP x o 2 else [o]
theorem remA_flat (x : Sp) (l : List Sp) : ∀ k, k ≤ l.length → remA x l k = (l.take k).flatMap (pcs x)
  | 0, _ => by rw [List.take_zero]; rfl
  | k + 1, h => by
    rw [← take_snoc (by omega), List.flatMap_append, ← remA_flat x l k (by omega)]
    show (if _ then _ else _) = _ ++ ([nth l k].flatMap (pcs x))
    rw [List.flatMap_cons, List.flatMap_nil, List.append_nil]
    unfold pcs
    split <;> rfl
theorem pcs_ok {x o : Sp} (hx : x.1 < x.2) (ho : o.1 < o.2) (hw : withinB x o = true ∨ meetsB x o = false) : Canon (pcs x o) ∧ (∀ y ∈ pcs x o, o.1 ≤ y.1 ∧ y.2 ≤ o.2) ∧ ∀ a, inS (pcs x o) a ↔ (o.1 ≤ a ∧ a < o.2) ∧ ¬ (x.1 ≤ a ∧ a < x.2) := by
  by_cases h : withinB x o = true
  · have h' := within_iff.1 h
    have e : pcs x o = (if x.1 ≤ o.1 then [] else [(o.1, x.1)]) ++ (if o.2 ≤ x.2 then [] else [(x.2, o.2)]) := by
      unfold pcs
      rw [if_pos h]
      show (if (x.2, o.2).2 ≤ (x.2, o.2).1 then (if (o.1, x.1).2 ≤ (o.1, x.1).1 then [] else [] ++ [(o.1, x.1)]) else (if (o.1, x.1).2 ≤ (o.1, x.1).1 then [] else [] ++ [(o.1, x.1)]) ++ [(x.2, o.2)]) = _
      dsimp only
      split <;> split <;> rfl
    rw [e]
    have hA : Canon (if x.1 ≤ o.1 then [] else [(o.1, x.1)]) := by
      split
      · exact canon_nil
      · exact ⟨fun y hy => by rw [List.mem_singleton.1 hy]; show o.1 < x.1; omega, List.pairwise_singleton _ _⟩
    refine ⟨?_, fun y hy => ?_, fun a => ?_⟩
    · by_cases q : o.2 ≤ x.2
      · rw [if_pos q, List.append_nil]; exact hA
      · rw [if_neg q]
        refine canon_snoc hA (show x.2 < o.2 by omega) (fun a ha => ?_)
        split at ha
        · exact nomatch ha
        · rw [List.mem_singleton.1 ha]; exact hx
    · rcases List.mem_append.1 hy with hy | hy
      · split at hy
        · exact nomatch hy
        · rw [List.mem_singleton.1 hy]; exact ⟨Nat.le_refl _, show x.1 ≤ o.2 by omega⟩
      · split at hy
        · exact nomatch hy
        · rw [List.mem_singleton.1 hy]; exact ⟨show o.1 ≤ x.2 by omega, Nat.le_refl _⟩
    · rw [inS_app]
      have e1 : inS (if x.1 ≤ o.1 then [] else [(o.1, x.1)]) a ↔ o.1 ≤ a ∧ a < x.1 := by
        split
        · exact ⟨fun h => (inS_nil h).elim, fun h => by omega⟩
        · exact inS_one
      have e2 : inS (if o.2 ≤ x.2 then [] else [(x.2, o.2)]) a ↔ x.2 ≤ a ∧ a < o.2 := by
        split
        · exact ⟨fun h => (inS_nil h).elim, fun h => by omega⟩
        · exact inS_one
      rw [e1, e2]
      omega
  · have hm : meetsB x o = false := hw.resolve_left h
    have e : pcs x o = [o] := if_neg h
    rw [e]
    refine ⟨⟨(fun y hy => by rw [List.mem_singleton.1 hy]; exact ho), List.pairwise_singleton _ _⟩, fun y hy => by rw [List.mem_singleton.1 hy]; exact ⟨Nat.le_refl _, Nat.le_refl _⟩, fun a => ?_⟩
    rw [inS_one]
    refine ⟨fun q => ⟨q, fun q2 => ?_⟩, fun q => q.1⟩
    rw [meets_in.2 ⟨a, q2, q⟩] at hm
    exact nomatch hm
theorem rem_all {x : Sp} (hx : x.1 < x.2) : ∀ (l : List Sp), Canon l → (∀ o ∈ l, withinB x o = true ∨ meetsB x o = false) → Canon (l.flatMap (pcs x)) ∧ (∀ y ∈ l.flatMap (pcs x), ∃ o ∈ l, o.1 ≤ y.1 ∧ y.2 ≤ o.2) ∧ ∀ a, inS (l.flatMap (pcs x)) a ↔ inS l a ∧ ¬ (x.1 ≤ a ∧ a < x.2)
  | [], _, _ => ⟨canon_nil, (fun _ h => nomatch h), fun a => ⟨fun h => (inS_nil h).elim, fun h => (inS_nil h.1).elim⟩⟩
  | o :: l, hc, h => by
    obtain ⟨p1, p2⟩ := List.pairwise_cons.1 hc.2
    obtain ⟨r1, r2, r3⟩ := rem_all hx l ⟨fun y hy => hc.1 y (List.mem_cons_of_mem _ hy), p2⟩ (fun y hy => h y (List.mem_cons_of_mem _ hy))
    obtain ⟨q1, q2, q3⟩ := pcs_ok hx (hc.1 o List.mem_cons_self) (h o List.mem_cons_self)
    rw [List.flatMap_cons]
    refine ⟨⟨fun y hy => ?_, List.pairwise_append.2 ⟨q1.2, r1.2, fun a ha b hb => ?_⟩⟩, fun y hy => ?_, fun a => ?_⟩
    · rcases List.mem_append.1 hy with hy | hy
      · exact q1.1 y hy
      · exact r1.1 y hy
    · obtain ⟨o2, m1, m2, m3⟩ := r2 b hb
      have := q2 a ha; have := p1 o2 m1
      omega
    · rcases List.mem_append.1 hy with hy | hy
      · exact ⟨o, List.mem_cons_self, q2 y hy⟩
      · obtain ⟨o2, m1, m2⟩ := r2 y hy
        exact ⟨o2, List.mem_cons_of_mem _ m1, m2⟩
    · have e : inS (o :: l) a ↔ (o.1 ≤ a ∧ a < o.2) ∨ inS l a := by
        rw [← inS_one, ← inS_app]; rfl
      rw [inS_app, q3, r3, e]
      constructor
      · rintro (⟨h1, h2⟩ | ⟨h1, h2⟩)
        · exact ⟨.inl h1, h2⟩
        · exact ⟨.inr h1, h2⟩
      · rintro ⟨h1 | h1, h2⟩
        · exact .inl ⟨h1, h2⟩
        · exact .inr ⟨h1, h2⟩
structure RemV (l : List Sp) (x : Sp) (ok : Bool) (L : List Sp) : Prop where
  canon : Canon L
  spw : ∀ y ∈ L, SpW y
  len : L.length ≤ 2 * l.length
  ins : ∀ a, inS L a ↔ inS l a ∧ ¬ (ok = true ∧ x.1 ≤ a ∧ a < x.2)
  is : ok = (!decide (x.2 ≤ x.1) && l.any (withinB x))
theorem remR_v {l : List Sp} {x : Sp} {ok : Bool} {L : List Sp} (h : RemR l x ok L) (hc : Canon l) (hw : ∀ y ∈ l, SpW y) (hx : SpW x) : RemV l x ok L := by
  rcases h with ⟨rfl, h2, rfl⟩ | ⟨rfl, h1, h2, rfl⟩
  · refine ⟨hc, hw, by omega, fun a => ⟨fun h => ⟨h, fun h => nomatch h.1⟩, fun h => h.1⟩, ?_⟩
    rcases h2 with h | h
    · rw [decide_eq_true h]; rfl
    · rw [(Bool.or_eq_false_iff.1 h).2, Bool.and_false]
  · have h3 : l.any (withinB x) = true := by rw [decide_eq_false (by omega)] at h2; exact h2
    obtain ⟨o, ho, hwo⟩ := List.any_eq_true.1 h3
    have hwo' := within_iff.1 hwo
    have hd : ∀ y ∈ l, withinB x y = true ∨ meetsB x y = false := fun y hy => by
      rcases canon_disj hc ho hy with rfl | h | h
      · exact .inl hwo
      · exact .inr (decide_eq_false (by omega))
      · exact .inr (decide_eq_false (by omega))
    obtain ⟨r1, r2, r3⟩ := rem_all h1 l hc hd
    have e := remA_flat x l l.length (Nat.le_refl _)
    rw [List.take_length] at e
    have hlen := remA_len x l l.length
    rw [e] at hlen ⊢
    refine ⟨r1, fun y hy => ?_, hlen, fun a => ?_, ?_⟩
    · obtain ⟨o2, m1, m2, m3⟩ := r2 y hy
      have := hw o2 m1
      have := r1.1 y hy
      unfold SpW at *
      omega
    · rw [r3]
      exact ⟨fun h => ⟨h.1, fun q => h.2 q.2⟩, fun h => ⟨h.1, fun q => h.2 ⟨rfl, q⟩⟩⟩
    · rw [h3, decide_eq_false (by omega)]; rfl

end Go.Proofs.YtjgeheookgogaaaA


/-
  Walks of functions of the given program, and what they compute.
-/
namespace Go.Proofs.YtjgeheookgogaaaA
set_option linter.unusedVariables false
open Go Go.RowKit Go.Shelf Go.Proofs
theorem upV_ok {a n : Nat} (hn : 0 < n) (hn2 : n < 18446744073709551616) (ha : a < 18446744073709551616) (h : (upV a n).2 = true) : (upV a n).1 % n = 0 ∧ a ≤ (upV a n).1 := by
  by_cases e : a % n = 0
  · rw [upV_0 e]; exact ⟨e, Nat.le_refl _⟩
  · rw [upV_1 e] at h ⊢
    have h := of_decide_eq_true h
    have hl := Nat.mod_lt a hn
    have hd := Nat.div_add_mod a n
    dsimp only at h ⊢
    refine ⟨?_, by omega⟩
    rw [Nat.mod_eq_of_lt (show a + (n - a % n) < 18446744073709551616 by omega), show a + (n - a % n) = n * (a / n) + n by omega, Nat.add_mod_right, Nat.mul_mod_right]
theorem upV_least {a n a' : Nat} (hn : 0 < n) (h1 : a ≤ a') (h2 : a' % n = 0) (h3 : a' < 18446744073709551616) : (upV a n).2 = true ∧ (upV a n).1 ≤ a' := by
  by_cases e : a % n = 0
  · rw [upV_0 e]; exact ⟨rfl, h1⟩
  · rw [upV_1 e]
    have hl := Nat.mod_lt a hn
    have hd := Nat.div_add_mod a n
    have hd' := Nat.div_add_mod a' n
    have hq : a / n < a' / n := by
      rcases Nat.lt_or_ge (a / n) (a' / n) with q | q
      · exact q
      · have := Nat.mul_le_mul_left n q
        omega
    have := Nat.mul_le_mul_left n (show a / n + 1 ≤ a' / n from hq)
    rw [Nat.mul_add, Nat.mul_one] at this
    have hb : a + (n - a % n) ≤ a' := by omega
    rw [Nat.mod_eq_of_lt (by omega)]
    exact ⟨decide_eq_true (by omega), hb⟩
theorem stop_no {n : Nat} {iv : Sp} {s : Nat × Bool} (h : stopS n iv s = false) : s.2 = true ∧ s.1 < iv.2 ∧ n ≤ iv.2 - s.1 := by
  obtain ⟨a, o⟩ := s
  cases o with
  | false => exact nomatch h
  | true =>
    unfold stopS at h
    simp only [Bool.not_true, Bool.false_or, Bool.or_eq_false_iff, decide_eq_false_iff_not] at h
    exact ⟨rfl, by dsimp only; omega, by dsimp only; omega⟩
theorem fitS_ok {n al : Nat} {iv : Sp} {l : List Sp} (hc : Canon l) (hw : ∀ x ∈ l, SpW x) (hiv : SpW iv) (hn : 0 < n) (hal : 0 < al) (hal2 : al < 18446744073709551616) : ∀ k, k ≤ l.length → (∀ j, j ≤ k → stopS n iv (fitS n al iv l j) = false) →
    (fitS n al iv l k).1 % al = 0 ∧ iv.1 ≤ (fitS n al iv l k).1 ∧ ∀ j, j < k → (nth l j).2 ≤ (fitS n al iv l k).1 ∨ (fitS n al iv l k).1 + n ≤ (nth l j).1
  | 0, _, h => by
    obtain ⟨h1, _⟩ := stop_no (h 0 (Nat.le_refl _))
    have := upV_ok hal hal2 hiv.1 h1
    exact ⟨this.1, this.2, fun j h => absurd h (Nat.not_lt_zero _)⟩
  | k + 1, hk, h => by
    obtain ⟨r1, r2, r3⟩ := fitS_ok hc hw hiv hn hal hal2 k (by omega) (fun j hj => h j (by omega))
    obtain ⟨s1, s2, s3⟩ := stop_no (h k (by omega))
    obtain ⟨t1, t2, t3⟩ := stop_no (h (k + 1) (Nat.le_refl _))
    have hm : nth l k ∈ l := nthN_mem (by omega)
    have hne := hc.1 _ hm
    have hmod : ((fitS n al iv l k).1 + n) % 18446744073709551616 = (fitS n al iv l k).1 + n := Nat.mod_eq_of_lt (by have := hiv.2; omega)
    by_cases q : meetsB ((fitS n al iv l k).1, ((fitS n al iv l k).1 + n) % 18446744073709551616) (nth l k) = true
    · have e : fitS n al iv l (k + 1) = upV (nth l k).2 al := (fit_y rfl q).symm
      rw [e] at t1 ⊢
      have u := upV_ok hal hal2 (hw _ hm).2 t1
      have q := meets_iff.1 q
      rw [hmod] at q
      dsimp only at q
      refine ⟨u.1, by omega, fun j hj => .inl ?_⟩
      rcases Nat.lt_or_ge j k with hj2 | hj2
      · have h1 := List.pairwise_iff_getElem.1 hc.2 j k (by omega) (by omega) hj2
        rw [← nth_eq, ← nth_eq] at h1
        omega
      · obtain rfl : j = k := by omega
        exact u.2
    · have q' : meetsB ((fitS n al iv l k).1, ((fitS n al iv l k).1 + n) % 18446744073709551616) (nth l k) = false := by simpa using q
      have e : fitS n al iv l (k + 1) = fitS n al iv l k := (fit_n rfl q').symm
      rw [e]
      refine ⟨r1, r2, fun j hj => ?_⟩
      rcases Nat.lt_or_ge j k with hj2 | hj2
      · exact r3 j hj2
      · obtain rfl : j = k := by omega
        have q2 : ¬ _ := fun h => q (meets_iff.2 h)
        rw [hmod] at q2
        dsimp only at q2
        omega
structure FitC (n al : Nat) (iv : Sp) (l : List Sp) (a : Nat) : Prop where
  n0 : 0 < n
  al0 : 0 < al
  mul : a % al = 0
  lo : iv.1 ≤ a
  hi : a + n ≤ iv.2
  free : ∀ x ∈ l, x.2 ≤ a ∨ a + n ≤ x.1
theorem fitV_ok {n al : Nat} {iv : Sp} {l : List Sp} (hc : Canon l) (hw : ∀ x ∈ l, SpW x) (hiv : SpW iv) (hal2 : al < 18446744073709551616) (h : (fitV n al iv l).2 = true) : FitC n al iv l (fitV n al iv l).1 := by
  unfold fitV at h ⊢
  split at h
  · exact nomatch h
  · rename_i h0
    rw [if_neg h0]
    split at h
    · exact nomatch h
    · rename_i h1
      rw [if_neg h1]
      have hs : ∀ j, j ≤ l.length → stopS n iv (fitS n al iv l j) = false := fun j hj => by
        cases e : stopS n iv (fitS n al iv l j) with
        | false => rfl
        | true => exact absurd (List.any_eq_true.2 ⟨j, List.mem_range.2 (by omega), e⟩) h1
      obtain ⟨r1, r2, r3⟩ := fitS_ok hc hw hiv (n := n) (al := al) (by omega) (by omega) hal2 l.length (Nat.le_refl _) hs
      obtain ⟨s1, s2, s3⟩ := stop_no (hs _ (Nat.le_refl _))
      refine ⟨by omega, by omega, r1, r2, by dsimp only; omega, fun x hx => ?_⟩
      obtain ⟨j, hj, rfl⟩ := List.mem_iff_getElem.1 hx
      have := r3 j hj
      rw [nth_eq hj] at this
      exact this
theorem fitV_0 {n al : Nat} {iv : Sp} {l : List Sp} (h : (fitV n al iv l).2 = false) : (fitV n al iv l).1 = 0 := by
  unfold fitV at h ⊢
  split
  · rfl
  · rename_i h0
    rw [if_neg h0] at h
    split
    · rfl
    · rename_i h1
      rw [if_neg h1] at h
      exact nomatch h
theorem fitV_least {n al a' : Nat} {iv : Sp} {l : List Sp} (hc : Canon l) (hw : ∀ x ∈ l, SpW x) (hiv : SpW iv) (h : FitC n al iv l a') : (fitV n al iv l).2 = true ∧ (fitV n al iv l).1 ≤ a' := by
  have hlt : a' < 18446744073709551616 := by have := h.n0; have := h.hi; have := hiv.2; omega
  have key : ∀ k, k ≤ l.length → (fitS n al iv l k).2 = true ∧ (fitS n al iv l k).1 ≤ a' := by
    intro k
    induction k with
    | zero => exact fun _ => upV_least h.al0 h.lo h.mul hlt
    | succ k ih =>
      intro hk
      obtain ⟨i1, i2⟩ := ih (by omega)
      have hm : nth l k ∈ l := nthN_mem (by omega)
      by_cases q : meetsB ((fitS n al iv l k).1, ((fitS n al iv l k).1 + n) % 18446744073709551616) (nth l k) = true
      · have e : fitS n al iv l (k + 1) = upV (nth l k).2 al := (fit_y rfl q).symm
        rw [e]
        have q := meets_iff.1 q
        have hmod : ((fitS n al iv l k).1 + n) % 18446744073709551616 = (fitS n al iv l k).1 + n := Nat.mod_eq_of_lt (by have := hiv.2; have := h.hi; omega)
        rw [hmod] at q
        dsimp only at q
        refine upV_least h.al0 ?_ h.mul hlt
        rcases h.free _ hm with f | f
        · exact f
        · omega
      · have q' : meetsB ((fitS n al iv l k).1, ((fitS n al iv l k).1 + n) % 18446744073709551616) (nth l k) = false := by simpa using q
        have e : fitS n al iv l (k + 1) = fitS n al iv l k := (fit_n rfl q').symm
        rw [e]; exact ⟨i1, i2⟩
  have hns : ∀ k, k < l.length + 1 → stopS n iv (fitS n al iv l k) = false := fun k hk => by
    obtain ⟨i1, i2⟩ := key k (by omega)
    have := h.hi; have := h.n0
    have e : fitS n al iv l k = ((fitS n al iv l k).1, (fitS n al iv l k).2) := rfl
    rw [e]
    exact stop_f i1 (by omega) (by omega)
  have h0 : ¬ (n = 0 ∨ al = 0) := by have := h.n0; have := h.al0; omega
  rw [fitV_t h0 hns]
  exact ⟨rfl, (key _ (Nat.le_refl _)).2⟩

end Go.Proofs.YtjgeheookgogaaaA


/-
  Walks of functions of the given program, and what they compute.
-/
namespace Go.Proofs.YtjgeheookgogaaaA
set_option linter.unusedVariables false
open Go Go.RowKit Go.Shelf Go.Proofs
section
variable {P : Program} {T : Nat → Value} {H : AHeap} {dst : Option Tmp} {ty : TypeId} {pos : String} {af : Array Edge} {g : Option (Nat × Bool)} {v : Value} {α : Type} [Inhabited α] {f : α → List Value} {m : Nat} {l : List α}
theorem q_indexArr_sls {t el : TypeId} {x y : Operand} {i j n oo len : Nat} {k : IntKind} (hu : P.underlying t = some (.array len el)) (hs : ∀ w, (sizeOf el).run P w = .ok n w) (h : SlS f m H v l) (hw : Wm f m) (hx : ev T x = .pointer (some ⟨sb v, oo, none⟩)) (hy : ev T y = .int k (j : Nat)) (hj : j < len) (hi : i < l.length) :
    OpQ P ⟨dst, .indexAddr t x y, ty, pos, af, g⟩ T H (.pointer (some ⟨sb v, oo + j * n, none⟩)) [] := by
  obtain ⟨b, o, c, vs, rfl, h2, h3, h4⟩ := h.at' hi hw
  exact q_indexArr hu hs hx hy hj h2
end
end Go.Proofs.YtjgeheookgogaaaA


/-
  Walks of functions of the given program, and what they compute.
-/
namespace Go.Proofs.YtjgeheookgogaaaA
set_option linter.unusedVariables false
open Go Go.RowKit Go.Shelf Go.Proofs
/-- How many are told till the stop. -/
def cntS (k : Nat) (stop : Int) : Nat := if 1 ≤ stop then min k stop.toNat else k
end Go.Proofs.YtjgeheookgogaaaA


/-
  Walks of functions of the given program, and what they compute.
-/
namespace Go.Proofs.YtjgeheookgogaaaA
set_option linter.unusedVariables false
open Go Go.RowKit Go.Shelf Go.Proofs
def isV (w : List Bool) (lo hi : Nat) (t : Bool) : Bool := (List.range (hi - lo)).all fun k => nth w (lo + k) == t
theorem isV_iff {w : List Bool} {lo hi : Nat} {t : Bool} : isV w lo hi t = true ↔ ∀ a, lo ≤ a → a < hi → nth w a = t := by
  unfold isV; rw [List.all_eq_true]
  constructor
  · intro h a h1 h2
    have := h (a - lo) (List.mem_range.2 (by omega))
    rw [show lo + (a - lo) = a by omega] at this
    exact eq_of_beq this
  · intro h k hk
    have := List.mem_range.1 hk
    exact beq_iff_eq.2 (h _ (by omega) (by omega))
theorem isV_f {w : List Bool} {lo hi i : Nat} {t : Bool} (h1 : lo ≤ i) (h2 : i < hi) (h : nth w i ≠ t) : isV w lo hi t = false := by
  cases e : isV w lo hi t with
  | false => rfl
  | true => exact absurd (isV_iff.1 e i h1 h2) h
def turnV (w : List Bool) (lo hi : Nat) : List Bool := (List.range w.length).map fun j => if lo ≤ j ∧ j < hi then !nth w j else nth w j
theorem turnV_len {w : List Bool} {lo hi : Nat} : (turnV w lo hi).length = w.length := by simp [turnV]
theorem turnV_nth {w : List Bool} {lo hi j : Nat} (h : j < w.length) : nth (turnV w lo hi) j = if lo ≤ j ∧ j < hi then !nth w j else nth w j := by
  rw [nth_eq (by rw [turnV_len]; exact h)]; simp [turnV]
theorem ext_nthB {l m : List Bool} (h : l.length = m.length) (h2 : ∀ i, i < l.length → nth l i = nth m i) : l = m := List.ext_getElem h fun i h3 h4 => by
  have := h2 i h3
  rwa [nth_eq h3, nth_eq h4] at this
theorem turnV_0 {w : List Bool} {lo : Nat} : turnV w lo lo = w := ext_nthB turnV_len fun i hi => by
  rw [turnV_len] at hi
  rw [turnV_nth hi, if_neg (by omega)]
theorem turnV_s {w : List Bool} {lo i : Nat} (h1 : lo ≤ i) (h2 : i < w.length) : (turnV w lo i).set i (!nth (turnV w lo i) i) = turnV w lo (i + 1) := by
  refine ext_nthB (by rw [List.length_set, turnV_len, turnV_len]) fun j hj => ?_
  rw [List.length_set, turnV_len] at hj
  rw [turnV_nth hj, turnV_nth h2, if_neg (by omega), nth_eq (by rw [List.length_set, turnV_len]; exact hj), List.getElem_set]
  by_cases e : i = j
  · subst e
    rw [if_pos rfl, if_pos (by omega)]
  · rw [if_neg e, ← nth_eq (by rw [turnV_len]; exact hj), turnV_nth hj]
    by_cases q : lo ≤ j ∧ j < i
    · rw [if_pos q, if_pos (by omega)]
    · rw [if_neg q, if_neg (by omega)]
theorem turnV_hi {w : List Bool} {lo hi i : Nat} (h : i = hi ∨ (i = lo ∧ hi ≤ lo)) : turnV w lo i = turnV w lo hi := by
  rcases h with rfl | ⟨rfl, h⟩
  · rfl
  · refine ext_nthB (by rw [turnV_len, turnV_len]) fun j hj => ?_
    rw [turnV_len] at hj
    rw [turnV_nth hj, turnV_nth hj, if_neg (by omega), if_neg (by omega)]
def spanStep (w : List Bool) (o : List Sp) (i : Nat) : List Sp := if nth w i = true then (if 0 < i ∧ nth w (i - 1) = true then o.set (o.length - 1) ((nth o (o.length - 1)).1, i + 1) else o ++ [(i, i + 1)]) else o
def spansK (w : List Bool) : Nat → List Sp
  | 0 => []
  | i + 1 => spanStep w (spansK w i) i
def spansV (w : List Bool) : List Sp := spansK w w.length
structure SpI (w : List Bool) (k : Nat) (o : List Sp) : Prop where
  canon : Canon o
  ins : ∀ a, inS o a ↔ a < k ∧ nth w a = true
  hi : ∀ x ∈ o, x.2 ≤ k
theorem SpI.last {w : List Bool} {k : Nat} {o : List Sp} (h : SpI w k o) : (0 < o.length ∧ (nth o (o.length - 1)).2 = k) ↔ (0 < k ∧ nth w (k - 1) = true) := by
  constructor
  · rintro ⟨h1, h2⟩
    have hm : nth o (o.length - 1) ∈ o := nthN_mem (by omega)
    have hl := h.canon.1 _ hm
    have hk : inS o (k - 1) := ⟨_, hm, by omega, by omega⟩
    exact ⟨by omega, ((h.ins _).1 hk).2⟩
  · rintro ⟨h1, h2⟩
    obtain ⟨x, hx, h3, h4⟩ := (h.ins (k - 1)).2 ⟨by omega, h2⟩
    have h5 := h.hi x hx
    have h0 : 0 < o.length := List.length_pos_of_mem hx
    have hm : nth o (o.length - 1) ∈ o := nthN_mem (by omega)
    have h6 := h.hi _ hm
    have h7 := h.canon.1 _ hm
    refine ⟨h0, ?_⟩
    obtain ⟨j, hj, rfl⟩ := List.mem_iff_getElem.1 hx
    by_cases e : j = o.length - 1
    · subst e
      rw [nth_eq (by omega)]; omega
    · have := List.pairwise_iff_getElem.1 h.canon.2 j (o.length - 1) hj (by omega) (by omega)
      rw [← nth_eq (show o.length - 1 < o.length by omega)] at this
      omega
theorem SpI.step {w : List Bool} {k : Nat} {o : List Sp} (h : SpI w k o) : SpI w (k + 1) (spanStep w o k) := by
  unfold spanStep
  by_cases e : nth w k = true
  · have e2 : (if 0 < k ∧ nth w (k - 1) = true then o.set (o.length - 1) ((nth o (o.length - 1)).1, k + 1) else o ++ [(k, k + 1)]) = joinStep o (k, k + 1) := by
      unfold joinStep
      by_cases q : 0 < k ∧ nth w (k - 1) = true
      · rw [if_pos q, if_pos (h.last.2 q)]
      · rw [if_neg q, if_neg (fun q2 => q (h.last.1 q2))]
    rw [if_pos e, e2]
    obtain ⟨s1, s2⟩ := js_step h.canon (x := (k, k + 1)) (by dsimp only; omega) (fun a ha => h.hi a ha)
    refine ⟨s1.canon, fun a => ?_, fun x hx => s2 x hx⟩
    rw [s1.ins, inS_app, inS_one, h.ins]
    dsimp only
    constructor
    · rintro (⟨h1, h2⟩ | ⟨h1, h2⟩)
      · exact ⟨by omega, h2⟩
      · obtain rfl : a = k := by omega
        exact ⟨by omega, e⟩
    · rintro ⟨h1, h2⟩
      by_cases q : a < k
      · exact .inl ⟨q, h2⟩
      · exact .inr ⟨by omega, by omega⟩
  · rw [if_neg e]
    refine ⟨h.canon, fun a => ?_, fun x hx => Nat.le_succ_of_le (h.hi x hx)⟩
    rw [h.ins]
    constructor
    · rintro ⟨h1, h2⟩; exact ⟨by omega, h2⟩
    · rintro ⟨h1, h2⟩
      refine ⟨?_, h2⟩
      rcases Nat.lt_or_ge a k with q | q
      · exact q
      · obtain rfl : a = k := by omega
        exact absurd h2 e
theorem spansK_ok (w : List Bool) : ∀ k, SpI w k (spansK w k)
  | 0 => ⟨canon_nil, fun a => ⟨fun h => (inS_nil h).elim, fun h => absurd h.1 (Nat.not_lt_zero _)⟩, fun _ h => nomatch h⟩
  | k + 1 => (spansK_ok w k).step
theorem spansK_len (w : List Bool) : ∀ k, (spansK w k).length ≤ k
  | 0 => Nat.le_refl _
  | k + 1 => by
    have := spansK_len w k
    show (spanStep w _ k).length ≤ _
    unfold spanStep
    split
    · split
      · rw [List.length_set]; omega
      · rw [List.length_append]; exact Nat.succ_le_succ this
    · omega
theorem spansK_n {w : List Bool} {k : Nat} (h : nth w k = false) : spansK w (k + 1) = spansK w k := by
  show spanStep w _ k = _
  unfold spanStep
  rw [if_neg (by rw [h]; exact fun h => nomatch h)]
theorem spansK_y {w : List Bool} {k : Nat} (h : nth w k = true) (h2 : 0 < k) (h3 : nth w (k - 1) = true) : spansK w (k + 1) = (spansK w k).set ((spansK w k).length - 1) ((nth (spansK w k) ((spansK w k).length - 1)).1, k + 1) := by
  show spanStep w _ k = _
  unfold spanStep
  rw [if_pos h, if_pos ⟨h2, h3⟩]
theorem spansK_p {w : List Bool} {k : Nat} (h : nth w k = true) (h2 : ¬ (0 < k ∧ nth w (k - 1) = true)) : spansK w (k + 1) = spansK w k ++ [(k, k + 1)] := by
  show spanStep w _ k = _
  unfold spanStep
  rw [if_pos h, if_neg h2]
theorem spansK_pos {w : List Bool} {k : Nat} (h2 : 0 < k) (h3 : nth w (k - 1) = true) : 0 < (spansK w k).length := ((spansK_ok w k).last.2 ⟨h2, h3⟩).1
theorem canon_uniq : ∀ {l m : List Sp}, Canon l → Canon m → (∀ a, inS l a ↔ inS m a) → l = m
  | [], [], _, _, _ => rfl
  | [], y :: m, _, hm, h => (inS_nil ((h y.1).2 ⟨y, List.mem_cons_self, Nat.le_refl _, hm.1 y List.mem_cons_self⟩)).elim
  | x :: l, [], hl, _, h => (inS_nil ((h x.1).1 ⟨x, List.mem_cons_self, Nat.le_refl _, hl.1 x List.mem_cons_self⟩)).elim
  | x :: l, y :: m, hl, hm, h => by
    have hx := hl.1 x List.mem_cons_self
    have hy := hm.1 y List.mem_cons_self
    obtain ⟨l1, l2⟩ := List.pairwise_cons.1 hl.2
    obtain ⟨m1, m2⟩ := List.pairwise_cons.1 hm.2
    have a1 : y.1 ≤ x.1 := by
      obtain ⟨z, hz, h1, h2⟩ := (h x.1).1 ⟨x, List.mem_cons_self, Nat.le_refl _, hx⟩
      rcases List.mem_cons.1 hz with rfl | hz
      · exact h1
      · have := m1 z hz; omega
    have a2 : x.1 ≤ y.1 := by
      obtain ⟨z, hz, h1, h2⟩ := (h y.1).2 ⟨y, List.mem_cons_self, Nat.le_refl _, hy⟩
      rcases List.mem_cons.1 hz with rfl | hz
      · exact h1
      · have := l1 z hz; omega
    have b1 : ¬ x.2 < y.2 := fun q => by
      obtain ⟨z, hz, h1, h2⟩ := (h x.2).2 ⟨y, List.mem_cons_self, by omega, q⟩
      rcases List.mem_cons.1 hz with rfl | hz
      · omega
      · have := l1 z hz; omega
    have b2 : ¬ y.2 < x.2 := fun q => by
      obtain ⟨z, hz, h1, h2⟩ := (h y.2).1 ⟨x, List.mem_cons_self, by omega, q⟩
      rcases List.mem_cons.1 hz with rfl | hz
      · omega
      · have := m1 z hz; omega
    obtain rfl : x = y := Prod.ext (by omega) (by omega)
    congr 1
    refine canon_uniq ⟨fun z hz => hl.1 z (List.mem_cons_of_mem _ hz), l2⟩ ⟨fun z hz => hm.1 z (List.mem_cons_of_mem _ hz), m2⟩ fun a => ⟨fun hq => ?_, fun hq => ?_⟩
    · obtain ⟨z, hz, h1, h2⟩ := hq
      obtain ⟨z', hz', h3, h4⟩ := (h a).1 ⟨z, List.mem_cons_of_mem _ hz, h1, h2⟩
      have := l1 z hz
      rcases List.mem_cons.1 hz' with rfl | hz'
      · omega
      · exact ⟨z', hz', h3, h4⟩
    · obtain ⟨z, hz, h1, h2⟩ := hq
      obtain ⟨z', hz', h3, h4⟩ := (h a).2 ⟨z, List.mem_cons_of_mem _ hz, h1, h2⟩
      have := m1 z hz
      rcases List.mem_cons.1 hz' with rfl | hz'
      · omega
      · exact ⟨z', hz', h3, h4⟩
/-- The cells say what the set holds. -/
structure Rep (w : List Bool) (L : List Sp) : Prop where
  len : w.length = 96
  hi : ∀ x ∈ L, x.2 ≤ 96
  is : ∀ a, a < 96 → (nth w a = true ↔ inS L a)
theorem Rep.lt {w : List Bool} {L : List Sp} (h : Rep w L) {a : Nat} (ha : inS L a) : a < 96 := by
  obtain ⟨x, hx, _, h2⟩ := ha
  have := h.hi x hx
  omega
theorem rep_spans {w : List Bool} {L : List Sp} (h : Rep w L) (hc : Canon L) : spansV w = L := by
  have hs := spansK_ok w w.length
  refine canon_uniq hs.canon hc fun a => ?_
  show inS (spansK w w.length) a ↔ _
  rw [hs.ins, h.len]
  exact ⟨fun ⟨h1, h2⟩ => (h.is a h1).1 h2, fun h1 => ⟨h.lt h1, (h.is a (h.lt h1)).2 h1⟩⟩
theorem bool_ext {a b : Bool} (h : a = true ↔ b = true) : a = b := by
  cases a <;> cases b <;> simp at h <;> rfl
theorem rep_cov {w : List Bool} {L : List Sp} (h : Rep w L) (hc : Canon L) {lo hi : Nat} (hh : hi ≤ 96) (hlt : lo < hi) : L.any (withinB (lo, hi)) = isV w lo hi true := by
  refine bool_ext ?_
  rw [isV_iff, List.any_eq_true]
  constructor
  · rintro ⟨y, hy, q⟩ a h1 h2
    have q := within_iff.1 q
    dsimp only at q
    exact (h.is a (by omega)).2 ⟨y, hy, by omega, by omega⟩
  · intro q
    obtain ⟨y, hy, h1, h2⟩ := (h.is lo (by omega)).1 (q lo (Nat.le_refl _) hlt)
    refine ⟨y, hy, within_iff.2 (.inr ⟨h1, ?_⟩)⟩
    dsimp only
    rcases Nat.lt_or_ge y.2 hi with q2 | q2
    · exfalso
      obtain ⟨z, hz, h3, h4⟩ := (h.is y.2 (by omega)).1 (q y.2 (by omega) q2)
      have := hc.1 y hy
      rcases canon_disj hc hy hz with rfl | e | e <;> omega
    · exact q2
theorem rep_meets {w : List Bool} {L : List Sp} (h : Rep w L) {lo hi : Nat} (hh : hi ≤ 96) : L.any (meetsB (lo, hi)) = !isV w lo hi false := by
  refine bool_ext ?_
  rw [any_meets]
  constructor
  · rintro ⟨a, ⟨h1, h2⟩, h3⟩
    have e : isV w lo hi false = false := isV_f h1 h2 (by rw [(h.is a (h.lt h3)).2 h3]; exact fun h => nomatch h)
    rw [e]; rfl
  · intro q
    have e : isV w lo hi false = false := by simpa using q
    have : ¬ ∀ a, lo ≤ a → a < hi → nth w a = false := fun q2 => by rw [isV_iff.2 q2] at e; exact nomatch e
    have ⟨a, ha⟩ := Classical.not_forall.1 this
    have ⟨h1, ha⟩ := Classical.not_imp.1 ha
    have ⟨h2, ha⟩ := Classical.not_imp.1 ha
    exact ⟨a, ⟨h1, h2⟩, (h.is a (by omega)).1 (by simpa using ha)⟩
theorem isV_emp {w : List Bool} {lo hi : Nat} {t : Bool} (h : hi ≤ lo) : isV w lo hi t = true := isV_iff.2 fun a h1 h2 => by omega
theorem rep_turn {w : List Bool} {L L' : List Sp} (h : Rep w L) {lo hi : Nat} (hh : hi ≤ 96) (hL : ∀ x ∈ L', x.2 ≤ 96) (hi' : ∀ a, a < 96 → (inS L' a ↔ ((lo ≤ a ∧ a < hi) ∧ ¬ inS L a) ∨ (¬ (lo ≤ a ∧ a < hi) ∧ inS L a))) : Rep (turnV w lo hi) L' := by
  refine ⟨turnV_len.trans h.len, hL, fun a ha => ?_⟩
  rw [turnV_nth (by rw [h.len]; exact ha), hi' a ha, ← h.is a ha]
  by_cases q : lo ≤ a ∧ a < hi
  · rw [if_pos q]; simp [q]
  · rw [if_neg q]; simp [q]
theorem canon_hi {L L' : List Sp} (hc : Canon L') (h : ∀ a, inS L' a → a < 96) : ∀ x ∈ L', x.2 ≤ 96 := fun x hx => by
  have := hc.1 x hx
  have := h (x.2 - 1) ⟨x, hx, by omega, by omega⟩
  omega
theorem rep_add {w : List Bool} {L L' : List Sp} (h : Rep w L) {lo hi : Nat} (hh : hi ≤ 96) (hv : AddV L (lo, hi) true L') (he : isV w lo hi false = true) : Rep (turnV w lo hi) L' := by
  have hins := hv.ins
  refine rep_turn h hh (canon_hi (L := L) hv.canon fun a ha => ?_) fun a ha => ?_
  · rcases (hins a).1 ha with q | ⟨_, _, q⟩
    · exact h.lt q
    · dsimp only at q; omega
  · rw [hins]
    constructor
    · rintro (q | ⟨_, q⟩)
      · refine .inr ⟨fun q2 => ?_, q⟩
        have := isV_iff.1 he a q2.1 q2.2
        rw [(h.is a ha).2 q] at this
        exact nomatch this
      · refine .inl ⟨q, fun q2 => ?_⟩
        have := isV_iff.1 he a q.1 q.2
        rw [(h.is a ha).2 q2] at this
        exact nomatch this
    · rintro (⟨q, _⟩ | ⟨_, q⟩)
      · exact .inr ⟨rfl, q⟩
      · exact .inl q
theorem rep_rem {w : List Bool} {L L' : List Sp} (h : Rep w L) {lo hi : Nat} (hh : hi ≤ 96) (hv : RemV L (lo, hi) true L') (he : isV w lo hi true = true) : Rep (turnV w lo hi) L' := by
  have hins := hv.ins
  refine rep_turn h hh (canon_hi (L := L) hv.canon fun a ha => h.lt ((hins a).1 ha).1) fun a ha => ?_
  rw [hins]
  constructor
  · rintro ⟨q, q2⟩
    exact .inr ⟨fun q3 => q2 ⟨rfl, q3⟩, q⟩
  · rintro (⟨q, q2⟩ | ⟨q, q2⟩)
    · exact absurd ((h.is a ha).1 (isV_iff.1 he a q.1 q.2)) q2
    · exact ⟨q2, fun q3 => q q3.2⟩
theorem rep_same {w : List Bool} {L L' : List Sp} (h : Rep w L) {x : Sp} (hv : AddV L x false L') : Rep w L' := by
  have hins : ∀ a, inS L' a ↔ inS L a := fun a => by rw [hv.ins]; exact ⟨fun h => h.elim id (fun h => nomatch h.1), .inl⟩
  exact ⟨h.len, canon_hi (L := L) hv.canon fun a ha => h.lt ((hins a).1 ha), fun a ha => (h.is a ha).trans (hins a).symm⟩
theorem rep_sameR {w : List Bool} {L L' : List Sp} (h : Rep w L) {x : Sp} (hv : RemV L x false L') : Rep w L' := by
  have hins : ∀ a, inS L' a ↔ inS L a := fun a => by rw [hv.ins]; exact ⟨fun h => h.1, fun h => ⟨h, (fun h => nomatch h.1)⟩⟩
  exact ⟨h.len, canon_hi (L := L) hv.canon fun a ha => h.lt ((hins a).1 ha), fun a ha => (h.is a ha).trans (hins a).symm⟩
theorem rep_len {w : List Bool} {L : List Sp} (h : Rep w L) (hc : Canon L) : L.length ≤ 96 := by
  rw [← rep_spans h hc]
  have := spansK_len w w.length
  rw [h.len] at this
  unfold spansV
  rw [h.len]; exact this
theorem rep_nil : Rep (List.replicate 96 false) [] := ⟨by decide, (fun _ h => nomatch h), fun a ha => ⟨(fun h => by rw [nth_eq (by rw [List.length_replicate]; exact ha), List.getElem_replicate] at h; (exact nomatch h)), (fun h => (inS_nil h).elim)⟩⟩
def goodV (w : List Bool) (n al hi a : Nat) : Bool := decide (0 < n ∧ 0 < al ∧ a % al = 0 ∧ n ≤ hi - a) && isV w a (a + n) false
def rfitV (w : List Bool) (n al lo hi : Nat) : Int := match (List.range hi).find? (fun a => decide (lo ≤ a) && goodV w n al hi a) with
  | some a => ((a : Nat) : Int)
  | none => -1
theorem rfit_yes {w : List Bool} {n al lo hi a : Nat} (h1 : lo ≤ a) (h2 : a < hi) (hg : goodV w n al hi a = true) (hn : ∀ j, lo ≤ j → j < a → goodV w n al hi j = false) : rfitV w n al lo hi = (a : Nat) := by
  have : (List.range hi).find? (fun a => decide (lo ≤ a) && goodV w n al hi a) = some a := by
    rw [List.find?_range_eq_some]
    refine ⟨by rw [hg, decide_eq_true h1]; rfl, List.mem_range.2 h2, fun j hj => ?_⟩
    by_cases q : lo ≤ j
    · rw [hn j q hj, Bool.and_false]; rfl
    · rw [decide_eq_false q]; rfl
  unfold rfitV
  rw [this]
theorem rfit_no {w : List Bool} {n al lo hi : Nat} (hn : ∀ j, lo ≤ j → j < hi → goodV w n al hi j = false) : rfitV w n al lo hi = -1 := by
  have : (List.range hi).find? (fun a => decide (lo ≤ a) && goodV w n al hi a) = none := by
    rw [List.find?_range_eq_none]
    intro j hj
    by_cases q : lo ≤ j
    · rw [hn j q hj, Bool.and_false]; rfl
    · rw [decide_eq_false q]; rfl
  unfold rfitV
  rw [this]
theorem good_iff {w : List Bool} {L : List Sp} (h : Rep w L) (hc : Canon L) {n al lo hi a : Nat} (hh : hi ≤ 96) (h1 : lo ≤ a) (h2 : a < hi) : goodV w n al hi a = true ↔ FitC n al (lo, hi) L a := by
  unfold goodV
  rw [Bool.and_eq_true, decide_eq_true_iff, isV_iff]
  constructor
  · rintro ⟨⟨g1, g2, g3, g4⟩, g5⟩
    refine ⟨g1, g2, g3, h1, by dsimp only; omega, fun x hx => ?_⟩
    have hx2 := hc.1 x hx
    have hx3 := h.hi x hx
    rcases Nat.lt_or_ge a x.2 with q | q
    · rcases Nat.lt_or_ge x.1 (a + n) with q2 | q2
      · exfalso
        have e1 := g5 (max a x.1) (by omega) (by omega)
        have e2 := (h.is (max a x.1) (by omega)).2 ⟨x, hx, by omega, by omega⟩
        rw [e1] at e2
        exact nomatch e2
      · exact .inr q2
    · exact .inl q
  · rintro ⟨g1, g2, g3, g4, g5, g6⟩
    dsimp only at g5
    refine ⟨⟨g1, g2, g3, by omega⟩, fun b hb1 hb2 => ?_⟩
    cases e : nth w b with
    | false => rfl
    | true =>
      exfalso
      obtain ⟨x, hx, e1, e2⟩ := (h.is b (by omega)).1 e
      rcases g6 x hx with q | q <;> omega
theorem rep_fit {w : List Bool} {L : List Sp} (h : Rep w L) (hc : Canon L) (hw : ∀ x ∈ L, SpW x) {n al lo hi : Nat} (hh : hi ≤ 96) (hlo : lo ≤ 96) (hal : al < 18446744073709551616) :
    (fitV n al (lo, hi) L).2 = decide (0 ≤ rfitV w n al lo hi) ∧ (if (0 : Int) > rfitV w n al lo hi then 0 else rfitV w n al lo hi) = (((fitV n al (lo, hi) L).1 : Nat) : Int) ∧ (fitV n al (lo, hi) L).1 ≤ 96 := by
  have hiv : SpW (lo, hi) := ⟨by dsimp only; omega, by dsimp only; omega⟩
  cases e : (fitV n al (lo, hi) L).2 with
  | true =>
    have hF := fitV_ok hc hw hiv hal e
    have q1 := hF.lo
    have q2 := hF.hi
    have q3 := hF.n0
    dsimp only at q1 q2
    have r := rfit_yes (w := w) (n := n) (al := al) (lo := lo) (hi := hi) q1 (by omega) ((good_iff h hc hh q1 (by omega)).2 hF) (fun j hj hlt => by
      cases e2 : goodV w n al hi j with
      | false => rfl
      | true => have := (fitV_least hc hw hiv ((good_iff h hc hh hj (by omega)).1 e2)).2; omega)
    rw [r]
    exact ⟨(decide_eq_true (by omega)).symm, by rw [if_neg (by omega)], by omega⟩
  | false =>
    have r := rfit_no (w := w) (n := n) (al := al) (lo := lo) (hi := hi) (fun j hj hlt => by
      cases e2 : goodV w n al hi j with
      | false => rfl
      | true => have := (fitV_least hc hw hiv ((good_iff h hc hh hj hlt).1 e2)).1; rw [e] at this; exact nomatch this)
    rw [r, fitV_0 e]
    exact ⟨rfl, rfl, by decide⟩

end Go.Proofs.YtjgeheookgogaaaA

