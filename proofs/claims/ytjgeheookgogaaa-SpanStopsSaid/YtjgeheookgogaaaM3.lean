/-
  Walks over abstract states: texts of one claim, merged.
-/
import Derived.Test.YtjgeheookgogaaaM2
import Derived.Test.YtjgeheookgogaaaProg
import Derived.KernelRfl
import Derived.ChangeSlices
import Derived.SliceStrings
import Derived.WideShapes
import Derived.SizedLaws
import Derived.OpenShut
import Derived.Deep.Slices
/-
  Walks of functions of the given program, and what they compute.
-/
namespace Go.Proofs.YtjgeheookgogaaaA
set_option linter.unusedVariables false
open Go Go.RowKit Go.Shelf Go.Proofs
theorem St.turn2 {H0 : AHeap} {X : Nat → Prop} {Z : Rs} {H H' : AHeap} {F : List (Nat × AObj)} (h : St H0 X Z H F) {j9 jl b9 bl bn : Nat} {o9 ol o9' on : AObj} (h9 : F[j9]? = some (b9, o9)) (hl : F[jl]? = some (bl, ol)) (hij : j9 ≠ jl) (k : Kp (· ∈ [b9, bl]) H H') (hb : H.length ≤ bn ∨ bn ∈ [b9, bl]) (hne : bn ≠ b9) (h9' : H'[b9]? = some o9') (hn : H'[bn]? = some on) : St H0 X Z H' ((F.set j9 (b9, o9')).set jl (bn, on)) := by
  have m9 : b9 ∈ F.map (·.1) := List.mem_map.2 ⟨_, List.mem_of_getElem? h9, rfl⟩
  have ml : bl ∈ F.map (·.1) := List.mem_map.2 ⟨_, List.mem_of_getElem? hl, rfl⟩
  have hjl := (List.getElem?_eq_some_iff.1 hl).1
  refine h.turn k _ ?_ (fun p hp => ?_) (fun b hb => ?_)
  · have e1 : ((F.set j9 (b9, o9')).set jl (bn, on)).map (·.1) = (F.map (·.1)).set jl bn := by rw [List.map_set, keys_set h9]
    rw [e1]
    refine nodup_of_inj fun i j x hi hj => ?_
    rw [List.getElem?_set] at hi hj
    have nb : ∀ q, q ≠ jl → (F.map (·.1))[q]? ≠ some bn := fun q hq e => by
      rw [List.getElem?_map] at e
      obtain ⟨y, hy, hy2⟩ := Option.map_eq_some_iff.1 e
      rcases hb with hb | hb
      · have := lt_of_some (h.getj (b := y.1) (o := y.2) hy)
        omega
      · rcases List.mem_cons.1 hb with hb | hb
        · exact hne hb
        · have hb : bn = bl := by simpa using hb
          exact h.ne hy hl hq (hy2.trans hb)
    by_cases ei : jl = i
    · by_cases ej : jl = j
      · omega
      · rw [if_pos ei, if_pos (by simpa using hjl)] at hi
        rw [if_neg ej] at hj
        cases hi
        exact absurd hj (nb j (Ne.symm ej))
    · rw [if_neg ei] at hi
      by_cases ej : jl = j
      · rw [if_pos ej, if_pos (by simpa using hjl)] at hj
        cases hj
        exact absurd hi (nb i (Ne.symm ei))
      · rw [if_neg ej] at hj
        exact nodup_inj h.nd hi hj
  · rcases mem_set_cases hp with rfl | ⟨i, hi, hp⟩
    · refine .inr ⟨hn, hb.imp id fun hb => ?_⟩
      rcases List.mem_cons.1 hb with hb | hb
      · exact absurd hb hne
      · have hb : bn = bl := by simpa using hb
        show bn ∈ _
        rw [hb]; exact ml
    · rw [List.getElem?_set] at hp
      by_cases e : j9 = i
      · rw [if_pos e, if_pos (List.getElem?_eq_some_iff.1 h9).1] at hp
        cases hp
        exact .inr ⟨h9', .inr m9⟩
      · rw [if_neg e] at hp
        refine .inl ⟨List.mem_of_getElem? hp, fun hm => ?_⟩
        rcases List.mem_cons.1 hm with hm | hm
        · exact h.ne hp h9 (Ne.symm e) hm
        · have hm : p.1 = bl := by simpa using hm
          exact h.ne hp hl hi hm
  · rcases List.mem_cons.1 hb with rfl | hb
    · exact m9
    · have hb : b = bl := by simpa using hb
      rw [hb]; exact ml
theorem js_y' {o : List Sp} {x : Sp} {m : Nat} (hm : m = o.length) (h : 0 < m) (h2 : (nth o (m - 1)).2 = x.1) : joinStep o x = o.set (m - 1) ((nth o (m - 1)).1, x.2) := by subst hm; exact js_y h h2
theorem js_n' {o : List Sp} {x : Sp} {m : Nat} (hm : m = o.length) (h : ¬ (0 < m ∧ (nth o (m - 1)).2 = x.1)) : joinStep o x = o ++ [x] := by subst hm; exact js_n h
def SortedLo (l : List Sp) : Prop := ∀ i j, i < j → j < l.length → (nth l i).1 ≤ (nth l j).1
def AddR (l : List Sp) (x : Sp) (ok : Bool) (L : List Sp) : Prop := (ok = false ∧ (x.2 ≤ x.1 ∨ l.any (meetsB x) = true) ∧ L = l) ∨ (ok = true ∧ x.1 < x.2 ∧ l.any (meetsB x) = false ∧ ∃ l' : List Sp, l'.Perm (l ++ [x]) ∧ SortedLo l' ∧ L = joinS l')
set_option maxRecDepth 100000 in
set_option maxHeartbeats 4000000 in
theorem setSort_ok {H0 : AHeap} (bs bl : Nat) (l : List Sp) (hl : l.length ≤ 1000) (hnd : [bs, bl].Nodup) (h1 : H0[bs]? = some (.cells true [.slice (some ⟨bl, 0, none⟩) l.length l.length] 1)) (h2 : H0[bl]? = some (.cells true (fl spc l) 2)) (hn0 : 0 < l.length) : ACalls Try.prog 28 [.pointer (some ⟨bs, 0, none⟩)] H0 (fun v H' => ∃ (l' : List Sp) (bn : Nat), v = .tuple #[] ∧ l'.Perm l ∧ SortedLo l' ∧ Kp (· ∈ [bs, bl]) H0 H' ∧ (H0.length ≤ bn ∨ bn ∈ [bs, bl]) ∧ bn ≠ bs ∧ H'[bs]? = some (.cells true [.slice (some ⟨bn, 0, none⟩) (joinS l').length (joinS l').length] 1) ∧ H'[bn]? = some (.cells true (fl spc (joinS l')) 2)) := by
  have hF : Wd Fence.wide := .inl rfl
  have hM : Try.prog.follows .mixedOrders = true := by kernel_rfl
  have s0 : St H0 (· ∈ [bs, bl]) (Off H0 [bs, bl]) H0 [(bs, .cells true [.slice (some ⟨bl, 0, none⟩) l.length l.length] 1), (bl, .cells true (fl spc l) 2)] := St.beginL [(bs, .cells true [.slice (some ⟨bl, 0, none⟩) l.length l.length] 1), (bl, .cells true (fl spc l) 2)] hnd (allAt_mem ⟨h1, h2, trivial⟩)
  refine acalls_st Try.func28 rfl Try.ntmps28 rfl ?_
  refine awp_seq ?_
  refine awp_regs hF ?_
  refine dv (gyes_none rfl) (q_mv (v := .pointer (some ⟨bs, 0, none⟩)) rfl) rfl (by decide) (cok1 trivial) ?_
  refine dv (gyes_none rfl) (q_nilCheck rfl (s0.live (j := 0) rfl)) rfl (by decide) (cok1 trivial) ?_
  refine dv (gyes_none rfl) (q_field Try.underlying26 rfl Try.sizeOf24 rfl (s0.rd (j := 0) rfl)) rfl (by decide) (cok1 trivial) ?_
  refine dv (gyes_none rfl) (q_load (v := .slice (some ⟨bl, 0, none⟩) l.length l.length) Try.isAgg24 rfl (s0.rd (j := 0) rfl) rfl) rfl (by decide) (cok1 trivial) ?_
  refine x_call [] hF (by kernel_rfl) (gyes_none rfl) Try.call34 rfl (args := [.slice (some ⟨bl, 0, none⟩) l.length l.length, .func (.func 35) #[] #[]]) rfl (sort_ok (l := l) (s0.getj (j := 1) rfl) rfl hn0 (by omega)) (show _ < _ by decide) (call_ok rfl) rfl rfl (fun _ _ _ _ hd => by cases hd) ?_
  rintro _ _ ⟨rfl, l', hperm, hsort, rfl⟩
  have s1 := s0.setAt (j := 1) rfl (.cells true (fl spc l') 2)
  have hlen := hperm.length_eq
  refine ⟨trivial, ?_⟩
  show dList _ _ _ _ _ _ _ _ _ _
  refine ⟨_, Wk.refl _ _, ?_⟩
  show awp _ _ _ _ _ _ _
  refine awp_seq ?_
  refine awp_regs hF ?_
  refine dv (gyes_none rfl) (q_as (v := .slice none 0 0) rfl) rfl (by decide) (cok1 (cconst rfl)) ?_
  refine ⟨_, Wk.refl _ _, ?_⟩
  show awp _ _ _ _ _ _ _
  refine awp_seq ?_
  refine awp_seq ?_
  refine awp_regs hF ?_
  refine dv (gyes_none rfl) (q_mv (v := .pointer (some ⟨bs, 0, none⟩)) rfl) rfl (by decide) (cok1 trivial) ?_
  refine dv (gyes_none rfl) (q_nilCheck rfl (s1.live (j := 0) rfl)) rfl (by decide) (cok1 trivial) ?_
  refine dv (gyes_none rfl) (q_field Try.underlying26 rfl Try.sizeOf24 rfl (s1.rd (j := 0) rfl)) rfl (by decide) (cok1 trivial) ?_
  refine dv (gyes_none rfl) (q_load (v := .slice (some ⟨bl, 0, none⟩) l.length l.length) Try.isAgg24 rfl (s1.rd (j := 0) rfl) rfl) rfl (by decide) (cok1 trivial) ?_
  refine dv (gyes_none rfl) (q_len_slice Try.underlying24 rfl (s1.rd (j := 1) rfl)) rfl (by decide) (cok1 trivial) ?_
  refine dv (gyes_none rfl) (q_mv (v := .int .i64 0) rfl) rfl (by decide) (cok1 (cconst rfl)) ?_
  refine ⟨_, Wk.refl _ _, ?_⟩
  show awp _ _ _ _ _ _ _
  refine awp_block ?_
  refine awp_nil s1 2 2 rfl (fun b2 H3 hb5 s4 => ?_)
  refine awp_wk (Wk.U [(0, .pointer (some ⟨bs, 0, none⟩)), (2, .slice (some ⟨b2, 0, none⟩) 0 0), (14, .slice (some ⟨bl, 0, none⟩) l.length l.length), (15, .int .i64 ((l.length : Nat) : Int)), (16, .int .i64 0)] ⟨rfl, rfl, rfl, rfl, rfl, trivial⟩) ?_
  refine awp_loop (fun ((i, m, o) : Nat × Nat × (List Sp)) st => ∃ (H6 : AHeap) (bo : Nat), st = ⟨51, U [(0, .pointer (some ⟨bs, 0, none⟩)), (2, .slice (some ⟨bo, 0, none⟩) m m), (14, .slice (some ⟨bl, 0, none⟩) l.length l.length), (15, .int .i64 ((l.length : Nat) : Int)), (16, .int .i64 ((i : Nat) : Int))], [], H6⟩ ∧ St H0 ((· ∈ [bs, bl])) (Off H0 [bs, bl]) H6 [(bo, .cells true (fl spc o) 2), (bs, .cells true [.slice (some ⟨bl, 0, none⟩) l.length l.length] 1), (bl, .cells true (fl spc l') 2)] ∧ (o = (l'.take i).foldl joinStep [] ∧ m = o.length ∧ i ≤ l.length ∧ m ≤ i)) (fun ((i, m, o) : Nat × Nat × (List Sp)) => l.length - i) (x0 := (0, 0, ([] : List Sp))) ?h0 ?round
  case h0 =>
    exact ⟨_, _, rfl, s4, ⟨rfl, rfl, Nat.zero_le _, Nat.zero_le _⟩⟩
  case round =>
    rintro ⟨i, m, o⟩ _ ⟨H6, bo, rfl, s7, ho⟩
    dsimp only at *
    refine awp_seq ?_
    refine awp_regs hF ?_
    refine dvb (gyes_none rfl) (q_int rfl rfl rfl) rfl (by decide) (cok2 trivial trivial) (fun c1 => ?_) (fun c1 => ?_)
    ·
      replace c1 := of_decide_eq_true c1
      refine ⟨_, Wk.refl _ _, ?_⟩
      show awp _ _ _ _ _ _ _
      refine awp_seq ?_
      refine awp_cond_t rfl ?_
      refine awp_skip_wk ?_
      refine ⟨_, Wk.refl _ _, ?_⟩
      show awp _ _ _ _ _ _ _
      refine awp_seq ?_
      refine awp_block ?_
      refine awp_seq ?_
      refine awp_regs hF ?_
      refine dv (gyes_none rfl) (OpQ.cast (v' := .pointer (some ⟨bl, i * 2, none⟩)) (q_index (u := 0) (i := i) Try.underlying24 Try.sizeOf30 rfl rfl (by omega) (s7.rd (j := 2) rfl)) (by rw [Nat.zero_add])) rfl (by decide) (cok2 trivial trivial) ?_
      refine dv (gyes_none rfl) (q_loadAgg (us := spc (nth l' i)) Try.isAgg30 Try.sizeOf30 rfl (s7.rd (j := 2) rfl) (fl_room spc_w (by omega)) (fl_at spc_w (by omega))) rfl (by decide) (cok1 trivial) ?_
      refine x_new (fun b => .pointer (some ⟨b, 0, none⟩)) s7 (gyes_none rfl) (q_alloc (vs := [.int .u64 0, .int .u64 0]) 2 Try.zeroValue30 (by first | exact flat_scalar rfl | exact flat_agg rfl) rfl) rfl (by decide) (by simp [Op.operands, Call.operands]) (fun b8 H9 hb11 s10 => ?_)
      refine x_store [] hF s10 (by kernel_rfl) (gyes_none rfl) (j := 0) (v := .agg #[.int .u64 (((nth l' i).1 : Nat) : Int), .int .u64 (((nth l' i).2 : Nat) : Int)]) rfl Try.sizeOf30 rfl rfl rfl rfl rfl trivial (lcsA ⟨(lc_scalar rfl), (lc_scalar rfl), trivial⟩) (Nat.le_of_ble_eq_true rfl) trivial trivial rfl rfl (F' := [(b8, .cells true [.int .u64 (((nth l' i).1 : Nat) : Int), .int .u64 (((nth l' i).2 : Nat) : Int)] 2), (bo, .cells true (fl spc o) 2), (bs, .cells true [.slice (some ⟨bl, 0, none⟩) l.length l.length] 1), (bl, .cells true (fl spc l') 2)]) rfl (fun H12 s13 => ⟨?_, ?_⟩)
      · exact trivial
      refine ⟨_, Wk.refl _ _, ?_⟩
      show awp _ _ _ _ _ _ _
      refine awp_seq ?_
      refine awp_seq ?_
      refine awp_regs hF ?_
      refine dv (gyes_none rfl) (q_mv (v := .slice (some ⟨bo, 0, none⟩) m m) rfl) rfl (by decide) (cok1 trivial) ?_
      refine dv (gyes_none rfl) (q_len_slice Try.underlying24 rfl (s13.rd (j := 1) rfl)) rfl (by decide) (cok1 trivial) ?_
      refine dv (gyes_none rfl) (q_as (v := .int .i64 ((m : Nat) : Int)) rfl) rfl (by decide) (cok1 trivial) ?_
      refine ⟨_, Wk.refl _ _, ?_⟩
      show awp _ _ _ _ _ _ _
      refine awp_seq ?_
      refine awp_regt hF hM (by kernel_rfl) (by kernel_rfl) ?_
      refine dv (gyes_none rfl) (q_mv (v := .int .i64 ((m : Nat) : Int)) rfl) rfl (by decide) (cok1 trivial) ?_
      refine dvb (gyes_none rfl) (q_int rfl rfl rfl) rfl (by decide) (cok2 trivial (cconst rfl)) (fun c2 => ?_) (fun c2 => ?_)
      ·
        replace c2 := of_decide_eq_true c2
        refine dv (gyes_none rfl) (q_mv (v := .bool true) rfl) rfl (by decide) (cok1 trivial) ?_
        refine dv (gyes_some rfl rfl) (q_mv (v := .slice (some ⟨bo, 0, none⟩) m m) rfl) rfl (by decide) (cok1 trivial) ?_
        refine dv (gyes_some rfl rfl) (q_mv (v := .int .i64 ((m : Nat) : Int)) rfl) rfl (by decide) (cok1 trivial) ?_
        refine dv (gyes_some rfl rfl) (OpQ.cast (v' := .int .i64 ((m - 1 : Nat) : Int)) (q_int rfl rfl rfl) (congrArg _ ((i64_in (by omega)).trans (by omega)))) rfl (by decide) (cok2 trivial (cconst rfl)) ?_
        refine dv (gyes_some rfl rfl) (OpQ.cast (v' := .pointer (some ⟨bo, (m - 1) * 2, none⟩)) (q_index (u := 0) (i := (m - 1)) Try.underlying24 Try.sizeOf30 rfl rfl (by omega) (s13.rd (j := 1) rfl)) (by rw [Nat.zero_add])) rfl (by decide) (cok2 trivial trivial) ?_
        refine dv (gyes_some rfl rfl) (q_field Try.underlying30 rfl Try.sizeOf27 rfl (s13.rd (j := 1) rfl)) rfl (by decide) (cok1 trivial) ?_
        refine dv (gyes_some rfl rfl) (q_load (v := .int .u64 (((nth o (m - 1)).2 : Nat) : Int)) Try.isAgg27 rfl (s13.rd (j := 1) rfl) ((fl_get spc_w (by omega) (by decide)).trans rfl)) rfl (by decide) (cok1 trivial) ?_
        refine dv (gyes_some rfl rfl) (q_field Try.underlying30 rfl Try.sizeOf27 rfl (s13.rd (j := 0) rfl)) rfl (by decide) (cok1 trivial) ?_
        refine dv (gyes_some rfl rfl) (q_load (v := .int .u64 (((nth l' i).1 : Nat) : Int)) Try.isAgg27 rfl (s13.rd (j := 0) rfl) rfl) rfl (by decide) (cok1 trivial) ?_
        refine dvb (gyes_some rfl rfl) (q_int rfl rfl rfl) rfl (by decide) (cok2 trivial trivial) (fun c3 => ?_) (fun c3 => ?_)
        ·
          replace c3 := eq_of_beq c3
          refine dv (gyes_none rfl) (q_pt (v := .bool true) rfl rfl) rfl (by decide) (call_ok rfl) ?_
          refine ⟨_, Wk.refl _ _, ?_⟩
          show awp _ _ _ _ _ _ _
          refine awp_cond_t rfl ?_
          refine awp_seq ?_
          refine awp_regs hF ?_
          refine dv (gyes_none rfl) (q_mv (v := .slice (some ⟨bo, 0, none⟩) m m) rfl) rfl (by decide) (cok1 trivial) ?_
          refine dv (gyes_none rfl) (q_mv (v := .int .i64 ((m : Nat) : Int)) rfl) rfl (by decide) (cok1 trivial) ?_
          refine dv (gyes_none rfl) (OpQ.cast (v' := .int .i64 ((m - 1 : Nat) : Int)) (q_int rfl rfl rfl) (congrArg _ ((i64_in (by omega)).trans (by omega)))) rfl (by decide) (cok2 trivial (cconst rfl)) ?_
          refine dv (gyes_none rfl) (q_field Try.underlying30 rfl Try.sizeOf27 rfl (s13.rd (j := 0) rfl)) rfl (by decide) (cok1 trivial) ?_
          refine dv (gyes_none rfl) (q_load (v := .int .u64 (((nth l' i).2 : Nat) : Int)) Try.isAgg27 rfl (s13.rd (j := 0) rfl) rfl) rfl (by decide) (cok1 trivial) ?_
          refine dv (gyes_none rfl) (OpQ.cast (v' := .pointer (some ⟨bo, (m - 1) * 2, none⟩)) (q_index (u := 0) (i := (m - 1)) Try.underlying24 Try.sizeOf30 rfl rfl (by omega) (s13.rd (j := 1) rfl)) (by rw [Nat.zero_add])) rfl (by decide) (cok2 trivial trivial) ?_
          refine dv (gyes_none rfl) (q_field Try.underlying30 rfl Try.sizeOf27 rfl (s13.rd (j := 1) rfl)) rfl (by decide) (cok1 trivial) ?_
          refine x_store1 [] hF s13 (by kernel_rfl) (gyes_none rfl) (j := 1) (v := .int .u64 (((nth l' i).2 : Nat) : Int)) rfl Try.sizeOf27 rfl rfl rfl (lc_scalar rfl) (fl_lt spc_w (by omega) (by decide)) trivial trivial rfl rfl (F' := [(b8, .cells true [.int .u64 (((nth l' i).1 : Nat) : Int), .int .u64 (((nth l' i).2 : Nat) : Int)] 2), (bo, .cells true (fl spc (o.set (m - 1) ((nth o (m - 1)).1, (nth l' i).2))) 2), (bs, .cells true [.slice (some ⟨bl, 0, none⟩) l.length l.length] 1), (bl, .cells true (fl spc l') 2)]) (by rw [fl_set1 spc_w (by omega) (y := ((nth o (m - 1)).1, (nth l' i).2)) (by decide) rfl]; rfl) (fun H14 s15 => ⟨?_, ?_⟩)
          · exact trivial
          refine ⟨_, Wk.refl _ _, ?_⟩
          show awp _ _ _ _ _ _ _
          refine awp_exit_wk ?_
          refine ⟨_, Wk.refl _ _, ?_⟩
          show awp _ _ _ _ _ _ _
          refine awp_regs hF ?_
          refine dv (gyes_none rfl) (OpQ.cast (v' := .int .i64 ((i + 1 : Nat) : Int)) (q_int rfl rfl rfl) (congrArg _ ((i64_in (by omega)).trans (by first | rfl | omega | (push_cast; rfl))))) rfl (by decide) (cok2 trivial (cconst rfl)) ?_
          refine dv (gyes_none rfl) (q_mv (v := .int .i64 ((i + 1 : Nat) : Int)) rfl) rfl (by decide) (cok1 trivial) ?_
          refine ⟨_, Wk.U [(0, .pointer (some ⟨bs, 0, none⟩)), (2, .slice (some ⟨bo, 0, none⟩) m m), (14, .slice (some ⟨bl, 0, none⟩) l.length l.length), (15, .int .i64 ((l.length : Nat) : Int)), (16, .int .i64 (((i + 1) : Nat) : Int))] ⟨rfl, rfl, rfl, rfl, rfl, trivial⟩, ((i + 1), m, (o.set (m - 1) ((nth o (m - 1)).1, (nth l' i).2))), ⟨_, _, rfl, (s15.sub (.cons _ (.cons_cons _ (.cons_cons _ (.cons_cons _ (.refl _)))))), ⟨by rw [join_succ (by omega), ← ho.1]; exact (js_y' ho.2.1 (by omega) (by omega)).symm, by dsimp only; rw [List.length_set]; exact ho.2.1, by dsimp only; omega, by dsimp only; omega⟩⟩, (by omega)⟩
        ·
          replace c3 := ne_of_beq_false c3
          refine dv (gyes_none rfl) (q_pt (v := .bool false) rfl rfl) rfl (by decide) (call_ok rfl) ?_
          refine ⟨_, Wk.refl _ _, ?_⟩
          show awp _ _ _ _ _ _ _
          refine awp_cond_f rfl ?_
          refine awp_skip_wk ?_
          refine ⟨_, Wk.refl _ _, ?_⟩
          show awp _ _ _ _ _ _ _
          refine awp_regs hF ?_
          refine dv (gyes_none rfl) (q_mv (v := .slice (some ⟨bo, 0, none⟩) m m) rfl) rfl (by decide) (cok1 trivial) ?_
          refine dv (gyes_none rfl) (q_loadAgg Try.isAgg30 Try.sizeOf30 rfl (s13.rd (j := 0) rfl) (Nat.le_of_ble_eq_true rfl) rfl) rfl (by decide) (cok1 trivial) ?_
          refine x_new (fun b => .slice (some ⟨b, 0, none⟩) 1 1) s13 (gyes_none rfl) (q_buildSliceL (ds := [.int .u64 (((nth l' i).1 : Nat) : Int), .int .u64 (((nth l' i).2 : Nat) : Int)]) [.agg #[.int .u64 (((nth l' i).1 : Nat) : Int), .int .u64 (((nth l' i).2 : Nat) : Int)]] rfl Try.underlying24 Try.sizeOf30 Try.zeroValue30 rfl (by decide) (by decide) ⟨rfl, trivial⟩ (lvsC (by exact trivial) lvs0) rfl rfl) rfl (by decide) (cok1 trivial) (fun b16 H17 hb19 s18 => ?_)
          refine x_appendS (m := 2) (l := [((nth l' i).1, (nth l' i).2)]) (l0 := o) (l' := o ++ [nth l' i]) (f := spc) [] hF s18 (by kernel_rfl) (j := 2) (m + 1) rfl (gyes_none rfl) Try.underlying24 Try.underlying24 Try.type30 rfl rfl (by decide) rfl spc_w rfl rfl rfl (s18.slsj (l := [((nth l' i).1, (nth l' i).2)]) spc_w (j := 0) rfl rfl (Nat.le_refl _)) (fun x _ u hu => lc_scalar (spc_sc x u hu)) ho.2.1 (by show (2 * (m + 1) + 1000) * 16 ≤ _; omega) trivial trivial (by decide) rfl rfl rfl (fun b20 H21 hb23 s22 => ⟨?_, ?_⟩)
          · exact trivial
          refine dv (gyes_none rfl) (q_as (v := .slice (some ⟨b20, 0, none⟩) (m + 1) (m + 1)) rfl) rfl (by decide) (cok1 trivial) ?_
          refine ⟨_, Wk.refl _ _, ?_⟩
          show awp _ _ _ _ _ _ _
          refine awp_regs hF ?_
          refine dv (gyes_none rfl) (OpQ.cast (v' := .int .i64 ((i + 1 : Nat) : Int)) (q_int rfl rfl rfl) (congrArg _ ((i64_in (by omega)).trans (by first | rfl | omega | (push_cast; rfl))))) rfl (by decide) (cok2 trivial (cconst rfl)) ?_
          refine dv (gyes_none rfl) (q_mv (v := .int .i64 ((i + 1 : Nat) : Int)) rfl) rfl (by decide) (cok1 trivial) ?_
          refine ⟨_, Wk.U [(0, .pointer (some ⟨bs, 0, none⟩)), (2, .slice (some ⟨b20, 0, none⟩) (m + 1) (m + 1)), (14, .slice (some ⟨bl, 0, none⟩) l.length l.length), (15, .int .i64 ((l.length : Nat) : Int)), (16, .int .i64 (((i + 1) : Nat) : Int))] ⟨rfl, rfl, rfl, rfl, rfl, trivial⟩, ((i + 1), (m + 1), (o ++ [nth l' i])), ⟨_, _, rfl, (s22.sub (.cons _ (.cons _ (.cons_cons _ (.cons_cons _ (.cons_cons _ (.refl _))))))), ⟨by rw [join_succ (by omega), ← ho.1]; exact (js_n' ho.2.1 (by omega)).symm, by dsimp only; rw [List.length_append, ho.2.1]; rfl, by dsimp only; omega, by dsimp only; omega⟩⟩, (by omega)⟩
      ·
        replace c2 := of_decide_eq_false c2
        refine dv (gyes_none rfl) (q_mv (v := .bool false) rfl) rfl (by decide) (cok1 trivial) ?_
        refine dno rfl (.inl rfl) rfl (by decide) ?_
        refine dno rfl (.inl rfl) rfl (by decide) ?_
        refine dno rfl (.inl rfl) rfl (by decide) ?_
        refine dno rfl (.inl rfl) rfl (by decide) ?_
        refine dno rfl (.inl rfl) rfl (by decide) ?_
        refine dno rfl (.inl rfl) rfl (by decide) ?_
        refine dno rfl (.inl rfl) rfl (by decide) ?_
        refine dno rfl (.inl rfl) rfl (by decide) ?_
        refine dno rfl (.inl rfl) rfl (by decide) ?_
        refine dv (gyes_none rfl) (q_pf (v := .bool false) rfl rfl) rfl (by decide) (call_ok rfl) ?_
        refine ⟨_, Wk.refl _ _, ?_⟩
        show awp _ _ _ _ _ _ _
        refine awp_cond_f rfl ?_
        refine awp_skip_wk ?_
        refine ⟨_, Wk.refl _ _, ?_⟩
        show awp _ _ _ _ _ _ _
        refine awp_regs hF ?_
        refine dv (gyes_none rfl) (q_mv (v := .slice (some ⟨bo, 0, none⟩) m m) rfl) rfl (by decide) (cok1 trivial) ?_
        refine dv (gyes_none rfl) (q_loadAgg Try.isAgg30 Try.sizeOf30 rfl (s13.rd (j := 0) rfl) (Nat.le_of_ble_eq_true rfl) rfl) rfl (by decide) (cok1 trivial) ?_
        refine x_new (fun b => .slice (some ⟨b, 0, none⟩) 1 1) s13 (gyes_none rfl) (q_buildSliceL (ds := [.int .u64 (((nth l' i).1 : Nat) : Int), .int .u64 (((nth l' i).2 : Nat) : Int)]) [.agg #[.int .u64 (((nth l' i).1 : Nat) : Int), .int .u64 (((nth l' i).2 : Nat) : Int)]] rfl Try.underlying24 Try.sizeOf30 Try.zeroValue30 rfl (by decide) (by decide) ⟨rfl, trivial⟩ (lvsC (by exact trivial) lvs0) rfl rfl) rfl (by decide) (cok1 trivial) (fun b24 H25 hb27 s26 => ?_)
        refine x_appendS (m := 2) (l := [((nth l' i).1, (nth l' i).2)]) (l0 := o) (l' := o ++ [nth l' i]) (f := spc) [] hF s26 (by kernel_rfl) (j := 2) (m + 1) rfl (gyes_none rfl) Try.underlying24 Try.underlying24 Try.type30 rfl rfl (by decide) rfl spc_w rfl rfl rfl (s26.slsj (l := [((nth l' i).1, (nth l' i).2)]) spc_w (j := 0) rfl rfl (Nat.le_refl _)) (fun x _ u hu => lc_scalar (spc_sc x u hu)) ho.2.1 (by show (2 * (m + 1) + 1000) * 16 ≤ _; omega) trivial trivial (by decide) rfl rfl rfl (fun b28 H29 hb31 s30 => ⟨?_, ?_⟩)
        · exact trivial
        refine dv (gyes_none rfl) (q_as (v := .slice (some ⟨b28, 0, none⟩) (m + 1) (m + 1)) rfl) rfl (by decide) (cok1 trivial) ?_
        refine ⟨_, Wk.refl _ _, ?_⟩
        show awp _ _ _ _ _ _ _
        refine awp_regs hF ?_
        refine dv (gyes_none rfl) (OpQ.cast (v' := .int .i64 ((i + 1 : Nat) : Int)) (q_int rfl rfl rfl) (congrArg _ ((i64_in (by omega)).trans (by first | rfl | omega | (push_cast; rfl))))) rfl (by decide) (cok2 trivial (cconst rfl)) ?_
        refine dv (gyes_none rfl) (q_mv (v := .int .i64 ((i + 1 : Nat) : Int)) rfl) rfl (by decide) (cok1 trivial) ?_
        refine ⟨_, Wk.U [(0, .pointer (some ⟨bs, 0, none⟩)), (2, .slice (some ⟨b28, 0, none⟩) (m + 1) (m + 1)), (14, .slice (some ⟨bl, 0, none⟩) l.length l.length), (15, .int .i64 ((l.length : Nat) : Int)), (16, .int .i64 (((i + 1) : Nat) : Int))] ⟨rfl, rfl, rfl, rfl, rfl, trivial⟩, ((i + 1), (m + 1), (o ++ [nth l' i])), ⟨_, _, rfl, (s30.sub (.cons _ (.cons _ (.cons_cons _ (.cons_cons _ (.cons_cons _ (.refl _))))))), ⟨by rw [join_succ (by omega), ← ho.1]; exact (js_n' ho.2.1 (by omega)).symm, by dsimp only; rw [List.length_append, ho.2.1]; rfl, by dsimp only; omega, by dsimp only; omega⟩⟩, (by omega)⟩
    ·
      replace c1 := of_decide_eq_false c1
      refine ⟨_, Wk.refl _ _, ?_⟩
      show awp _ _ _ _ _ _ _
      refine awp_seq ?_
      refine awp_cond_f rfl ?_
      refine awp_exit_wk ?_
      refine ⟨_, Wk.refl _ _, ?_⟩
      show awp _ _ _ _ _ _ _
      refine awp_regs hF ?_
      refine dv (gyes_none rfl) (q_mv (v := .pointer (some ⟨bs, 0, none⟩)) rfl) rfl (by decide) (cok1 trivial) ?_
      refine dv (gyes_none rfl) (q_mv (v := .slice (some ⟨bo, 0, none⟩) m m) rfl) rfl (by decide) (cok1 trivial) ?_
      refine dv (gyes_none rfl) (q_nilCheck rfl (s7.live (j := 1) rfl)) rfl (by decide) (cok1 trivial) ?_
      refine dv (gyes_none rfl) (q_field Try.underlying26 rfl Try.sizeOf24 rfl (s7.rd (j := 1) rfl)) rfl (by decide) (cok1 trivial) ?_
      refine x_store1 [] hF s7 (by kernel_rfl) (gyes_none rfl) (j := 1) (v := .slice (some ⟨bo, 0, none⟩) m m) rfl Try.sizeOf24 rfl rfl rfl (lc_slice (s7.live (j := 0) rfl)) (Nat.le_of_ble_eq_true rfl) trivial trivial rfl rfl (F' := [(bo, .cells true (fl spc o) 2), (bs, .cells true [.slice (some ⟨bo, 0, none⟩) m m] 1), (bl, .cells true (fl spc l') 2)]) rfl (fun H32 s33 => ⟨?_, ?_⟩)
      · exact trivial
      have hoj : o = joinS l' := by rw [ho.1]; unfold joinS; rw [List.take_of_length_le (by omega)]
      refine ⟨_, Wk.refl _ _, ?_⟩
      repeat (with_reducible first | refine then_ret ?_ | refine blk_ret ?_ | refine then_exit ?_ | refine blk_exit ?_ | refine blk_exit' (by decide) ?_ | refine blk_normal ?_ | refine then_normal ?_ | refine retq_ret ?_ | refine retq_normal ?_ | refine ng_normal ?_ | refine ng_ret ?_ | refine ng_exit ?_)
      refine ret_is (v := .tuple #[]) rfl .nil rfl ?_
      exact ⟨l', _, rfl, hperm, hsort, s33.kp, s33.own _ (List.mem_of_getElem? (i := 0) rfl), s33.nej (i := 0) (j := 1) rfl rfl (by decide), by rw [← hoj, ← ho.2.1]; exact s33.getj (j := 1) rfl, by rw [← hoj]; exact s33.getj (j := 0) rfl⟩
set_option maxRecDepth 100000 in
set_option maxHeartbeats 4000000 in
theorem add_ok {H0 : AHeap} (bs bl : Nat) (l : List Sp) (hl : l.length ≤ 900) (hnd : [bs, bl].Nodup) (h1 : H0[bs]? = some (.cells true [.slice (some ⟨bl, 0, none⟩) l.length l.length] 1)) (h2 : H0[bl]? = some (.cells true (fl spc l) 2)) (x : Sp) : ACalls Try.prog 9 [.pointer (some ⟨bs, 0, none⟩), .agg #[.int .u64 ((x.1 : Nat) : Int), .int .u64 ((x.2 : Nat) : Int)]] H0 (fun v H' => ∃ (ok : Bool) (L : List Sp) (bn : Nat), v = .bool ok ∧ AddR l x ok L ∧ Kp (· ∈ [bs, bl]) H0 H' ∧ (H0.length ≤ bn ∨ bn ∈ [bs, bl]) ∧ bn ≠ bs ∧ H'[bs]? = some (.cells true [.slice (some ⟨bn, 0, none⟩) L.length L.length] 1) ∧ H'[bn]? = some (.cells true (fl spc L) 2)) := by
  have hF : Wd Fence.wide := .inl rfl
  have hM : Try.prog.follows .mixedOrders = true := by kernel_rfl
  have s0 : St H0 (· ∈ [bs, bl]) (Off H0 [bs, bl]) H0 [(bs, .cells true [.slice (some ⟨bl, 0, none⟩) l.length l.length] 1), (bl, .cells true (fl spc l) 2)] := St.beginL [(bs, .cells true [.slice (some ⟨bl, 0, none⟩) l.length l.length] 1), (bl, .cells true (fl spc l) 2)] hnd (allAt_mem ⟨h1, h2, trivial⟩)
  refine acalls_st Try.func9 rfl Try.ntmps9 rfl ?_
  refine awp_seq ?_
  refine awp_regs hF ?_
  refine x_new (fun b => .pointer (some ⟨b, 0, none⟩)) s0 (gyes_none rfl) (q_box (v := .agg #[.int .u64 ((x.1 : Nat) : Int), .int .u64 ((x.2 : Nat) : Int)]) (vs := [.int .u64 ((x.1 : Nat) : Int), .int .u64 ((x.2 : Nat) : Int)]) 2 rfl (by exact trivial) rfl) rfl (by decide) (cok1 trivial) (fun b1 H2 hb4 s3 => ?_)
  refine dv (gyes_none rfl) (q_as (v := .bool false) rfl) rfl (by decide) (cok1 (cconst rfl)) ?_
  refine ⟨_, Wk.refl _ _, ?_⟩
  show awp _ _ _ _ _ _ _
  refine awp_seq ?_
  refine awp_seq ?_
  refine awp_regs hF ?_
  refine dv (gyes_none rfl) (q_mv (v := .pointer (some ⟨bs, 0, none⟩)) rfl) rfl (by decide) (cok1 trivial) ?_
  refine dv (gyes_none rfl) (q_ptrnil_f Try.underlying49 rfl (s3.live (j := 1) rfl) rfl) rfl (by decide) (cok2 trivial (cconst rfl)) ?_
  refine dv (gyes_none rfl) (q_mv (v := .bool false) rfl) rfl (by decide) (cok1 trivial) ?_
  refine dv (gyes_some rfl rfl) (q_loadAgg Try.isAgg30 Try.sizeOf30 rfl (s3.rd (j := 0) rfl) (Nat.le_of_ble_eq_true rfl) rfl) rfl (by decide) (cok1 trivial) ?_
  refine dvb (gyes_some rfl rfl) (q_call0 Try.call27 rfl (empty_ok x)) rfl (by decide) (cok2 trivial trivial) (fun c1 => ?_) (fun c1 => ?_)
  ·
    replace c1 := of_decide_eq_true c1
    refine dv (gyes_none rfl) (q_pf (v := .bool true) rfl rfl) rfl (by decide) (call_ok rfl) ?_
    refine dv (gyes_none rfl) (q_mv (v := .bool true) rfl) rfl (by decide) (cok1 trivial) ?_
    refine dno rfl (.inl rfl) rfl (by decide) ?_
    refine dno rfl (.inl rfl) rfl (by decide) ?_
    refine dno rfl (.inl rfl) rfl (by decide) ?_
    refine dv (gyes_none rfl) (q_pt (v := .bool true) rfl rfl) rfl (by decide) (call_ok rfl) ?_
    refine ⟨_, Wk.refl _ _, ?_⟩
    show awp _ _ _ _ _ _ _
    refine awp_cond_t rfl ?_
    refine awp_seq ?_
    refine awp_regs hF ?_
    refine dv (gyes_none rfl) (q_as (v := .bool false) rfl) rfl (by decide) (cok1 (cconst rfl)) ?_
    refine ⟨_, Wk.refl _ _, ?_⟩
    show awp _ _ _ _ _ _ _
    refine awp_ret_wk ?_
    refine ⟨_, Wk.refl _ _, ?_⟩
    repeat (with_reducible first | refine then_ret ?_ | refine blk_ret ?_ | refine then_exit ?_ | refine blk_exit ?_ | refine blk_exit' (by decide) ?_ | refine blk_normal ?_ | refine then_normal ?_ | refine retq_ret ?_ | refine retq_normal ?_ | refine ng_normal ?_ | refine ng_ret ?_ | refine ng_exit ?_)
    refine ret_is (v := .bool false) rfl (.tmp rfl .nil) rfl ?_
    exact ⟨_, _, _, rfl, .inl ⟨rfl, by first | exact .inl (by assumption) | exact .inr (by assumption), rfl⟩, s3.kp, s3.own _ (List.mem_of_getElem? (i := 2) rfl), s3.nej (i := 2) (j := 1) rfl rfl (by decide), s3.getj (j := 1) rfl, s3.getj (j := 2) rfl⟩
  ·
    replace c1 := of_decide_eq_false c1
    refine dv (gyes_none rfl) (q_pf (v := .bool false) rfl rfl) rfl (by decide) (call_ok rfl) ?_
    refine dv (gyes_none rfl) (q_mv (v := .bool false) rfl) rfl (by decide) (cok1 trivial) ?_
    refine dv (gyes_some rfl rfl) (q_mv (v := .pointer (some ⟨bs, 0, none⟩)) rfl) rfl (by decide) (cok1 trivial) ?_
    refine dv (gyes_some rfl rfl) (q_loadAgg Try.isAgg30 Try.sizeOf30 rfl (s3.rd (j := 0) rfl) (Nat.le_of_ble_eq_true rfl) rfl) rfl (by decide) (cok1 trivial) ?_
    refine dvb (gyes_some rfl rfl) (q_call0 Try.call20 rfl (meets_ok bs _ l (s3.rd (j := 1) rfl) (s3.slsj (l := l) spc_w (j := 2) rfl rfl (Nat.le_refl _)) (by omega) x)) rfl (by decide) (call_ok rfl) (fun c2 => ?_) (fun c2 => ?_)
    ·
      refine dv (gyes_none rfl) (q_pf (v := .bool true) rfl rfl) rfl (by decide) (call_ok rfl) ?_
      refine ⟨_, Wk.refl _ _, ?_⟩
      show awp _ _ _ _ _ _ _
      refine awp_cond_t rfl ?_
      refine awp_seq ?_
      refine awp_regs hF ?_
      refine dv (gyes_none rfl) (q_as (v := .bool false) rfl) rfl (by decide) (cok1 (cconst rfl)) ?_
      refine ⟨_, Wk.refl _ _, ?_⟩
      show awp _ _ _ _ _ _ _
      refine awp_ret_wk ?_
      refine ⟨_, Wk.refl _ _, ?_⟩
      repeat (with_reducible first | refine then_ret ?_ | refine blk_ret ?_ | refine then_exit ?_ | refine blk_exit ?_ | refine blk_exit' (by decide) ?_ | refine blk_normal ?_ | refine then_normal ?_ | refine retq_ret ?_ | refine retq_normal ?_ | refine ng_normal ?_ | refine ng_ret ?_ | refine ng_exit ?_)
      refine ret_is (v := .bool false) rfl (.tmp rfl .nil) rfl ?_
      exact ⟨_, _, _, rfl, .inl ⟨rfl, by first | exact .inl (by assumption) | exact .inr (by assumption), rfl⟩, s3.kp, s3.own _ (List.mem_of_getElem? (i := 2) rfl), s3.nej (i := 2) (j := 1) rfl rfl (by decide), s3.getj (j := 1) rfl, s3.getj (j := 2) rfl⟩
    ·
      refine dv (gyes_none rfl) (q_pf (v := .bool false) rfl rfl) rfl (by decide) (call_ok rfl) ?_
      refine ⟨_, Wk.refl _ _, ?_⟩
      show awp _ _ _ _ _ _ _
      refine awp_cond_f rfl ?_
      refine awp_skip_wk ?_
      refine ⟨_, Wk.refl _ _, ?_⟩
      show awp _ _ _ _ _ _ _
      refine awp_seq ?_
      refine awp_regt hF hM (by kernel_rfl) (by kernel_rfl) ?_
      refine dv (gyes_none rfl) (q_mv (v := .pointer (some ⟨bs, 0, none⟩)) rfl) rfl (by decide) (cok1 trivial) ?_
      refine dv (gyes_none rfl) (q_mv (v := .pointer (some ⟨bs, 0, none⟩)) rfl) rfl (by decide) (cok1 trivial) ?_
      refine dv (gyes_none rfl) (q_nilCheck rfl (s3.live (j := 1) rfl)) rfl (by decide) (cok1 trivial) ?_
      refine dv (gyes_none rfl) (q_field Try.underlying26 rfl Try.sizeOf24 rfl (s3.rd (j := 1) rfl)) rfl (by decide) (cok1 trivial) ?_
      refine dv (gyes_none rfl) (q_load (v := .slice (some ⟨bl, 0, none⟩) l.length l.length) Try.isAgg24 rfl (s3.rd (j := 1) rfl) rfl) rfl (by decide) (cok1 trivial) ?_
      refine dv (gyes_none rfl) (q_loadAgg Try.isAgg30 Try.sizeOf30 rfl (s3.rd (j := 0) rfl) (Nat.le_of_ble_eq_true rfl) rfl) rfl (by decide) (cok1 trivial) ?_
      refine x_new (fun b => .slice (some ⟨b, 0, none⟩) 1 1) s3 (gyes_none rfl) (q_buildSliceL (ds := [.int .u64 ((x.1 : Nat) : Int), .int .u64 ((x.2 : Nat) : Int)]) [.agg #[.int .u64 ((x.1 : Nat) : Int), .int .u64 ((x.2 : Nat) : Int)]] rfl Try.underlying24 Try.sizeOf30 Try.zeroValue30 rfl (by decide) (by decide) ⟨rfl, trivial⟩ (lvsC (by exact trivial) lvs0) rfl rfl) rfl (by decide) (cok1 trivial) (fun b5 H6 hb8 s7 => ?_)
      refine x_appendS (m := 2) (l := [(x.1, x.2)]) (l0 := l) (l' := l ++ [x]) (f := spc) [0] hF s7 (by kernel_rfl) (j := 3) (l.length + 1) rfl (gyes_none rfl) Try.underlying24 Try.underlying24 Try.type30 rfl rfl (by decide) rfl spc_w rfl rfl rfl (s7.slsj (l := [(x.1, x.2)]) spc_w (j := 0) rfl rfl (Nat.le_refl _)) (fun x _ u hu => lc_scalar (spc_sc x u hu)) rfl (by show (2 * (l.length + 1) + 1000) * 16 ≤ _; omega) trivial trivial (by decide) rfl rfl rfl (fun b9 H10 hb12 s11 => ⟨?_, ?_⟩)
      · exact ⟨pend_yes rfl (gyes_none rfl) (q_mv (v := .pointer (some ⟨bs, 0, none⟩)) rfl) rfl (by decide) (cok1 trivial) rfl, trivial⟩
      refine dv (gyes_none rfl) (q_nilCheck rfl (s11.live (j := 2) rfl)) rfl (by decide) (cok1 trivial) ?_
      refine dv (gyes_none rfl) (q_field Try.underlying26 rfl Try.sizeOf24 rfl (s11.rd (j := 2) rfl)) rfl (by decide) (cok1 trivial) ?_
      refine x_store1 [] hF s11 (by kernel_rfl) (gyes_none rfl) (j := 2) (v := .slice (some ⟨b9, 0, none⟩) (l.length + 1) (l.length + 1)) rfl Try.sizeOf24 rfl rfl rfl (lc_slice (s11.live (j := 3) rfl)) (Nat.le_of_ble_eq_true rfl) trivial trivial rfl rfl (F' := [(b5, .cells true [.int .u64 ((x.1 : Nat) : Int), .int .u64 ((x.2 : Nat) : Int)] 2), (b1, .cells true [.int .u64 ((x.1 : Nat) : Int), .int .u64 ((x.2 : Nat) : Int)] 2), (bs, .cells true [.slice (some ⟨b9, 0, none⟩) (l.length + 1) (l.length + 1)] 1), (b9, .cells true (fl spc (l ++ [x])) 2)]) rfl (fun H13 s14 => ⟨?_, ?_⟩)
      · exact trivial
      refine ⟨_, Wk.refl _ _, ?_⟩
      show awp _ _ _ _ _ _ _
      refine awp_seq ?_
      refine awp_regs hF ?_
      refine dv (gyes_none rfl) (q_mv (v := .pointer (some ⟨bs, 0, none⟩)) rfl) rfl (by decide) (cok1 trivial) ?_
      refine x_call [] hF (by kernel_rfl) (gyes_none rfl) Try.call28 rfl (args := [.pointer (some ⟨bs, 0, none⟩)]) rfl (setSort_ok bs b9 (l ++ [x]) (by rw [List.length_append]; show _ + 1 ≤ _; omega) (nod2 (s14.nej (i := 2) (j := 3) rfl rfl (by decide))) (by rw [List.length_append]; exact s14.getj (j := 2) rfl) (s14.getj (j := 3) rfl) (by rw [List.length_append]; show 0 < _ + 1; omega)) (show _ < _ by decide) (call_ok rfl) rfl rfl (fun _ _ _ _ hd => by cases hd) ?_
      rintro _ H15 ⟨l', b16, rfl, hperm, hsort, hk17, ho18, hn19, h20, h21⟩
      have s22 := s14.turn2 (j9 := 2) (jl := 3) rfl rfl (by decide) hk17 ho18 hn19 h20 h21
      refine ⟨trivial, ?_⟩
      show dList _ _ _ _ _ _ _ _ _ _
      refine ⟨_, Wk.refl _ _, ?_⟩
      show awp _ _ _ _ _ _ _
      refine awp_seq ?_
      refine awp_regs hF ?_
      refine dv (gyes_none rfl) (q_as (v := .bool true) rfl) rfl (by decide) (cok1 (cconst rfl)) ?_
      refine ⟨_, Wk.refl _ _, ?_⟩
      show awp _ _ _ _ _ _ _
      refine awp_ret_wk ?_
      refine ⟨_, Wk.refl _ _, ?_⟩
      repeat (with_reducible first | refine then_ret ?_ | refine blk_ret ?_ | refine then_exit ?_ | refine blk_exit ?_ | refine blk_exit' (by decide) ?_ | refine blk_normal ?_ | refine then_normal ?_ | refine retq_ret ?_ | refine retq_normal ?_ | refine ng_normal ?_ | refine ng_ret ?_ | refine ng_exit ?_)
      refine ret_is (v := .bool true) rfl (.tmp rfl .nil) rfl ?_
      exact ⟨_, _, _, rfl, .inr ⟨rfl, by omega, by assumption, l', hperm, hsort, rfl⟩, s22.kp, s22.own _ (List.mem_of_getElem? (i := 3) rfl), s22.nej (i := 3) (j := 2) rfl rfl (by decide), s22.getj (j := 2) rfl, s22.getj (j := 3) rfl⟩
end Go.Proofs.YtjgeheookgogaaaA


/-
  Walks of functions of the given program, and what they compute.
-/
namespace Go.Proofs.YtjgeheookgogaaaA
set_option linter.unusedVariables false
open Go Go.RowKit Go.Shelf Go.Proofs
def sumS (l : List Sp) : Nat → Nat
  | 0 => 0
  | k + 1 => sumS l k + ((nth l k).2 - (nth l k).1)
def fitS (n al : Nat) (iv : Sp) (l : List Sp) : Nat → Nat × Bool
  | 0 => upV iv.1 al
  | k + 1 => if meetsB ((fitS n al iv l k).1, ((fitS n al iv l k).1 + n) % 18446744073709551616) (nth l k) = true then upV (nth l k).2 al else fitS n al iv l k
def stopS (n : Nat) (iv : Sp) (s : Nat × Bool) : Bool := !s.2 || decide (iv.2 ≤ s.1) || decide (iv.2 - s.1 < n)
def fitV (n al : Nat) (iv : Sp) (l : List Sp) : Nat × Bool := if n = 0 ∨ al = 0 then (0, false) else if (List.range (l.length + 1)).any (fun k => stopS n iv (fitS n al iv l k)) = true then (0, false) else ((fitS n al iv l l.length).1, true)
theorem fit_y {n al : Nat} {iv : Sp} {l : List Sp} {k a : Nat} {o : Bool} (h : (a, o) = fitS n al iv l k) (hm : meetsB (a, (a + n) % 18446744073709551616) (nth l k) = true) : upV (nth l k).2 al = fitS n al iv l (k + 1) := by
  show _ = if _ then _ else _
  rw [← h, if_pos hm]
theorem fit_n {n al : Nat} {iv : Sp} {l : List Sp} {k a : Nat} {o : Bool} (h : (a, o) = fitS n al iv l k) (hm : meetsB (a, (a + n) % 18446744073709551616) (nth l k) = false) : (a, o) = fitS n al iv l (k + 1) := by
  show _ = if _ then _ else _
  rw [← h, if_neg (by rw [hm]; exact fun h => nomatch h)]
theorem fitV_z {n al : Nat} {iv : Sp} {l : List Sp} (h : n = 0 ∨ al = 0) : fitV n al iv l = (0, false) := if_pos h
theorem fitV_s {n al : Nat} {iv : Sp} {l : List Sp} {k : Nat} (hk : k ≤ l.length) (h : stopS n iv (fitS n al iv l k) = true) : fitV n al iv l = (0, false) := by
  unfold fitV
  split
  · rfl
  · rw [if_pos (List.any_eq_true.2 ⟨k, List.mem_range.2 (by omega), h⟩)]
theorem fitV_t {n al : Nat} {iv : Sp} {l : List Sp} (h0 : ¬ (n = 0 ∨ al = 0)) (h : ∀ k, k < l.length + 1 → stopS n iv (fitS n al iv l k) = false) : fitV n al iv l = ((fitS n al iv l l.length).1, true) := by
  unfold fitV
  rw [if_neg h0, if_neg]
  intro h2
  obtain ⟨k, hk, h3⟩ := List.any_eq_true.1 h2
  rw [h k (List.mem_range.1 hk)] at h3
  exact nomatch h3
theorem stop_o {n : Nat} {iv : Sp} {a : Nat} {o : Bool} (h : o = false) : stopS n iv (a, o) = true := by subst h; rfl
theorem stop_a {n : Nat} {iv : Sp} {a : Nat} {o : Bool} (h : iv.2 ≤ a) : stopS n iv (a, o) = true := by unfold stopS; rw [decide_eq_true h]; simp
theorem stop_n {n : Nat} {iv : Sp} {a : Nat} {o : Bool} (h : iv.2 - a < n) : stopS n iv (a, o) = true := by unfold stopS; rw [decide_eq_true h]; simp
theorem stop_f {n : Nat} {iv : Sp} {a : Nat} {o : Bool} (h1 : o = true) (h2 : ¬ iv.2 ≤ a) (h3 : ¬ iv.2 - a < n) : stopS n iv (a, o) = false := by subst h1; unfold stopS; rw [decide_eq_false h2, decide_eq_false h3]; rfl
theorem upV_lt {a n : Nat} (ha : a < 18446744073709551616) : (upV a n).1 < 18446744073709551616 := by
  unfold upV; split
  · exact ha
  · exact Nat.mod_lt _ (by decide)
def p2 (x o : Sp) (i : Nat) : Sp := if i = 0 then (o.1, x.1) else (x.2, o.2)
def remP (x o : Sp) : Nat → List Sp
  | 0 => []
  | i + 1 => if (p2 x o i).2 ≤ (p2 x o i).1 then remP x o i else remP x o i ++ [p2 x o i]
def remA (x : Sp) (l : List Sp) : Nat → List Sp
  | 0 => []
  | k + 1 => if withinB x (nth l k) = true then remA x l k ++ remP x (nth l k) 2 else remA x l k ++ [nth l k]
def RemR (l : List Sp) (x : Sp) (ok : Bool) (L : List Sp) : Prop := (ok = false ∧ (x.2 ≤ x.1 ∨ (decide (x.2 ≤ x.1) || l.any (withinB x)) = false) ∧ L = l) ∨ (ok = true ∧ x.1 < x.2 ∧ (decide (x.2 ≤ x.1) || l.any (withinB x)) = true ∧ L = remA x l l.length)
set_option maxRecDepth 100000 in
set_option maxHeartbeats 4000000 in
theorem all_ok {H0 : AHeap} (bs : Nat) (vL : Value) (hs_ : Rd H0 bs [vL] 1) : ACalls Try.prog 11 [.pointer (some ⟨bs, 0, none⟩)] H0 (fun v H' => ∃ bc, v = .func (.func 29) #[] #[.pointer (some ⟨bc, 0, none⟩)] ∧ NewL H0 H' [(bc, .cells true [.pointer (some ⟨bs, 0, none⟩)] 1)]) := by
  have hF : Wd Fence.wide := .inl rfl
  have hM : Try.prog.follows .mixedOrders = true := by kernel_rfl
  have s0 := St.begin H0
  refine acalls_st Try.func11 rfl Try.ntmps11 rfl ?_
  refine awp_seq ?_
  refine awp_regs hF ?_
  refine x_new (fun b => .pointer (some ⟨b, 0, none⟩)) s0 (gyes_none rfl) (q_box (v := .pointer (some ⟨bs, 0, none⟩)) (vs := [.pointer (some ⟨bs, 0, none⟩)]) 1 rfl (Rd.live (s0.zrd hs_)) rfl) rfl (by decide) (cok1 trivial) (fun b1 H2 hb4 s3 => ?_)
  refine dv (gyes_none rfl) (q_as (v := .nilFunc) rfl) rfl (by decide) (cok1 (cconst rfl)) ?_
  refine ⟨_, Wk.refl _ _, ?_⟩
  show awp _ _ _ _ _ _ _
  refine awp_seq ?_
  refine awp_regs hF ?_
  refine dv (gyes_none rfl) (q_makeFuncL [.pointer (some ⟨b1, 0, none⟩)] ⟨rfl, trivial⟩) rfl (by decide) (cok1 trivial) ?_
  refine dv (gyes_none rfl) (q_as (v := .func (.func 29) #[] #[.pointer (some ⟨b1, 0, none⟩)]) rfl) rfl (by decide) (cok1 trivial) ?_
  refine ⟨_, Wk.refl _ _, ?_⟩
  show awp _ _ _ _ _ _ _
  refine awp_ret_wk ?_
  refine ⟨_, Wk.refl _ _, ?_⟩
  repeat (with_reducible first | refine then_ret ?_ | refine blk_ret ?_ | refine then_exit ?_ | refine blk_exit ?_ | refine blk_exit' (by decide) ?_ | refine blk_normal ?_ | refine then_normal ?_ | refine retq_ret ?_ | refine retq_normal ?_ | refine ng_normal ?_ | refine ng_ret ?_ | refine ng_exit ?_)
  refine ret_is (v := .func (.func 29) #[] #[.pointer (some ⟨b1, 0, none⟩)]) rfl (.tmp rfl .nil) rfl ?_
  exact ⟨_, rfl, s3.newL⟩
set_option maxRecDepth 100000 in
set_option maxHeartbeats 4000000 in
theorem alls1_ok {H0 : AHeap} (bc bs : Nat) (vL : Value) (l : List Sp) (hl : l.length ≤ 1000000) (y : Value) (Iv E' : Nat → AHeap → Prop) (h0 : Iv 0 H0) (hm : ∀ i H H', Iv i H → K0 H H' → Iv i H')
    (hb : ∀ i H, Iv i H → Rd H bc [.pointer (some ⟨bs, 0, none⟩)] 1 ∧ Rd H bs [vL] 1 ∧ SlS spc 2 H vL l)
    (hy : ∀ i H, Iv i H → i < l.length → Ylds Try.prog y [.agg (spc (nth l i)).toArray] H (fun b H' => (b = true → Iv (i + 1) H') ∧ (b = false → E' (i + 1) H'))) : ACalls Try.prog 29 [y, .pointer (some ⟨bc, 0, none⟩)] H0 (fun v H' => v = .tuple #[] ∧ (Iv l.length H' ∨ ∃ i, i < l.length ∧ E' (i + 1) H')) := by
  have hF : Wd Fence.wide := .inl rfl
  have hM : Try.prog.follows .mixedOrders = true := by kernel_rfl
  have s0 := St.begin H0
  obtain ⟨hc_, hs_, hL⟩ := hb _ _ h0
  refine acalls_st Try.func29 rfl Try.ntmps29 rfl ?_
  refine awp_seq ?_
  refine awp_seq ?_
  refine awp_regs hF ?_
  refine dv (gyes_none rfl) (q_load (v := .pointer (some ⟨bs, 0, none⟩)) Try.isAgg49 rfl (s0.zrd hc_) rfl) rfl (by decide) (cok1 trivial) ?_
  refine dv (gyes_none rfl) (q_ptrnil_f Try.underlying49 rfl (Rd.live (s0.zrd hs_)) rfl) rfl (by decide) (cok2 trivial (cconst rfl)) ?_
  refine ⟨_, Wk.refl _ _, ?_⟩
  show awp _ _ _ _ _ _ _
  refine awp_cond_f rfl ?_
  refine awp_skip_wk ?_
  refine ⟨_, Wk.refl _ _, ?_⟩
  show awp _ _ _ _ _ _ _
  refine awp_seq ?_
  refine awp_regs hF ?_
  refine dv (gyes_none rfl) (q_load (v := .pointer (some ⟨bs, 0, none⟩)) Try.isAgg49 rfl (s0.zrd hc_) rfl) rfl (by decide) (cok1 trivial) ?_
  refine dv (gyes_none rfl) (q_nilCheck rfl (Rd.live (s0.zrd hs_))) rfl (by decide) (cok1 trivial) ?_
  refine dv (gyes_none rfl) (q_field Try.underlying26 rfl Try.sizeOf24 rfl (s0.zrd hs_)) rfl (by decide) (cok1 trivial) ?_
  refine dv (gyes_none rfl) (q_load (v := vL) Try.isAgg24 rfl (s0.zrd hs_) rfl) rfl (by decide) (cok1 trivial) ?_
  refine dv (gyes_none rfl) (q_len_sls (l := l) Try.underlying24 (hL) rfl) rfl (by decide) (cok1 trivial) ?_
  refine dv (gyes_none rfl) (q_mv (v := .int .i64 0) rfl) rfl (by decide) (cok1 (cconst rfl)) ?_
  refine ⟨_, Wk.refl _ _, ?_⟩
  show awp _ _ _ _ _ _ _
  refine awp_block ?_
  refine awp_wk (Wk.U [(0, y), (1, .pointer (some ⟨bc, 0, none⟩)), (10, vL), (11, .int .i64 ((l.length : Nat) : Int)), (12, .int .i64 0)] ⟨rfl, rfl, rfl, rfl, rfl, trivial⟩) ?_
  refine awp_loop (fun (i : Nat) st => ∃ (H1 : AHeap), st = ⟨21, U [(0, y), (1, .pointer (some ⟨bc, 0, none⟩)), (10, vL), (11, .int .i64 ((l.length : Nat) : Int)), (12, .int .i64 ((i : Nat) : Int))], [], H1⟩ ∧ St H1 (none0) (Rd H1) H1 [] ∧ (i ≤ l.length ∧ Iv i H1)) (fun (i : Nat) => l.length - i) (x0 := (0)) ?h0 ?round
  case h0 =>
    exact ⟨_, rfl, s0, ⟨Nat.zero_le _, hm _ _ _ h0 s0.kp⟩⟩
  case round =>
    rintro i _ ⟨H1, rfl, s2, hI⟩
    obtain ⟨hc_, hs_, hL⟩ := hb _ _ hI.2
    refine awp_seq ?_
    refine awp_regs hF ?_
    refine dvb (gyes_none rfl) (q_int rfl rfl rfl) rfl (by decide) (cok2 trivial trivial) (fun c1 => ?_) (fun c1 => ?_)
    ·
      replace c1 := of_decide_eq_true c1
      refine ⟨_, Wk.refl _ _, ?_⟩
      show awp _ _ _ _ _ _ _
      refine awp_seq ?_
      refine awp_cond_t rfl ?_
      refine awp_skip_wk ?_
      refine ⟨_, Wk.refl _ _, ?_⟩
      show awp _ _ _ _ _ _ _
      refine awp_seq ?_
      refine awp_block ?_
      refine awp_seq ?_
      refine awp_regs hF ?_
      refine dv (gyes_none rfl) (q_index_sls (l := l) (i := i) Try.underlying24 Try.sizeOf30 (hL) spc_w rfl rfl (by omega)) rfl (by decide) (cok2 trivial trivial) ?_
      refine dv (gyes_none rfl) (q_loadA_sls (l := l) (i := i) Try.isAgg30 Try.sizeOf30 (hL) spc_w rfl (by omega)) rfl (by decide) (cok1 trivial) ?_
      refine x_new (fun b => .pointer (some ⟨b, 0, none⟩)) s2 (gyes_none rfl) (q_alloc (vs := [.int .u64 0, .int .u64 0]) 2 Try.zeroValue30 (by first | exact flat_scalar rfl | exact flat_agg rfl) rfl) rfl (by decide) (by simp [Op.operands, Call.operands]) (fun b3 H4 hb6 s5 => ?_)
      refine x_store [] hF s5 (by kernel_rfl) (gyes_none rfl) (j := 0) (v := .agg #[.int .u64 (((nth l i).1 : Nat) : Int), .int .u64 (((nth l i).2 : Nat) : Int)]) rfl Try.sizeOf30 rfl rfl rfl rfl rfl trivial (lcsA ⟨(lc_scalar rfl), (lc_scalar rfl), trivial⟩) (Nat.le_of_ble_eq_true rfl) trivial trivial rfl rfl (F' := [(b3, .cells true [.int .u64 (((nth l i).1 : Nat) : Int), .int .u64 (((nth l i).2 : Nat) : Int)] 2)]) rfl (fun H7 s8 => ⟨?_, ?_⟩)
      · exact trivial
      refine ⟨_, Wk.refl _ _, ?_⟩
      show awp _ _ _ _ _ _ _
      refine awp_seq ?_
      refine awp_regs hF ?_
      refine dv (gyes_none rfl) (q_mv (v := y) rfl) rfl (by decide) (cok1 trivial) ?_
      refine dv (gyes_none rfl) (q_loadAgg Try.isAgg30 Try.sizeOf30 rfl (s8.rd (j := 0) rfl) (Nat.le_of_ble_eq_true rfl) rfl) rfl (by decide) (cok1 trivial) ?_
      refine x_yield [] (by kernel_rfl) (gyes_none rfl) (y := y) (args := [.agg #[.int .u64 (((nth l i).1 : Nat) : Int), .int .u64 (((nth l i).2 : Nat) : Int)]]) rfl rfl (hy i _ (hm _ _ _ hI.2 s8.kp) (by omega)) (show _ < _ by decide) (cok1 trivial) rfl rfl (fun y9 H10 hy11 => ⟨trivial, ?_⟩)
      show dList _ _ _ _ _ _ _ _ _ _
      cases y9
      case false =>
        refine dv (gyes_none rfl) (q_not (b := false) rfl) rfl (by decide) (cok1 trivial) ?_
        refine ⟨_, Wk.refl _ _, ?_⟩
        show awp _ _ _ _ _ _ _
        refine awp_cond_t rfl ?_
        refine awp_ret_wk ?_
        refine ⟨_, Wk.refl _ _, ?_⟩
        repeat (with_reducible first | refine then_ret ?_ | refine blk_ret ?_ | refine then_exit ?_ | refine blk_exit ?_ | refine blk_exit' (by decide) ?_ | refine blk_normal ?_ | refine then_normal ?_ | refine retq_ret ?_ | refine retq_normal ?_ | refine ng_normal ?_ | refine ng_ret ?_ | refine ng_exit ?_)
        refine ret_is (v := .tuple #[]) rfl .nil rfl ?_
        exact ⟨rfl, .inr ⟨i, by omega, hy11.2 rfl⟩⟩
      case true =>
        have h12 := hy11.1 rfl
        have s13 := St.begin H10
        refine dv (gyes_none rfl) (q_not (b := true) rfl) rfl (by decide) (cok1 trivial) ?_
        refine ⟨_, Wk.refl _ _, ?_⟩
        show awp _ _ _ _ _ _ _
        refine awp_cond_f rfl ?_
        refine awp_skip_wk ?_
        refine ⟨_, Wk.refl _ _, ?_⟩
        show awp _ _ _ _ _ _ _
        refine awp_regs hF ?_
        refine dv (gyes_none rfl) (OpQ.cast (v' := .int .i64 ((i + 1 : Nat) : Int)) (q_int rfl rfl rfl) (congrArg _ ((i64_in (by omega)).trans (by first | rfl | omega | (push_cast; rfl))))) rfl (by decide) (cok2 trivial (cconst rfl)) ?_
        refine dv (gyes_none rfl) (q_mv (v := .int .i64 ((i + 1 : Nat) : Int)) rfl) rfl (by decide) (cok1 trivial) ?_
        refine ⟨_, Wk.U [(0, y), (1, .pointer (some ⟨bc, 0, none⟩)), (10, vL), (11, .int .i64 ((l.length : Nat) : Int)), (12, .int .i64 (((i + 1) : Nat) : Int))] ⟨rfl, rfl, rfl, rfl, rfl, trivial⟩, (i + 1), ⟨_, rfl, (St.begin _), ⟨by omega, h12⟩⟩, (by omega)⟩
    ·
      replace c1 := of_decide_eq_false c1
      refine ⟨_, Wk.refl _ _, ?_⟩
      show awp _ _ _ _ _ _ _
      refine awp_seq ?_
      refine awp_cond_f rfl ?_
      refine awp_exit_wk ?_
      refine ⟨_, Wk.refl _ _, ?_⟩
      repeat (with_reducible first | refine then_ret ?_ | refine blk_ret ?_ | refine then_exit ?_ | refine blk_exit ?_ | refine blk_exit' (by decide) ?_ | refine blk_normal ?_ | refine then_normal ?_ | refine retq_ret ?_ | refine retq_normal ?_ | refine ng_normal ?_ | refine ng_ret ?_ | refine ng_exit ?_)
      refine ret_is (v := .tuple #[]) rfl .nil rfl ?_
      obtain rfl : i = l.length := by omega
      exact ⟨rfl, .inl hI.2⟩
set_option maxRecDepth 100000 in
set_option maxHeartbeats 4000000 in
theorem slen_ok {H0 : AHeap} (bs : Nat) (vL : Value) (l : List Sp) (hs_ : Rd H0 bs [vL] 1) (hL : SlS spc 2 H0 vL l) (hl : l.length ≤ 1000000) (hlw : ∀ x ∈ l, SpW x) : ACalls Try.prog 15 [.pointer (some ⟨bs, 0, none⟩)] H0 (Rets (.int .u64 ((sumS l l.length % 18446744073709551616 : Nat) : Int)) H0) := by
  have hF : Wd Fence.wide := .inl rfl
  have hM : Try.prog.follows .mixedOrders = true := by kernel_rfl
  have s0 := St.begin H0
  refine acalls_st Try.func15 rfl Try.ntmps15 rfl ?_
  refine awp_seq ?_
  refine awp_regs hF ?_
  refine dv (gyes_none rfl) (q_as (v := .int .u64 0) rfl) rfl (by decide) (cok1 (cconst rfl)) ?_
  refine ⟨_, Wk.refl _ _, ?_⟩
  show awp _ _ _ _ _ _ _
  refine awp_seq ?_
  refine awp_regs hF ?_
  refine x_new (fun b => .pointer (some ⟨b, 0, none⟩)) s0 (gyes_none rfl) (q_alloc (vs := [.int .u64 0]) 1 Try.zeroValue27 (by first | exact flat_scalar rfl | exact flat_agg rfl) rfl) rfl (by decide) (by simp [Op.operands, Call.operands]) (fun b1 H2 hb4 s3 => ?_)
  refine x_store1 [] hF s3 (by kernel_rfl) (gyes_none rfl) (j := 0) (v := .int .u64 0) rfl Try.sizeOf27 rfl rfl rfl (lc_scalar rfl) (Nat.le_of_ble_eq_true rfl) trivial (cconst rfl) rfl rfl (F' := [(b1, .cells true [.int .u64 0] 1)]) rfl (fun H5 s6 => ⟨?_, ?_⟩)
  · exact trivial
  refine ⟨_, Wk.refl _ _, ?_⟩
  show awp _ _ _ _ _ _ _
  refine awp_seq ?_
  refine awp_seq ?_
  refine awp_regs hF ?_
  refine dv (gyes_none rfl) (q_mv (v := .pointer (some ⟨bs, 0, none⟩)) rfl) rfl (by decide) (cok1 trivial) ?_
  refine x_call [] hF (by kernel_rfl) (gyes_none rfl) Try.call11 rfl (args := [.pointer (some ⟨bs, 0, none⟩)]) rfl (all_ok bs _ (s6.zrd hs_)) (show _ < _ by decide) (call_ok rfl) rfl rfl (fun _ _ _ _ hd => by cases hd) ?_
  rintro _ H8 ⟨b7, rfl, hn9⟩
  have s10 := s6.callL hn9
  refine ⟨trivial, ?_⟩
  show dList _ _ _ _ _ _ _ _ _ _
  refine ⟨_, Wk.refl _ _, ?_⟩
  show awp _ _ _ _ _ _ _
  refine awp_block ?_
  refine range_st s10 rfl Try.call29 (fun fn11 lp12 d13 l14 H15 hlp16 hd17 s18 => ?_)
  refine (alls1_ok (H0 := H15) b7 bs vL l (by omega) _ (fun (k : Nat) (H19 : AHeap) => ∃ (e : Nat), St H0 (none0) (Rd H0) H19 [(l14, lp12 .ready none), (d13, .mark), (b7, .cells true [.pointer (some ⟨bs, 0, none⟩)] 1), (b1, .cells true [.int .u64 ((e : Nat) : Int)] 1)] ∧ (e = sumS l k % 18446744073709551616)) (fun _ _ => False) ?h00 (fun _ _ _ ⟨e, s_, he⟩ k_ => ⟨e, s_.call0 k_, he⟩) ?hb ?round).mono ?after
  case h00 => exact ⟨_, s18, rfl⟩
  case hb =>
    rintro k H19 ⟨e, s20, he⟩
    exact ⟨s20.rd (j := 2) rfl, (s20.zrd hs_), s20.sls hL⟩
  case round =>
    rintro k H19  ⟨e, s20, he⟩ hx
    refine ylds_roundB hlp16 (s20.getj (j := 0) rfl) rfl rfl (fun l21 hF => ?_)
    refine awp_regs hF ?_
    refine x_new (fun b => .pointer (some ⟨b, 0, none⟩)) s20 (gyes_none rfl) (q_alloc (vs := [.int .u64 0, .int .u64 0]) 2 Try.zeroValue30 (by first | exact flat_scalar rfl | exact flat_agg rfl) rfl) rfl (by decide) (by simp [Op.operands, Call.operands]) (fun b22 H23 hb25 s24 => ?_)
    refine x_store [] hF s24 (by kernel_rfl) (gyes_none rfl) (j := 0) (v := .agg #[.int .u64 (((nth l k).1 : Nat) : Int), .int .u64 (((nth l k).2 : Nat) : Int)]) rfl Try.sizeOf30 rfl rfl rfl rfl rfl trivial (lcsA ⟨(lc_scalar rfl), (lc_scalar rfl), trivial⟩) (Nat.le_of_ble_eq_true rfl) trivial trivial rfl rfl (F' := [(b22, .cells true [.int .u64 (((nth l k).1 : Nat) : Int), .int .u64 (((nth l k).2 : Nat) : Int)] 2), (l14, lp12 .ready none), (d13, .mark), (b7, .cells true [.pointer (some ⟨bs, 0, none⟩)] 1), (b1, .cells true [.int .u64 ((e : Nat) : Int)] 1)]) rfl (fun H26 s27 => ⟨?_, ?_⟩)
    · exact trivial
    refine ⟨_, Wk.refl _ _, ?_⟩
    refine then_normal ?_
    refine ⟨_, _, rfl, s27.getj (j := 1) rfl, ?body⟩
    case body =>
      have s28 := s27.setAt (j := 1) rfl (lp12 .busy none)
      show awp _ _ _ _ _ _ _
      refine awp_block ?_
      refine awp_regt hF hM (by kernel_rfl) (by kernel_rfl) ?_
      refine dv (gyes_none rfl) (q_load (v := .int .u64 ((e : Nat) : Int)) Try.isAgg27 rfl (s28.rd (j := 4) rfl) rfl) rfl (by decide) (cok1 trivial) ?_
      refine dv (gyes_none rfl) (q_loadAgg Try.isAgg30 Try.sizeOf30 rfl (s28.rd (j := 0) rfl) (Nat.le_of_ble_eq_true rfl) rfl) rfl (by decide) (cok1 trivial) ?_
      refine dv (gyes_none rfl) (q_call0 Try.call10 rfl (splen_ok (nth l k) (hlw _ (nthN_mem hx)))) rfl (by decide) (cok2 trivial trivial) ?_
      refine dv (gyes_none rfl) (OpQ.cast (v' := .int .u64 (((e + ((nth l k).2 - (nth l k).1)) % 18446744073709551616 : Nat) : Int)) (q_int rfl rfl rfl) (congrArg _ (wrapU64 (e + ((nth l k).2 - (nth l k).1))))) rfl (by decide) (cok2 trivial trivial) ?_
      refine x_store1 [] hF s28 (by kernel_rfl) (gyes_none rfl) (j := 4) (v := .int .u64 (((e + ((nth l k).2 - (nth l k).1)) % 18446744073709551616 : Nat) : Int)) rfl Try.sizeOf27 rfl rfl rfl (lc_scalar rfl) (Nat.le_of_ble_eq_true rfl) trivial trivial rfl rfl (F' := [(b22, .cells true [.int .u64 (((nth l k).1 : Nat) : Int), .int .u64 (((nth l k).2 : Nat) : Int)] 2), (l14, lp12 .busy none), (d13, .mark), (b7, .cells true [.pointer (some ⟨bs, 0, none⟩)] 1), (b1, .cells true [.int .u64 (((e + ((nth l k).2 - (nth l k).1)) % 18446744073709551616 : Nat) : Int)] 1)]) rfl (fun H29 s30 => ⟨?_, ?_⟩)
      · exact trivial
      refine ⟨_, Wk.refl _ _, ?_⟩
      repeat (with_reducible first | refine then_ret ?_ | refine blk_ret ?_ | refine then_exit ?_ | refine blk_exit ?_ | refine blk_exit' (by decide) ?_ | refine blk_normal ?_ | refine then_normal ?_ | refine retq_ret ?_ | refine retq_normal ?_ | refine ng_normal ?_ | refine ng_ret ?_ | refine ng_exit ?_)
      exact ⟨(s30.forget 0).getj (j := 0) rfl, (fun _ => ⟨_, ((s30.forget 0).setAt (j := 0) rfl (lp12 .ready none)), (by show _ = (sumS l k + ((nth l k).2 - (nth l k).1)) % _; omega)⟩), (fun h => nomatch h)⟩
  case after =>
    rintro v H' ⟨rfl, hpost⟩
    replace hpost := hpost.resolve_right (fun ⟨_, _, h⟩ => h)
    obtain ⟨e, s31, he⟩ := hpost
    refine ⟨(by
        intro e he
        rcases List.mem_cons.1 he with rfl | he
        · exact s31.getj (j := 1) rfl
        · cases he), .inl ⟨s31.getj (j := 0) rfl, ?_⟩⟩
    have s33 := (s31.setAt (j := 0) rfl .none).forget 0
    refine ⟨_, Wk.refl _ _, ?_⟩
    show awp _ _ _ _ _ _ _
    refine awp_seq ?_
    refine awp_regs hF ?_
    refine dv (gyes_none rfl) (q_load (v := .int .u64 ((e : Nat) : Int)) Try.isAgg27 rfl (s33.rd (j := 2) rfl) rfl) rfl (by decide) (cok1 trivial) ?_
    refine dv (gyes_none rfl) (q_as (v := .int .u64 ((e : Nat) : Int)) rfl) rfl (by decide) (cok1 trivial) ?_
    refine ⟨_, Wk.refl _ _, ?_⟩
    show awp _ _ _ _ _ _ _
    refine awp_ret_wk ?_
    refine ⟨_, Wk.refl _ _, ?_⟩
    repeat (with_reducible first | refine then_ret ?_ | refine blk_ret ?_ | refine then_exit ?_ | refine blk_exit ?_ | refine blk_exit' (by decide) ?_ | refine blk_normal ?_ | refine then_normal ?_ | refine retq_ret ?_ | refine retq_normal ?_ | refine ng_normal ?_ | refine ng_ret ?_ | refine ng_exit ?_)
    exact ret_noneD (v := .int .u64 ((e : Nat) : Int)) rfl (s33.setAt (j := 0) rfl .none).kp (.tmp rfl .nil) rfl rfl ⟨by rw [he], rfl⟩
set_option maxRecDepth 100000 in
set_option maxHeartbeats 4000000 in
theorem fit_ok {H0 : AHeap} (bs : Nat) (vL : Value) (l : List Sp) (hs_ : Rd H0 bs [vL] 1) (hL : SlS spc 2 H0 vL l) (hl : l.length ≤ 1000000) (hlw : ∀ x ∈ l, SpW x) (n al : Nat) (iv : Sp) (hn : n < 18446744073709551616) (hal : al < 18446744073709551616) (hiv : SpW iv) : ACalls Try.prog 23 [.pointer (some ⟨bs, 0, none⟩), .int .u64 ((n : Nat) : Int), .int .u64 ((al : Nat) : Int), .agg #[.int .u64 ((iv.1 : Nat) : Int), .int .u64 ((iv.2 : Nat) : Int)]] H0 (Rets (.tuple #[.int .u64 (((fitV n al iv l).1 : Nat) : Int), .bool (fitV n al iv l).2]) H0) := by
  have hF : Wd Fence.wide := .inl rfl
  have hM : Try.prog.follows .mixedOrders = true := by kernel_rfl
  obtain ⟨hiv1, hiv2⟩ := hiv
  have s0 := St.begin H0
  refine acalls_st Try.func23 rfl Try.ntmps23 rfl ?_
  refine awp_seq ?_
  refine awp_regs hF ?_
  refine x_new (fun b => .pointer (some ⟨b, 0, none⟩)) s0 (gyes_none rfl) (q_box (v := .int .u64 ((n : Nat) : Int)) (vs := [.int .u64 ((n : Nat) : Int)]) 1 rfl (by exact trivial) rfl) rfl (by decide) (cok1 trivial) (fun b1 H2 hb4 s3 => ?_)
  refine x_new (fun b => .pointer (some ⟨b, 0, none⟩)) s3 (gyes_none rfl) (q_box (v := .int .u64 ((al : Nat) : Int)) (vs := [.int .u64 ((al : Nat) : Int)]) 1 rfl (by exact trivial) rfl) rfl (by decide) (cok1 trivial) (fun b5 H6 hb8 s7 => ?_)
  refine x_new (fun b => .pointer (some ⟨b, 0, none⟩)) s7 (gyes_none rfl) (q_box (v := .agg #[.int .u64 ((iv.1 : Nat) : Int), .int .u64 ((iv.2 : Nat) : Int)]) (vs := [.int .u64 ((iv.1 : Nat) : Int), .int .u64 ((iv.2 : Nat) : Int)]) 2 rfl (by exact trivial) rfl) rfl (by decide) (cok1 trivial) (fun b9 H10 hb12 s11 => ?_)
  refine x_new (fun b => .pointer (some ⟨b, 0, none⟩)) s11 (gyes_none rfl) (q_alloc (vs := [.int .u64 0]) 1 Try.zeroValue27 (by first | exact flat_scalar rfl | exact flat_agg rfl) rfl) rfl (by decide) (by simp [Op.operands, Call.operands]) (fun b13 H14 hb16 s15 => ?_)
  refine x_new (fun b => .pointer (some ⟨b, 0, none⟩)) s15 (gyes_none rfl) (q_alloc (vs := [.bool false]) 1 Try.zeroValue4 (by first | exact flat_scalar rfl | exact flat_agg rfl) rfl) rfl (by decide) (by simp [Op.operands, Call.operands]) (fun b17 H18 hb20 s19 => ?_)
  refine ⟨_, Wk.refl _ _, ?_⟩
  show awp _ _ _ _ _ _ _
  refine awp_seq ?_
  refine awp_seq ?_
  refine awp_regs hF ?_
  refine dv (gyes_none rfl) (q_mv (v := .pointer (some ⟨bs, 0, none⟩)) rfl) rfl (by decide) (cok1 trivial) ?_
  refine dv (gyes_none rfl) (q_ptrnil_f Try.underlying49 rfl (Rd.live (s19.zrd hs_)) rfl) rfl (by decide) (cok2 trivial (cconst rfl)) ?_
  refine dv (gyes_none rfl) (q_mv (v := .bool false) rfl) rfl (by decide) (cok1 trivial) ?_
  refine dv (gyes_some rfl rfl) (q_load (v := .int .u64 ((n : Nat) : Int)) Try.isAgg27 rfl (s19.rd (j := 4) rfl) rfl) rfl (by decide) (cok1 trivial) ?_
  refine dvb (gyes_some rfl rfl) (q_int rfl rfl rfl) rfl (by decide) (cok2 trivial (cconst rfl)) (fun c1 => ?_) (fun c1 => ?_)
  ·
    replace c1 := eq_of_beq c1
    refine dv (gyes_none rfl) (q_pf (v := .bool true) rfl rfl) rfl (by decide) (call_ok rfl) ?_
    refine dv (gyes_none rfl) (q_mv (v := .bool true) rfl) rfl (by decide) (cok1 trivial) ?_
    refine dno rfl (.inl rfl) rfl (by decide) ?_
    refine dno rfl (.inl rfl) rfl (by decide) ?_
    refine dv (gyes_none rfl) (q_pt (v := .bool true) rfl rfl) rfl (by decide) (call_ok rfl) ?_
    refine ⟨_, Wk.refl _ _, ?_⟩
    show awp _ _ _ _ _ _ _
    refine awp_cond_t rfl ?_
    refine awp_seq ?_
    refine awp_regs hF ?_
    refine x_store1 [] hF s19 (by kernel_rfl) (gyes_none rfl) (j := 1) (v := .int .u64 0) rfl Try.sizeOf27 rfl rfl rfl (lc_scalar rfl) (Nat.le_of_ble_eq_true rfl) trivial (cconst rfl) rfl rfl (F' := [(b17, .cells true [.bool false] 1), (b13, .cells true [.int .u64 0] 1), (b9, .cells true [.int .u64 ((iv.1 : Nat) : Int), .int .u64 ((iv.2 : Nat) : Int)] 2), (b5, .cells true [.int .u64 ((al : Nat) : Int)] 1), (b1, .cells true [.int .u64 ((n : Nat) : Int)] 1)]) rfl (fun H21 s22 => ⟨?_, ?_⟩)
    · exact trivial
    refine x_store1 [] hF s22 (by kernel_rfl) (gyes_none rfl) (j := 0) (v := .bool false) rfl Try.sizeOf4 rfl rfl rfl (lc_scalar rfl) (Nat.le_of_ble_eq_true rfl) trivial (cconst rfl) rfl rfl (F' := [(b17, .cells true [.bool false] 1), (b13, .cells true [.int .u64 0] 1), (b9, .cells true [.int .u64 ((iv.1 : Nat) : Int), .int .u64 ((iv.2 : Nat) : Int)] 2), (b5, .cells true [.int .u64 ((al : Nat) : Int)] 1), (b1, .cells true [.int .u64 ((n : Nat) : Int)] 1)]) rfl (fun H23 s24 => ⟨?_, ?_⟩)
    · exact trivial
    refine ⟨_, Wk.refl _ _, ?_⟩
    show awp _ _ _ _ _ _ _
    refine awp_ret_wk ?_
    refine ⟨_, Wk.refl _ _, ?_⟩
    repeat (with_reducible first | refine then_ret ?_ | refine blk_ret ?_ | refine then_exit ?_ | refine blk_exit ?_ | refine blk_exit' (by decide) ?_ | refine blk_normal ?_ | refine then_normal ?_ | refine retq_ret ?_ | refine retq_normal ?_ | refine ng_normal ?_ | refine ng_ret ?_ | refine ng_exit ?_)
    exact ret_none (v := .tuple #[.int .u64 0, .bool false]) rfl s24.kp (.cell rfl Try.isAgg27 (s24.rd (j := 1) rfl) rfl (.cell rfl Try.isAgg4 (s24.rd (j := 0) rfl) rfl .nil)) rfl rfl ⟨by rw [fitV_z (by omega)]; first | done | rfl, rfl⟩
  ·
    replace c1 := ne_of_beq_false c1
    refine dv (gyes_none rfl) (q_pf (v := .bool false) rfl rfl) rfl (by decide) (call_ok rfl) ?_
    refine dv (gyes_none rfl) (q_mv (v := .bool false) rfl) rfl (by decide) (cok1 trivial) ?_
    refine dv (gyes_some rfl rfl) (q_load (v := .int .u64 ((al : Nat) : Int)) Try.isAgg27 rfl (s19.rd (j := 3) rfl) rfl) rfl (by decide) (cok1 trivial) ?_
    refine dvb (gyes_some rfl rfl) (q_int rfl rfl rfl) rfl (by decide) (cok2 trivial (cconst rfl)) (fun c2 => ?_) (fun c2 => ?_)
    ·
      replace c2 := eq_of_beq c2
      refine dv (gyes_none rfl) (q_pf (v := .bool true) rfl rfl) rfl (by decide) (call_ok rfl) ?_
      refine ⟨_, Wk.refl _ _, ?_⟩
      show awp _ _ _ _ _ _ _
      refine awp_cond_t rfl ?_
      refine awp_seq ?_
      refine awp_regs hF ?_
      refine x_store1 [] hF s19 (by kernel_rfl) (gyes_none rfl) (j := 1) (v := .int .u64 0) rfl Try.sizeOf27 rfl rfl rfl (lc_scalar rfl) (Nat.le_of_ble_eq_true rfl) trivial (cconst rfl) rfl rfl (F' := [(b17, .cells true [.bool false] 1), (b13, .cells true [.int .u64 0] 1), (b9, .cells true [.int .u64 ((iv.1 : Nat) : Int), .int .u64 ((iv.2 : Nat) : Int)] 2), (b5, .cells true [.int .u64 ((al : Nat) : Int)] 1), (b1, .cells true [.int .u64 ((n : Nat) : Int)] 1)]) rfl (fun H25 s26 => ⟨?_, ?_⟩)
      · exact trivial
      refine x_store1 [] hF s26 (by kernel_rfl) (gyes_none rfl) (j := 0) (v := .bool false) rfl Try.sizeOf4 rfl rfl rfl (lc_scalar rfl) (Nat.le_of_ble_eq_true rfl) trivial (cconst rfl) rfl rfl (F' := [(b17, .cells true [.bool false] 1), (b13, .cells true [.int .u64 0] 1), (b9, .cells true [.int .u64 ((iv.1 : Nat) : Int), .int .u64 ((iv.2 : Nat) : Int)] 2), (b5, .cells true [.int .u64 ((al : Nat) : Int)] 1), (b1, .cells true [.int .u64 ((n : Nat) : Int)] 1)]) rfl (fun H27 s28 => ⟨?_, ?_⟩)
      · exact trivial
      refine ⟨_, Wk.refl _ _, ?_⟩
      show awp _ _ _ _ _ _ _
      refine awp_ret_wk ?_
      refine ⟨_, Wk.refl _ _, ?_⟩
      repeat (with_reducible first | refine then_ret ?_ | refine blk_ret ?_ | refine then_exit ?_ | refine blk_exit ?_ | refine blk_exit' (by decide) ?_ | refine blk_normal ?_ | refine then_normal ?_ | refine retq_ret ?_ | refine retq_normal ?_ | refine ng_normal ?_ | refine ng_ret ?_ | refine ng_exit ?_)
      exact ret_none (v := .tuple #[.int .u64 0, .bool false]) rfl s28.kp (.cell rfl Try.isAgg27 (s28.rd (j := 1) rfl) rfl (.cell rfl Try.isAgg4 (s28.rd (j := 0) rfl) rfl .nil)) rfl rfl ⟨by rw [fitV_z (by omega)]; first | done | rfl, rfl⟩
    ·
      replace c2 := ne_of_beq_false c2
      refine dv (gyes_none rfl) (q_pf (v := .bool false) rfl rfl) rfl (by decide) (call_ok rfl) ?_
      refine ⟨_, Wk.refl _ _, ?_⟩
      show awp _ _ _ _ _ _ _
      refine awp_cond_f rfl ?_
      refine awp_skip_wk ?_
      refine ⟨_, Wk.refl _ _, ?_⟩
      show awp _ _ _ _ _ _ _
      refine awp_seq ?_
      refine awp_regs hF ?_
      refine dv (gyes_none rfl) (q_field Try.underlying30 rfl Try.sizeOf27 rfl (s19.rd (j := 2) rfl)) rfl (by decide) (cok1 trivial) ?_
      refine dv (gyes_none rfl) (q_load (v := .int .u64 ((iv.1 : Nat) : Int)) Try.isAgg27 rfl (s19.rd (j := 2) rfl) rfl) rfl (by decide) (cok1 trivial) ?_
      refine dv (gyes_none rfl) (q_load (v := .int .u64 ((al : Nat) : Int)) Try.isAgg27 rfl (s19.rd (j := 3) rfl) rfl) rfl (by decide) (cok1 trivial) ?_
      refine dv (gyes_none rfl) (q_call0 Try.call31 rfl (sup_ok iv.1 al (by first | exact hiv1 | exact (hlw _ (nthN_mem hx)).2) hal (by omega))) rfl (by decide) (call_ok rfl) ?_
      refine dv (gyes_none rfl) (q_mv (v := .tuple #[.int .u64 (((upV iv.1 al).1 : Nat) : Int), .bool ((upV iv.1 al).2)]) rfl) rfl (by decide) (cok1 trivial) ?_
      refine dv (gyes_none rfl) (q_extract (v := .int .u64 (((upV iv.1 al).1 : Nat) : Int)) rfl rfl) rfl (by decide) (cok1 trivial) ?_
      refine dv (gyes_none rfl) (q_extract (v := .bool ((upV iv.1 al).2)) rfl rfl) rfl (by decide) (cok1 trivial) ?_
      refine x_new (fun b => .pointer (some ⟨b, 0, none⟩)) s19 (gyes_none rfl) (q_alloc (vs := [.int .u64 0]) 1 Try.zeroValue27 (by first | exact flat_scalar rfl | exact flat_agg rfl) rfl) rfl (by decide) (by simp [Op.operands, Call.operands]) (fun b29 H30 hb32 s31 => ?_)
      refine x_new (fun b => .pointer (some ⟨b, 0, none⟩)) s31 (gyes_none rfl) (q_alloc (vs := [.bool false]) 1 Try.zeroValue4 (by first | exact flat_scalar rfl | exact flat_agg rfl) rfl) rfl (by decide) (by simp [Op.operands, Call.operands]) (fun b33 H34 hb36 s35 => ?_)
      refine x_store1 [] hF s35 (by kernel_rfl) (gyes_none rfl) (j := 1) (v := .int .u64 (((upV iv.1 al).1 : Nat) : Int)) rfl Try.sizeOf27 rfl rfl rfl (lc_scalar rfl) (Nat.le_of_ble_eq_true rfl) trivial trivial rfl rfl (F' := [(b33, .cells true [.bool false] 1), (b29, .cells true [.int .u64 (((upV iv.1 al).1 : Nat) : Int)] 1), (b17, .cells true [.bool false] 1), (b13, .cells true [.int .u64 0] 1), (b9, .cells true [.int .u64 ((iv.1 : Nat) : Int), .int .u64 ((iv.2 : Nat) : Int)] 2), (b5, .cells true [.int .u64 ((al : Nat) : Int)] 1), (b1, .cells true [.int .u64 ((n : Nat) : Int)] 1)]) rfl (fun H37 s38 => ⟨?_, ?_⟩)
      · exact trivial
      refine x_store1 [] hF s38 (by kernel_rfl) (gyes_none rfl) (j := 0) (v := .bool ((upV iv.1 al).2)) rfl Try.sizeOf4 rfl rfl rfl (lc_scalar rfl) (Nat.le_of_ble_eq_true rfl) trivial trivial rfl rfl (F' := [(b33, .cells true [.bool ((upV iv.1 al).2)] 1), (b29, .cells true [.int .u64 (((upV iv.1 al).1 : Nat) : Int)] 1), (b17, .cells true [.bool false] 1), (b13, .cells true [.int .u64 0] 1), (b9, .cells true [.int .u64 ((iv.1 : Nat) : Int), .int .u64 ((iv.2 : Nat) : Int)] 2), (b5, .cells true [.int .u64 ((al : Nat) : Int)] 1), (b1, .cells true [.int .u64 ((n : Nat) : Int)] 1)]) rfl (fun H39 s40 => ⟨?_, ?_⟩)
      · exact trivial
      refine ⟨_, Wk.refl _ _, ?_⟩
      show awp _ _ _ _ _ _ _
      refine awp_seq ?_
      refine awp_seq ?_
      refine awp_regs hF ?_
      refine dv (gyes_none rfl) (q_mv (v := .pointer (some ⟨bs, 0, none⟩)) rfl) rfl (by decide) (cok1 trivial) ?_
      refine x_call [] hF (by kernel_rfl) (gyes_none rfl) Try.call11 rfl (args := [.pointer (some ⟨bs, 0, none⟩)]) rfl (all_ok bs _ (s40.zrd hs_)) (show _ < _ by decide) (call_ok rfl) rfl rfl (fun _ _ _ _ hd => by cases hd) ?_
      rintro _ H42 ⟨b41, rfl, hn43⟩
      have s44 := s40.callL hn43
      refine ⟨trivial, ?_⟩
      show dList _ _ _ _ _ _ _ _ _ _
      refine ⟨_, Wk.refl _ _, ?_⟩
      show awp _ _ _ _ _ _ _
      refine awp_block ?_
      refine range_st s44 rfl Try.call29 (fun fn45 lp46 d47 l48 H49 hlp50 hd51 s52 => ?_)
      refine (alls1_ok (H0 := H49) b41 bs vL l (by omega) _ (fun (k : Nat) (H53 : AHeap) => ∃ (a : Nat) (o : Bool), St H0 (none0) (Rd H0) H53 [(l48, lp46 .ready none), (d47, .mark), (b41, .cells true [.pointer (some ⟨bs, 0, none⟩)] 1), (b33, .cells true [.bool o] 1), (b29, .cells true [.int .u64 ((a : Nat) : Int)] 1), (b17, .cells true [.bool false] 1), (b13, .cells true [.int .u64 0] 1), (b9, .cells true [.int .u64 ((iv.1 : Nat) : Int), .int .u64 ((iv.2 : Nat) : Int)] 2), (b5, .cells true [.int .u64 ((al : Nat) : Int)] 1), (b1, .cells true [.int .u64 ((n : Nat) : Int)] 1)] ∧ ((a, o) = fitS n al iv l k ∧ a < 18446744073709551616) ∧ (∀ j, j < k → stopS n iv (fitS n al iv l j) = false)) (fun (k' : Nat) (H53 : AHeap) => ∃ (a : Nat) (o : Bool), St H0 (none0) (Rd H0) H53 [(l48, lp46 (.done) (some .ret)), (d47, .mark), (b41, .cells true [.pointer (some ⟨bs, 0, none⟩)] 1), (b33, .cells true [.bool o] 1), (b29, .cells true [.int .u64 ((a : Nat) : Int)] 1), (b17, .cells true [.bool false] 1), (b13, .cells true [.int .u64 0] 1), (b9, .cells true [.int .u64 ((iv.1 : Nat) : Int), .int .u64 ((iv.2 : Nat) : Int)] 2), (b5, .cells true [.int .u64 ((al : Nat) : Int)] 1), (b1, .cells true [.int .u64 ((n : Nat) : Int)] 1)] ∧ (fitV n al iv l = (0, false))) ?h00 (fun _ _ _ ⟨a, o, s_, ha, hs⟩ k_ => ⟨a, o, s_.call0 k_, ha, hs⟩) ?hb ?round).mono ?after
      case h00 => exact ⟨(upV iv.1 al).1, (upV iv.1 al).2, s52, ⟨rfl, upV_lt hiv1⟩, fun j h => absurd h (Nat.not_lt_zero _)⟩
      case hb =>
        rintro k H53 ⟨a, o, s54, ha, hs⟩
        exact ⟨s54.rd (j := 2) rfl, (s54.zrd hs_), s54.sls hL⟩
      case round =>
        rintro k H53  ⟨a, o, s54, ha, hs⟩ hx
        refine ylds_roundB hlp50 (s54.getj (j := 0) rfl) rfl rfl (fun l55 hF => ?_)
        refine awp_regs hF ?_
        refine x_new (fun b => .pointer (some ⟨b, 0, none⟩)) s54 (gyes_none rfl) (q_alloc (vs := [.int .u64 0, .int .u64 0]) 2 Try.zeroValue30 (by first | exact flat_scalar rfl | exact flat_agg rfl) rfl) rfl (by decide) (by simp [Op.operands, Call.operands]) (fun b56 H57 hb59 s58 => ?_)
        refine x_store [] hF s58 (by kernel_rfl) (gyes_none rfl) (j := 0) (v := .agg #[.int .u64 (((nth l k).1 : Nat) : Int), .int .u64 (((nth l k).2 : Nat) : Int)]) rfl Try.sizeOf30 rfl rfl rfl rfl rfl trivial (lcsA ⟨(lc_scalar rfl), (lc_scalar rfl), trivial⟩) (Nat.le_of_ble_eq_true rfl) trivial trivial rfl rfl (F' := [(b56, .cells true [.int .u64 (((nth l k).1 : Nat) : Int), .int .u64 (((nth l k).2 : Nat) : Int)] 2), (l48, lp46 .ready none), (d47, .mark), (b41, .cells true [.pointer (some ⟨bs, 0, none⟩)] 1), (b33, .cells true [.bool o] 1), (b29, .cells true [.int .u64 ((a : Nat) : Int)] 1), (b17, .cells true [.bool false] 1), (b13, .cells true [.int .u64 0] 1), (b9, .cells true [.int .u64 ((iv.1 : Nat) : Int), .int .u64 ((iv.2 : Nat) : Int)] 2), (b5, .cells true [.int .u64 ((al : Nat) : Int)] 1), (b1, .cells true [.int .u64 ((n : Nat) : Int)] 1)]) rfl (fun H60 s61 => ⟨?_, ?_⟩)
        · exact trivial
        refine ⟨_, Wk.refl _ _, ?_⟩
        refine then_normal ?_
        refine ⟨_, _, rfl, s61.getj (j := 1) rfl, ?body⟩
        case body =>
          have s62 := s61.setAt (j := 1) rfl (lp46 .busy none)
          show awp _ _ _ _ _ _ _
          refine awp_block ?_
          refine awp_seq ?_
          refine awp_seq ?_
          refine awp_regs hF ?_
          refine dvb (gyes_none rfl) (q_load (v := .bool o) Try.isAgg4 rfl (s62.rd (j := 4) rfl) rfl) rfl (by decide) (cok1 trivial) (fun c3 => ?_) (fun c3 => ?_)
          ·
            refine dv (gyes_none rfl) (q_not (b := true) rfl) rfl (by decide) (cok1 trivial) ?_
            refine dv (gyes_none rfl) (q_mv (v := .bool false) rfl) rfl (by decide) (cok1 trivial) ?_
            refine dv (gyes_some rfl rfl) (q_load (v := .int .u64 ((a : Nat) : Int)) Try.isAgg27 rfl (s62.rd (j := 5) rfl) rfl) rfl (by decide) (cok1 trivial) ?_
            refine dv (gyes_some rfl rfl) (q_field Try.underlying30 rfl Try.sizeOf27 rfl (s62.rd (j := 8) rfl)) rfl (by decide) (cok1 trivial) ?_
            refine dv (gyes_some rfl rfl) (q_load (v := .int .u64 ((iv.2 : Nat) : Int)) Try.isAgg27 rfl (s62.rd (j := 8) rfl) rfl) rfl (by decide) (cok1 trivial) ?_
            refine dvb (gyes_some rfl rfl) (q_int rfl rfl rfl) rfl (by decide) (cok2 trivial trivial) (fun c4 => ?_) (fun c4 => ?_)
            ·
              replace c4 := of_decide_eq_true c4
              refine dv (gyes_none rfl) (q_pf (v := .bool true) rfl rfl) rfl (by decide) (call_ok rfl) ?_
              refine dv (gyes_none rfl) (q_mv (v := .bool true) rfl) rfl (by decide) (cok1 trivial) ?_
              refine dno rfl (.inl rfl) rfl (by decide) ?_
              refine dno rfl (.inl rfl) rfl (by decide) ?_
              refine dno rfl (.inl rfl) rfl (by decide) ?_
              refine dno rfl (.inl rfl) rfl (by decide) ?_
              refine dno rfl (.inl rfl) rfl (by decide) ?_
              refine dno rfl (.inl rfl) rfl (by decide) ?_
              refine dv (gyes_none rfl) (q_pt (v := .bool true) rfl rfl) rfl (by decide) (call_ok rfl) ?_
              refine ⟨_, Wk.refl _ _, ?_⟩
              show awp _ _ _ _ _ _ _
              refine awp_cond_t rfl ?_
              refine awp_seq ?_
              refine awp_regs hF ?_
              refine x_store1 [] hF s62 (by kernel_rfl) (gyes_none rfl) (j := 7) (v := .int .u64 0) rfl Try.sizeOf27 rfl rfl rfl (lc_scalar rfl) (Nat.le_of_ble_eq_true rfl) trivial (cconst rfl) rfl rfl (F' := [(b56, .cells true [.int .u64 (((nth l k).1 : Nat) : Int), .int .u64 (((nth l k).2 : Nat) : Int)] 2), (l48, lp46 .busy none), (d47, .mark), (b41, .cells true [.pointer (some ⟨bs, 0, none⟩)] 1), (b33, .cells true [.bool o] 1), (b29, .cells true [.int .u64 ((a : Nat) : Int)] 1), (b17, .cells true [.bool false] 1), (b13, .cells true [.int .u64 0] 1), (b9, .cells true [.int .u64 ((iv.1 : Nat) : Int), .int .u64 ((iv.2 : Nat) : Int)] 2), (b5, .cells true [.int .u64 ((al : Nat) : Int)] 1), (b1, .cells true [.int .u64 ((n : Nat) : Int)] 1)]) rfl (fun H63 s64 => ⟨?_, ?_⟩)
              · exact trivial
              refine x_store1 [] hF s64 (by kernel_rfl) (gyes_none rfl) (j := 6) (v := .bool false) rfl Try.sizeOf4 rfl rfl rfl (lc_scalar rfl) (Nat.le_of_ble_eq_true rfl) trivial (cconst rfl) rfl rfl (F' := [(b56, .cells true [.int .u64 (((nth l k).1 : Nat) : Int), .int .u64 (((nth l k).2 : Nat) : Int)] 2), (l48, lp46 .busy none), (d47, .mark), (b41, .cells true [.pointer (some ⟨bs, 0, none⟩)] 1), (b33, .cells true [.bool o] 1), (b29, .cells true [.int .u64 ((a : Nat) : Int)] 1), (b17, .cells true [.bool false] 1), (b13, .cells true [.int .u64 0] 1), (b9, .cells true [.int .u64 ((iv.1 : Nat) : Int), .int .u64 ((iv.2 : Nat) : Int)] 2), (b5, .cells true [.int .u64 ((al : Nat) : Int)] 1), (b1, .cells true [.int .u64 ((n : Nat) : Int)] 1)]) rfl (fun H65 s66 => ⟨?_, ?_⟩)
              · exact trivial
              refine ⟨_, Wk.refl _ _, ?_⟩
              show awp _ _ _ _ _ _ _
              refine awp_ret_wk ?_
              refine ⟨_, Wk.refl _ _, ?_⟩
              repeat (with_reducible first | refine then_ret ?_ | refine blk_ret ?_ | refine then_exit ?_ | refine blk_exit ?_ | refine blk_exit' (by decide) ?_ | refine blk_normal ?_ | refine then_normal ?_ | refine retq_ret ?_ | refine retq_normal ?_ | refine ng_normal ?_ | refine ng_ret ?_ | refine ng_exit ?_)
              exact ⟨(s66.forget 0).getj (j := 0) rfl, (fun h => nomatch h), (fun _ => ⟨_, _, ((s66.forget 0).setAt (j := 0) rfl (lp46 .done (some .ret))), (fitV_s (Nat.le_of_lt hx) (by rw [← ha.1]; first | exact stop_o (by assumption) | exact stop_a (by omega) | exact stop_n (by omega)))⟩)⟩
            ·
              replace c4 := of_decide_eq_false c4
              refine dv (gyes_none rfl) (q_pf (v := .bool false) rfl rfl) rfl (by decide) (call_ok rfl) ?_
              refine dv (gyes_none rfl) (q_mv (v := .bool false) rfl) rfl (by decide) (cok1 trivial) ?_
              refine dv (gyes_some rfl rfl) (q_field Try.underlying30 rfl Try.sizeOf27 rfl (s62.rd (j := 8) rfl)) rfl (by decide) (cok1 trivial) ?_
              refine dv (gyes_some rfl rfl) (q_load (v := .int .u64 ((iv.2 : Nat) : Int)) Try.isAgg27 rfl (s62.rd (j := 8) rfl) rfl) rfl (by decide) (cok1 trivial) ?_
              refine dv (gyes_some rfl rfl) (q_load (v := .int .u64 ((a : Nat) : Int)) Try.isAgg27 rfl (s62.rd (j := 5) rfl) rfl) rfl (by decide) (cok1 trivial) ?_
              refine dv (gyes_some rfl rfl) (OpQ.cast (v' := .int .u64 ((iv.2 - a : Nat) : Int)) (q_int rfl rfl rfl) (congrArg _ ((u64_in (by omega)).trans (by omega)))) rfl (by decide) (cok2 trivial trivial) ?_
              refine dv (gyes_some rfl rfl) (q_load (v := .int .u64 ((n : Nat) : Int)) Try.isAgg27 rfl (s62.rd (j := 10) rfl) rfl) rfl (by decide) (cok1 trivial) ?_
              refine dvb (gyes_some rfl rfl) (q_int rfl rfl rfl) rfl (by decide) (cok2 trivial trivial) (fun c5 => ?_) (fun c5 => ?_)
              ·
                replace c5 := of_decide_eq_true c5
                refine dv (gyes_none rfl) (q_pf (v := .bool true) rfl rfl) rfl (by decide) (call_ok rfl) ?_
                refine ⟨_, Wk.refl _ _, ?_⟩
                show awp _ _ _ _ _ _ _
                refine awp_cond_t rfl ?_
                refine awp_seq ?_
                refine awp_regs hF ?_
                refine x_store1 [] hF s62 (by kernel_rfl) (gyes_none rfl) (j := 7) (v := .int .u64 0) rfl Try.sizeOf27 rfl rfl rfl (lc_scalar rfl) (Nat.le_of_ble_eq_true rfl) trivial (cconst rfl) rfl rfl (F' := [(b56, .cells true [.int .u64 (((nth l k).1 : Nat) : Int), .int .u64 (((nth l k).2 : Nat) : Int)] 2), (l48, lp46 .busy none), (d47, .mark), (b41, .cells true [.pointer (some ⟨bs, 0, none⟩)] 1), (b33, .cells true [.bool o] 1), (b29, .cells true [.int .u64 ((a : Nat) : Int)] 1), (b17, .cells true [.bool false] 1), (b13, .cells true [.int .u64 0] 1), (b9, .cells true [.int .u64 ((iv.1 : Nat) : Int), .int .u64 ((iv.2 : Nat) : Int)] 2), (b5, .cells true [.int .u64 ((al : Nat) : Int)] 1), (b1, .cells true [.int .u64 ((n : Nat) : Int)] 1)]) rfl (fun H67 s68 => ⟨?_, ?_⟩)
                · exact trivial
                refine x_store1 [] hF s68 (by kernel_rfl) (gyes_none rfl) (j := 6) (v := .bool false) rfl Try.sizeOf4 rfl rfl rfl (lc_scalar rfl) (Nat.le_of_ble_eq_true rfl) trivial (cconst rfl) rfl rfl (F' := [(b56, .cells true [.int .u64 (((nth l k).1 : Nat) : Int), .int .u64 (((nth l k).2 : Nat) : Int)] 2), (l48, lp46 .busy none), (d47, .mark), (b41, .cells true [.pointer (some ⟨bs, 0, none⟩)] 1), (b33, .cells true [.bool o] 1), (b29, .cells true [.int .u64 ((a : Nat) : Int)] 1), (b17, .cells true [.bool false] 1), (b13, .cells true [.int .u64 0] 1), (b9, .cells true [.int .u64 ((iv.1 : Nat) : Int), .int .u64 ((iv.2 : Nat) : Int)] 2), (b5, .cells true [.int .u64 ((al : Nat) : Int)] 1), (b1, .cells true [.int .u64 ((n : Nat) : Int)] 1)]) rfl (fun H69 s70 => ⟨?_, ?_⟩)
                · exact trivial
                refine ⟨_, Wk.refl _ _, ?_⟩
                show awp _ _ _ _ _ _ _
                refine awp_ret_wk ?_
                refine ⟨_, Wk.refl _ _, ?_⟩
                repeat (with_reducible first | refine then_ret ?_ | refine blk_ret ?_ | refine then_exit ?_ | refine blk_exit ?_ | refine blk_exit' (by decide) ?_ | refine blk_normal ?_ | refine then_normal ?_ | refine retq_ret ?_ | refine retq_normal ?_ | refine ng_normal ?_ | refine ng_ret ?_ | refine ng_exit ?_)
                exact ⟨(s70.forget 0).getj (j := 0) rfl, (fun h => nomatch h), (fun _ => ⟨_, _, ((s70.forget 0).setAt (j := 0) rfl (lp46 .done (some .ret))), (fitV_s (Nat.le_of_lt hx) (by rw [← ha.1]; first | exact stop_o (by assumption) | exact stop_a (by omega) | exact stop_n (by omega)))⟩)⟩
              ·
                replace c5 := of_decide_eq_false c5
                refine dv (gyes_none rfl) (q_pf (v := .bool false) rfl rfl) rfl (by decide) (call_ok rfl) ?_
                refine ⟨_, Wk.refl _ _, ?_⟩
                show awp _ _ _ _ _ _ _
                refine awp_cond_f rfl ?_
                refine awp_skip_wk ?_
                refine ⟨_, Wk.refl _ _, ?_⟩
                show awp _ _ _ _ _ _ _
                refine awp_seq ?_
                have hsf : stopS n iv (fitS n al iv l k) = false := by rw [← ha.1]; exact stop_f (by assumption) (by omega) (by omega)
                refine awp_regs hF ?_
                refine dv (gyes_none rfl) (q_load (v := .int .u64 ((a : Nat) : Int)) Try.isAgg27 rfl (s62.rd (j := 5) rfl) rfl) rfl (by decide) (cok1 trivial) ?_
                refine dv (gyes_none rfl) (q_load (v := .int .u64 ((a : Nat) : Int)) Try.isAgg27 rfl (s62.rd (j := 5) rfl) rfl) rfl (by decide) (cok1 trivial) ?_
                refine dv (gyes_none rfl) (q_load (v := .int .u64 ((n : Nat) : Int)) Try.isAgg27 rfl (s62.rd (j := 10) rfl) rfl) rfl (by decide) (cok1 trivial) ?_
                refine dv (gyes_none rfl) (OpQ.cast (v' := .int .u64 (((a + n) % 18446744073709551616 : Nat) : Int)) (q_int rfl rfl rfl) (congrArg _ (wrapU64 (a + n)))) rfl (by decide) (cok2 trivial trivial) ?_
                refine dv (gyes_none rfl) (q_buildL (ds := [.int .u64 ((a : Nat) : Int), .int .u64 (((a + n) % 18446744073709551616 : Nat) : Int)]) [(0, 1), (1, 1)] [.int .u64 ((a : Nat) : Int), .int .u64 (((a + n) % 18446744073709551616 : Nat) : Int)] Try.underlying30 Try.zeroValue30 (by first | exact flat_agg rfl | exact flat_scalar rfl) (by kernel_rfl) ⟨rfl, rfl, trivial⟩ (lvsC (by exact trivial) (lvsC (by exact trivial) lvs0)) rfl) rfl (by decide) (cok2 trivial trivial) ?_
                refine dv (gyes_none rfl) (q_loadAgg Try.isAgg30 Try.sizeOf30 rfl (s62.rd (j := 0) rfl) (Nat.le_of_ble_eq_true rfl) rfl) rfl (by decide) (cok1 trivial) ?_
                refine dvb (gyes_none rfl) (q_call0 Try.call17 rfl (spmeets_ok (a, (a + n) % 18446744073709551616) (nth l k))) rfl (by decide) (call_ok rfl) (fun c6 => ?_) (fun c6 => ?_)
                ·
                  refine ⟨_, Wk.refl _ _, ?_⟩
                  show awp _ _ _ _ _ _ _
                  refine awp_cond_t rfl ?_
                  refine awp_regs hF ?_
                  refine dv (gyes_none rfl) (q_field Try.underlying30 rfl Try.sizeOf27 rfl (s62.rd (j := 0) rfl)) rfl (by decide) (cok1 trivial) ?_
                  refine dv (gyes_none rfl) (q_load (v := .int .u64 (((nth l k).2 : Nat) : Int)) Try.isAgg27 rfl (s62.rd (j := 0) rfl) rfl) rfl (by decide) (cok1 trivial) ?_
                  refine dv (gyes_none rfl) (q_load (v := .int .u64 ((al : Nat) : Int)) Try.isAgg27 rfl (s62.rd (j := 9) rfl) rfl) rfl (by decide) (cok1 trivial) ?_
                  refine dv (gyes_none rfl) (q_call0 Try.call31 rfl (sup_ok ((nth l k).2) al (by first | exact hiv1 | exact (hlw _ (nthN_mem hx)).2) hal (by omega))) rfl (by decide) (call_ok rfl) ?_
                  refine dv (gyes_none rfl) (q_mv (v := .tuple #[.int .u64 (((upV ((nth l k).2) al).1 : Nat) : Int), .bool ((upV ((nth l k).2) al).2)]) rfl) rfl (by decide) (cok1 trivial) ?_
                  refine dv (gyes_none rfl) (q_extract (v := .int .u64 (((upV ((nth l k).2) al).1 : Nat) : Int)) rfl rfl) rfl (by decide) (cok1 trivial) ?_
                  refine dv (gyes_none rfl) (q_extract (v := .bool ((upV ((nth l k).2) al).2)) rfl rfl) rfl (by decide) (cok1 trivial) ?_
                  refine x_store1 [] hF s62 (by kernel_rfl) (gyes_none rfl) (j := 5) (v := .int .u64 (((upV ((nth l k).2) al).1 : Nat) : Int)) rfl Try.sizeOf27 rfl rfl rfl (lc_scalar rfl) (Nat.le_of_ble_eq_true rfl) trivial trivial rfl rfl (F' := [(b56, .cells true [.int .u64 (((nth l k).1 : Nat) : Int), .int .u64 (((nth l k).2 : Nat) : Int)] 2), (l48, lp46 .busy none), (d47, .mark), (b41, .cells true [.pointer (some ⟨bs, 0, none⟩)] 1), (b33, .cells true [.bool o] 1), (b29, .cells true [.int .u64 (((upV ((nth l k).2) al).1 : Nat) : Int)] 1), (b17, .cells true [.bool false] 1), (b13, .cells true [.int .u64 0] 1), (b9, .cells true [.int .u64 ((iv.1 : Nat) : Int), .int .u64 ((iv.2 : Nat) : Int)] 2), (b5, .cells true [.int .u64 ((al : Nat) : Int)] 1), (b1, .cells true [.int .u64 ((n : Nat) : Int)] 1)]) rfl (fun H71 s72 => ⟨?_, ?_⟩)
                  · exact trivial
                  refine x_store1 [] hF s72 (by kernel_rfl) (gyes_none rfl) (j := 4) (v := .bool ((upV ((nth l k).2) al).2)) rfl Try.sizeOf4 rfl rfl rfl (lc_scalar rfl) (Nat.le_of_ble_eq_true rfl) trivial trivial rfl rfl (F' := [(b56, .cells true [.int .u64 (((nth l k).1 : Nat) : Int), .int .u64 (((nth l k).2 : Nat) : Int)] 2), (l48, lp46 .busy none), (d47, .mark), (b41, .cells true [.pointer (some ⟨bs, 0, none⟩)] 1), (b33, .cells true [.bool ((upV ((nth l k).2) al).2)] 1), (b29, .cells true [.int .u64 (((upV ((nth l k).2) al).1 : Nat) : Int)] 1), (b17, .cells true [.bool false] 1), (b13, .cells true [.int .u64 0] 1), (b9, .cells true [.int .u64 ((iv.1 : Nat) : Int), .int .u64 ((iv.2 : Nat) : Int)] 2), (b5, .cells true [.int .u64 ((al : Nat) : Int)] 1), (b1, .cells true [.int .u64 ((n : Nat) : Int)] 1)]) rfl (fun H73 s74 => ⟨?_, ?_⟩)
                  · exact trivial
                  refine ⟨_, Wk.refl _ _, ?_⟩
                  repeat (with_reducible first | refine then_ret ?_ | refine blk_ret ?_ | refine then_exit ?_ | refine blk_exit ?_ | refine blk_exit' (by decide) ?_ | refine blk_normal ?_ | refine then_normal ?_ | refine retq_ret ?_ | refine retq_normal ?_ | refine ng_normal ?_ | refine ng_ret ?_ | refine ng_exit ?_)
                  exact ⟨(s74.forget 0).getj (j := 0) rfl, (fun _ => ⟨_, _, ((s74.forget 0).setAt (j := 0) rfl (lp46 .ready none)), ⟨fit_y ha.1 (by assumption), upV_lt (hlw _ (nthN_mem hx)).2⟩, (lt_succ_casesN hs hsf)⟩), (fun h => nomatch h)⟩
                ·
                  refine ⟨_, Wk.refl _ _, ?_⟩
                  show awp _ _ _ _ _ _ _
                  refine awp_cond_f rfl ?_
                  refine awp_skip_wk ?_
                  refine ⟨_, Wk.refl _ _, ?_⟩
                  repeat (with_reducible first | refine then_ret ?_ | refine blk_ret ?_ | refine then_exit ?_ | refine blk_exit ?_ | refine blk_exit' (by decide) ?_ | refine blk_normal ?_ | refine then_normal ?_ | refine retq_ret ?_ | refine retq_normal ?_ | refine ng_normal ?_ | refine ng_ret ?_ | refine ng_exit ?_)
                  exact ⟨(s62.forget 0).getj (j := 0) rfl, (fun _ => ⟨_, _, ((s62.forget 0).setAt (j := 0) rfl (lp46 .ready none)), ⟨fit_n ha.1 (by assumption), ha.2⟩, (lt_succ_casesN hs hsf)⟩), (fun h => nomatch h)⟩
          ·
            refine dv (gyes_none rfl) (q_not (b := false) rfl) rfl (by decide) (cok1 trivial) ?_
            refine dv (gyes_none rfl) (q_mv (v := .bool true) rfl) rfl (by decide) (cok1 trivial) ?_
            refine dno rfl (.inl rfl) rfl (by decide) ?_
            refine dno rfl (.inl rfl) rfl (by decide) ?_
            refine dno rfl (.inl rfl) rfl (by decide) ?_
            refine dno rfl (.inl rfl) rfl (by decide) ?_
            refine dv (gyes_none rfl) (q_pt (v := .bool true) rfl rfl) rfl (by decide) (call_ok rfl) ?_
            refine dv (gyes_none rfl) (q_mv (v := .bool true) rfl) rfl (by decide) (cok1 trivial) ?_
            refine dno rfl (.inl rfl) rfl (by decide) ?_
            refine dno rfl (.inl rfl) rfl (by decide) ?_
            refine dno rfl (.inl rfl) rfl (by decide) ?_
            refine dno rfl (.inl rfl) rfl (by decide) ?_
            refine dno rfl (.inl rfl) rfl (by decide) ?_
            refine dno rfl (.inl rfl) rfl (by decide) ?_
            refine dv (gyes_none rfl) (q_pt (v := .bool true) rfl rfl) rfl (by decide) (call_ok rfl) ?_
            refine ⟨_, Wk.refl _ _, ?_⟩
            show awp _ _ _ _ _ _ _
            refine awp_cond_t rfl ?_
            refine awp_seq ?_
            refine awp_regs hF ?_
            refine x_store1 [] hF s62 (by kernel_rfl) (gyes_none rfl) (j := 7) (v := .int .u64 0) rfl Try.sizeOf27 rfl rfl rfl (lc_scalar rfl) (Nat.le_of_ble_eq_true rfl) trivial (cconst rfl) rfl rfl (F' := [(b56, .cells true [.int .u64 (((nth l k).1 : Nat) : Int), .int .u64 (((nth l k).2 : Nat) : Int)] 2), (l48, lp46 .busy none), (d47, .mark), (b41, .cells true [.pointer (some ⟨bs, 0, none⟩)] 1), (b33, .cells true [.bool o] 1), (b29, .cells true [.int .u64 ((a : Nat) : Int)] 1), (b17, .cells true [.bool false] 1), (b13, .cells true [.int .u64 0] 1), (b9, .cells true [.int .u64 ((iv.1 : Nat) : Int), .int .u64 ((iv.2 : Nat) : Int)] 2), (b5, .cells true [.int .u64 ((al : Nat) : Int)] 1), (b1, .cells true [.int .u64 ((n : Nat) : Int)] 1)]) rfl (fun H75 s76 => ⟨?_, ?_⟩)
            · exact trivial
            refine x_store1 [] hF s76 (by kernel_rfl) (gyes_none rfl) (j := 6) (v := .bool false) rfl Try.sizeOf4 rfl rfl rfl (lc_scalar rfl) (Nat.le_of_ble_eq_true rfl) trivial (cconst rfl) rfl rfl (F' := [(b56, .cells true [.int .u64 (((nth l k).1 : Nat) : Int), .int .u64 (((nth l k).2 : Nat) : Int)] 2), (l48, lp46 .busy none), (d47, .mark), (b41, .cells true [.pointer (some ⟨bs, 0, none⟩)] 1), (b33, .cells true [.bool o] 1), (b29, .cells true [.int .u64 ((a : Nat) : Int)] 1), (b17, .cells true [.bool false] 1), (b13, .cells true [.int .u64 0] 1), (b9, .cells true [.int .u64 ((iv.1 : Nat) : Int), .int .u64 ((iv.2 : Nat) : Int)] 2), (b5, .cells true [.int .u64 ((al : Nat) : Int)] 1), (b1, .cells true [.int .u64 ((n : Nat) : Int)] 1)]) rfl (fun H77 s78 => ⟨?_, ?_⟩)
            · exact trivial
            refine ⟨_, Wk.refl _ _, ?_⟩
            show awp _ _ _ _ _ _ _
            refine awp_ret_wk ?_
            refine ⟨_, Wk.refl _ _, ?_⟩
            repeat (with_reducible first | refine then_ret ?_ | refine blk_ret ?_ | refine then_exit ?_ | refine blk_exit ?_ | refine blk_exit' (by decide) ?_ | refine blk_normal ?_ | refine then_normal ?_ | refine retq_ret ?_ | refine retq_normal ?_ | refine ng_normal ?_ | refine ng_ret ?_ | refine ng_exit ?_)
            exact ⟨(s78.forget 0).getj (j := 0) rfl, (fun h => nomatch h), (fun _ => ⟨_, _, ((s78.forget 0).setAt (j := 0) rfl (lp46 .done (some .ret))), (fitV_s (Nat.le_of_lt hx) (by rw [← ha.1]; first | exact stop_o (by assumption) | exact stop_a (by omega) | exact stop_n (by omega)))⟩)⟩
      case after =>
        rintro v H' ⟨rfl, hpost⟩
        rcases hpost with ⟨a, o, s79, ha, hs⟩ | ⟨i_, hi_, ⟨a, o, s80, hf⟩⟩
        ·
          refine ⟨(by
              intro e he
              rcases List.mem_cons.1 he with rfl | he
              · exact s79.getj (j := 1) rfl
              · cases he), .inl ⟨s79.getj (j := 0) rfl, ?_⟩⟩
          have s81 := (s79.setAt (j := 0) rfl .none).forget 0
          refine ⟨_, Wk.refl _ _, ?_⟩
          show awp _ _ _ _ _ _ _
          refine awp_seq ?_
          refine awp_seq ?_
          refine awp_regs hF ?_
          refine dvb (gyes_none rfl) (q_load (v := .bool o) Try.isAgg4 rfl (s81.rd (j := 2) rfl) rfl) rfl (by decide) (cok1 trivial) (fun c7 => ?_) (fun c7 => ?_)
          ·
            refine dv (gyes_none rfl) (q_not (b := true) rfl) rfl (by decide) (cok1 trivial) ?_
            refine dv (gyes_none rfl) (q_mv (v := .bool false) rfl) rfl (by decide) (cok1 trivial) ?_
            refine dv (gyes_some rfl rfl) (q_load (v := .int .u64 ((a : Nat) : Int)) Try.isAgg27 rfl (s81.rd (j := 3) rfl) rfl) rfl (by decide) (cok1 trivial) ?_
            refine dv (gyes_some rfl rfl) (q_field Try.underlying30 rfl Try.sizeOf27 rfl (s81.rd (j := 6) rfl)) rfl (by decide) (cok1 trivial) ?_
            refine dv (gyes_some rfl rfl) (q_load (v := .int .u64 ((iv.2 : Nat) : Int)) Try.isAgg27 rfl (s81.rd (j := 6) rfl) rfl) rfl (by decide) (cok1 trivial) ?_
            refine dvb (gyes_some rfl rfl) (q_int rfl rfl rfl) rfl (by decide) (cok2 trivial trivial) (fun c8 => ?_) (fun c8 => ?_)
            ·
              replace c8 := of_decide_eq_true c8
              refine dv (gyes_none rfl) (q_pf (v := .bool true) rfl rfl) rfl (by decide) (call_ok rfl) ?_
              refine dv (gyes_none rfl) (q_mv (v := .bool true) rfl) rfl (by decide) (cok1 trivial) ?_
              refine dno rfl (.inl rfl) rfl (by decide) ?_
              refine dno rfl (.inl rfl) rfl (by decide) ?_
              refine dno rfl (.inl rfl) rfl (by decide) ?_
              refine dno rfl (.inl rfl) rfl (by decide) ?_
              refine dno rfl (.inl rfl) rfl (by decide) ?_
              refine dno rfl (.inl rfl) rfl (by decide) ?_
              refine dv (gyes_none rfl) (q_pt (v := .bool true) rfl rfl) rfl (by decide) (call_ok rfl) ?_
              refine ⟨_, Wk.refl _ _, ?_⟩
              show awp _ _ _ _ _ _ _
              refine awp_cond_t rfl ?_
              refine awp_seq ?_
              refine awp_regs hF ?_
              refine x_store1 [] hF s81 (by kernel_rfl) (gyes_none rfl) (j := 5) (v := .int .u64 0) rfl Try.sizeOf27 rfl rfl rfl (lc_scalar rfl) (Nat.le_of_ble_eq_true rfl) trivial (cconst rfl) rfl rfl (F' := [(d47, .mark), (b41, .cells true [.pointer (some ⟨bs, 0, none⟩)] 1), (b33, .cells true [.bool o] 1), (b29, .cells true [.int .u64 ((a : Nat) : Int)] 1), (b17, .cells true [.bool false] 1), (b13, .cells true [.int .u64 0] 1), (b9, .cells true [.int .u64 ((iv.1 : Nat) : Int), .int .u64 ((iv.2 : Nat) : Int)] 2), (b5, .cells true [.int .u64 ((al : Nat) : Int)] 1), (b1, .cells true [.int .u64 ((n : Nat) : Int)] 1)]) rfl (fun H82 s83 => ⟨?_, ?_⟩)
              · exact trivial
              refine x_store1 [] hF s83 (by kernel_rfl) (gyes_none rfl) (j := 4) (v := .bool false) rfl Try.sizeOf4 rfl rfl rfl (lc_scalar rfl) (Nat.le_of_ble_eq_true rfl) trivial (cconst rfl) rfl rfl (F' := [(d47, .mark), (b41, .cells true [.pointer (some ⟨bs, 0, none⟩)] 1), (b33, .cells true [.bool o] 1), (b29, .cells true [.int .u64 ((a : Nat) : Int)] 1), (b17, .cells true [.bool false] 1), (b13, .cells true [.int .u64 0] 1), (b9, .cells true [.int .u64 ((iv.1 : Nat) : Int), .int .u64 ((iv.2 : Nat) : Int)] 2), (b5, .cells true [.int .u64 ((al : Nat) : Int)] 1), (b1, .cells true [.int .u64 ((n : Nat) : Int)] 1)]) rfl (fun H84 s85 => ⟨?_, ?_⟩)
              · exact trivial
              refine ⟨_, Wk.refl _ _, ?_⟩
              show awp _ _ _ _ _ _ _
              refine awp_ret_wk ?_
              refine ⟨_, Wk.refl _ _, ?_⟩
              repeat (with_reducible first | refine then_ret ?_ | refine blk_ret ?_ | refine then_exit ?_ | refine blk_exit ?_ | refine blk_exit' (by decide) ?_ | refine blk_normal ?_ | refine then_normal ?_ | refine retq_ret ?_ | refine retq_normal ?_ | refine ng_normal ?_ | refine ng_ret ?_ | refine ng_exit ?_)
              exact ret_noneD (v := .tuple #[.int .u64 0, .bool false]) rfl (s85.setAt (j := 0) rfl .none).kp (.cell rfl Try.isAgg27 ((s85.setAt (j := 0) rfl .none).rd (j := 5) rfl) rfl (.cell rfl Try.isAgg4 ((s85.setAt (j := 0) rfl .none).rd (j := 4) rfl) rfl .nil)) rfl rfl ⟨by rw [fitV_s (Nat.le_refl _) (by rw [← ha.1]; first | exact stop_o (by assumption) | exact stop_a (by omega) | exact stop_n (by omega))]; first | done | rfl, rfl⟩
            ·
              replace c8 := of_decide_eq_false c8
              refine dv (gyes_none rfl) (q_pf (v := .bool false) rfl rfl) rfl (by decide) (call_ok rfl) ?_
              refine dv (gyes_none rfl) (q_mv (v := .bool false) rfl) rfl (by decide) (cok1 trivial) ?_
              refine dv (gyes_some rfl rfl) (q_field Try.underlying30 rfl Try.sizeOf27 rfl (s81.rd (j := 6) rfl)) rfl (by decide) (cok1 trivial) ?_
              refine dv (gyes_some rfl rfl) (q_load (v := .int .u64 ((iv.2 : Nat) : Int)) Try.isAgg27 rfl (s81.rd (j := 6) rfl) rfl) rfl (by decide) (cok1 trivial) ?_
              refine dv (gyes_some rfl rfl) (q_load (v := .int .u64 ((a : Nat) : Int)) Try.isAgg27 rfl (s81.rd (j := 3) rfl) rfl) rfl (by decide) (cok1 trivial) ?_
              refine dv (gyes_some rfl rfl) (OpQ.cast (v' := .int .u64 ((iv.2 - a : Nat) : Int)) (q_int rfl rfl rfl) (congrArg _ ((u64_in (by omega)).trans (by omega)))) rfl (by decide) (cok2 trivial trivial) ?_
              refine dv (gyes_some rfl rfl) (q_load (v := .int .u64 ((n : Nat) : Int)) Try.isAgg27 rfl (s81.rd (j := 8) rfl) rfl) rfl (by decide) (cok1 trivial) ?_
              refine dvb (gyes_some rfl rfl) (q_int rfl rfl rfl) rfl (by decide) (cok2 trivial trivial) (fun c9 => ?_) (fun c9 => ?_)
              ·
                replace c9 := of_decide_eq_true c9
                refine dv (gyes_none rfl) (q_pf (v := .bool true) rfl rfl) rfl (by decide) (call_ok rfl) ?_
                refine ⟨_, Wk.refl _ _, ?_⟩
                show awp _ _ _ _ _ _ _
                refine awp_cond_t rfl ?_
                refine awp_seq ?_
                refine awp_regs hF ?_
                refine x_store1 [] hF s81 (by kernel_rfl) (gyes_none rfl) (j := 5) (v := .int .u64 0) rfl Try.sizeOf27 rfl rfl rfl (lc_scalar rfl) (Nat.le_of_ble_eq_true rfl) trivial (cconst rfl) rfl rfl (F' := [(d47, .mark), (b41, .cells true [.pointer (some ⟨bs, 0, none⟩)] 1), (b33, .cells true [.bool o] 1), (b29, .cells true [.int .u64 ((a : Nat) : Int)] 1), (b17, .cells true [.bool false] 1), (b13, .cells true [.int .u64 0] 1), (b9, .cells true [.int .u64 ((iv.1 : Nat) : Int), .int .u64 ((iv.2 : Nat) : Int)] 2), (b5, .cells true [.int .u64 ((al : Nat) : Int)] 1), (b1, .cells true [.int .u64 ((n : Nat) : Int)] 1)]) rfl (fun H86 s87 => ⟨?_, ?_⟩)
                · exact trivial
                refine x_store1 [] hF s87 (by kernel_rfl) (gyes_none rfl) (j := 4) (v := .bool false) rfl Try.sizeOf4 rfl rfl rfl (lc_scalar rfl) (Nat.le_of_ble_eq_true rfl) trivial (cconst rfl) rfl rfl (F' := [(d47, .mark), (b41, .cells true [.pointer (some ⟨bs, 0, none⟩)] 1), (b33, .cells true [.bool o] 1), (b29, .cells true [.int .u64 ((a : Nat) : Int)] 1), (b17, .cells true [.bool false] 1), (b13, .cells true [.int .u64 0] 1), (b9, .cells true [.int .u64 ((iv.1 : Nat) : Int), .int .u64 ((iv.2 : Nat) : Int)] 2), (b5, .cells true [.int .u64 ((al : Nat) : Int)] 1), (b1, .cells true [.int .u64 ((n : Nat) : Int)] 1)]) rfl (fun H88 s89 => ⟨?_, ?_⟩)
                · exact trivial
                refine ⟨_, Wk.refl _ _, ?_⟩
                show awp _ _ _ _ _ _ _
                refine awp_ret_wk ?_
                refine ⟨_, Wk.refl _ _, ?_⟩
                repeat (with_reducible first | refine then_ret ?_ | refine blk_ret ?_ | refine then_exit ?_ | refine blk_exit ?_ | refine blk_exit' (by decide) ?_ | refine blk_normal ?_ | refine then_normal ?_ | refine retq_ret ?_ | refine retq_normal ?_ | refine ng_normal ?_ | refine ng_ret ?_ | refine ng_exit ?_)
                exact ret_noneD (v := .tuple #[.int .u64 0, .bool false]) rfl (s89.setAt (j := 0) rfl .none).kp (.cell rfl Try.isAgg27 ((s89.setAt (j := 0) rfl .none).rd (j := 5) rfl) rfl (.cell rfl Try.isAgg4 ((s89.setAt (j := 0) rfl .none).rd (j := 4) rfl) rfl .nil)) rfl rfl ⟨by rw [fitV_s (Nat.le_refl _) (by rw [← ha.1]; first | exact stop_o (by assumption) | exact stop_a (by omega) | exact stop_n (by omega))]; first | done | rfl, rfl⟩
              ·
                replace c9 := of_decide_eq_false c9
                refine dv (gyes_none rfl) (q_pf (v := .bool false) rfl rfl) rfl (by decide) (call_ok rfl) ?_
                refine ⟨_, Wk.refl _ _, ?_⟩
                show awp _ _ _ _ _ _ _
                refine awp_cond_f rfl ?_
                refine awp_skip_wk ?_
                refine ⟨_, Wk.refl _ _, ?_⟩
                show awp _ _ _ _ _ _ _
                refine awp_seq ?_
                refine awp_regs hF ?_
                refine dv (gyes_none rfl) (q_load (v := .int .u64 ((a : Nat) : Int)) Try.isAgg27 rfl (s81.rd (j := 3) rfl) rfl) rfl (by decide) (cok1 trivial) ?_
                refine x_store1 [] hF s81 (by kernel_rfl) (gyes_none rfl) (j := 5) (v := .int .u64 ((a : Nat) : Int)) rfl Try.sizeOf27 rfl rfl rfl (lc_scalar rfl) (Nat.le_of_ble_eq_true rfl) trivial trivial rfl rfl (F' := [(d47, .mark), (b41, .cells true [.pointer (some ⟨bs, 0, none⟩)] 1), (b33, .cells true [.bool o] 1), (b29, .cells true [.int .u64 ((a : Nat) : Int)] 1), (b17, .cells true [.bool false] 1), (b13, .cells true [.int .u64 ((a : Nat) : Int)] 1), (b9, .cells true [.int .u64 ((iv.1 : Nat) : Int), .int .u64 ((iv.2 : Nat) : Int)] 2), (b5, .cells true [.int .u64 ((al : Nat) : Int)] 1), (b1, .cells true [.int .u64 ((n : Nat) : Int)] 1)]) rfl (fun H90 s91 => ⟨?_, ?_⟩)
                · exact trivial
                refine x_store1 [] hF s91 (by kernel_rfl) (gyes_none rfl) (j := 4) (v := .bool true) rfl Try.sizeOf4 rfl rfl rfl (lc_scalar rfl) (Nat.le_of_ble_eq_true rfl) trivial (cconst rfl) rfl rfl (F' := [(d47, .mark), (b41, .cells true [.pointer (some ⟨bs, 0, none⟩)] 1), (b33, .cells true [.bool o] 1), (b29, .cells true [.int .u64 ((a : Nat) : Int)] 1), (b17, .cells true [.bool true] 1), (b13, .cells true [.int .u64 ((a : Nat) : Int)] 1), (b9, .cells true [.int .u64 ((iv.1 : Nat) : Int), .int .u64 ((iv.2 : Nat) : Int)] 2), (b5, .cells true [.int .u64 ((al : Nat) : Int)] 1), (b1, .cells true [.int .u64 ((n : Nat) : Int)] 1)]) rfl (fun H92 s93 => ⟨?_, ?_⟩)
                · exact trivial
                refine ⟨_, Wk.refl _ _, ?_⟩
                show awp _ _ _ _ _ _ _
                refine awp_ret_wk ?_
                refine ⟨_, Wk.refl _ _, ?_⟩
                repeat (with_reducible first | refine then_ret ?_ | refine blk_ret ?_ | refine then_exit ?_ | refine blk_exit ?_ | refine blk_exit' (by decide) ?_ | refine blk_normal ?_ | refine then_normal ?_ | refine retq_ret ?_ | refine retq_normal ?_ | refine ng_normal ?_ | refine ng_ret ?_ | refine ng_exit ?_)
                exact ret_noneD (v := .tuple #[.int .u64 ((a : Nat) : Int), .bool true]) rfl (s93.setAt (j := 0) rfl .none).kp (.cell rfl Try.isAgg27 ((s93.setAt (j := 0) rfl .none).rd (j := 5) rfl) rfl (.cell rfl Try.isAgg4 ((s93.setAt (j := 0) rfl .none).rd (j := 4) rfl) rfl .nil)) rfl rfl ⟨by rw [fitV_t (by omega) (lt_succ_casesN hs (by rw [← ha.1]; exact stop_f (by assumption) (by omega) (by omega))), ← ha.1]; first | done | rfl, rfl⟩
          ·
            refine dv (gyes_none rfl) (q_not (b := false) rfl) rfl (by decide) (cok1 trivial) ?_
            refine dv (gyes_none rfl) (q_mv (v := .bool true) rfl) rfl (by decide) (cok1 trivial) ?_
            refine dno rfl (.inl rfl) rfl (by decide) ?_
            refine dno rfl (.inl rfl) rfl (by decide) ?_
            refine dno rfl (.inl rfl) rfl (by decide) ?_
            refine dno rfl (.inl rfl) rfl (by decide) ?_
            refine dv (gyes_none rfl) (q_pt (v := .bool true) rfl rfl) rfl (by decide) (call_ok rfl) ?_
            refine dv (gyes_none rfl) (q_mv (v := .bool true) rfl) rfl (by decide) (cok1 trivial) ?_
            refine dno rfl (.inl rfl) rfl (by decide) ?_
            refine dno rfl (.inl rfl) rfl (by decide) ?_
            refine dno rfl (.inl rfl) rfl (by decide) ?_
            refine dno rfl (.inl rfl) rfl (by decide) ?_
            refine dno rfl (.inl rfl) rfl (by decide) ?_
            refine dno rfl (.inl rfl) rfl (by decide) ?_
            refine dv (gyes_none rfl) (q_pt (v := .bool true) rfl rfl) rfl (by decide) (call_ok rfl) ?_
            refine ⟨_, Wk.refl _ _, ?_⟩
            show awp _ _ _ _ _ _ _
            refine awp_cond_t rfl ?_
            refine awp_seq ?_
            refine awp_regs hF ?_
            refine x_store1 [] hF s81 (by kernel_rfl) (gyes_none rfl) (j := 5) (v := .int .u64 0) rfl Try.sizeOf27 rfl rfl rfl (lc_scalar rfl) (Nat.le_of_ble_eq_true rfl) trivial (cconst rfl) rfl rfl (F' := [(d47, .mark), (b41, .cells true [.pointer (some ⟨bs, 0, none⟩)] 1), (b33, .cells true [.bool o] 1), (b29, .cells true [.int .u64 ((a : Nat) : Int)] 1), (b17, .cells true [.bool false] 1), (b13, .cells true [.int .u64 0] 1), (b9, .cells true [.int .u64 ((iv.1 : Nat) : Int), .int .u64 ((iv.2 : Nat) : Int)] 2), (b5, .cells true [.int .u64 ((al : Nat) : Int)] 1), (b1, .cells true [.int .u64 ((n : Nat) : Int)] 1)]) rfl (fun H94 s95 => ⟨?_, ?_⟩)
            · exact trivial
            refine x_store1 [] hF s95 (by kernel_rfl) (gyes_none rfl) (j := 4) (v := .bool false) rfl Try.sizeOf4 rfl rfl rfl (lc_scalar rfl) (Nat.le_of_ble_eq_true rfl) trivial (cconst rfl) rfl rfl (F' := [(d47, .mark), (b41, .cells true [.pointer (some ⟨bs, 0, none⟩)] 1), (b33, .cells true [.bool o] 1), (b29, .cells true [.int .u64 ((a : Nat) : Int)] 1), (b17, .cells true [.bool false] 1), (b13, .cells true [.int .u64 0] 1), (b9, .cells true [.int .u64 ((iv.1 : Nat) : Int), .int .u64 ((iv.2 : Nat) : Int)] 2), (b5, .cells true [.int .u64 ((al : Nat) : Int)] 1), (b1, .cells true [.int .u64 ((n : Nat) : Int)] 1)]) rfl (fun H96 s97 => ⟨?_, ?_⟩)
            · exact trivial
            refine ⟨_, Wk.refl _ _, ?_⟩
            show awp _ _ _ _ _ _ _
            refine awp_ret_wk ?_
            refine ⟨_, Wk.refl _ _, ?_⟩
            repeat (with_reducible first | refine then_ret ?_ | refine blk_ret ?_ | refine then_exit ?_ | refine blk_exit ?_ | refine blk_exit' (by decide) ?_ | refine blk_normal ?_ | refine then_normal ?_ | refine retq_ret ?_ | refine retq_normal ?_ | refine ng_normal ?_ | refine ng_ret ?_ | refine ng_exit ?_)
            exact ret_noneD (v := .tuple #[.int .u64 0, .bool false]) rfl (s97.setAt (j := 0) rfl .none).kp (.cell rfl Try.isAgg27 ((s97.setAt (j := 0) rfl .none).rd (j := 5) rfl) rfl (.cell rfl Try.isAgg4 ((s97.setAt (j := 0) rfl .none).rd (j := 4) rfl) rfl .nil)) rfl rfl ⟨by rw [fitV_s (Nat.le_refl _) (by rw [← ha.1]; first | exact stop_o (by assumption) | exact stop_a (by omega) | exact stop_n (by omega))]; first | done | rfl, rfl⟩
        ·
          refine ⟨(by
              intro e he
              rcases List.mem_cons.1 he with rfl | he
              · exact s80.getj (j := 1) rfl
              · cases he), .inr ⟨_, s80.getj (j := 0) rfl, ?_⟩⟩
          have s98 := (s80.setAt (j := 0) rfl .none).forget 0
          refine awp_ret_wk ?_
          refine ⟨_, Wk.refl _ _, ?_⟩
          repeat (with_reducible first | refine then_ret ?_ | refine blk_ret ?_ | refine then_exit ?_ | refine blk_exit ?_ | refine blk_exit' (by decide) ?_ | refine blk_normal ?_ | refine then_normal ?_ | refine retq_ret ?_ | refine retq_normal ?_ | refine ng_normal ?_ | refine ng_ret ?_ | refine ng_exit ?_)
          exact ret_noneD (v := .tuple #[.int .u64 0, .bool false]) rfl (s98.setAt (j := 0) rfl .none).kp (.cell rfl Try.isAgg27 ((s98.setAt (j := 0) rfl .none).rd (j := 5) rfl) rfl (.cell rfl Try.isAgg4 ((s98.setAt (j := 0) rfl .none).rd (j := 4) rfl) rfl .nil)) rfl rfl ⟨by rw [hf]; first | done | rfl, rfl⟩
end Go.Proofs.YtjgeheookgogaaaA


/-
  Walks of functions of the given program, and what they compute.
-/
namespace Go.Proofs.YtjgeheookgogaaaA
set_option linter.unusedVariables false
open Go Go.RowKit Go.Shelf Go.Proofs
end Go.Proofs.YtjgeheookgogaaaA


/-
  Walks of functions of the given program, and what they compute.
-/
namespace Go.Proofs.YtjgeheookgogaaaA
set_option linter.unusedVariables false
open Go Go.RowKit Go.Shelf Go.Proofs
theorem ACalls.castV {P : Program} {f : FuncId} {a : List Value} {H : AHeap} {H' : AHeap} {v v' : Value} (h : ACalls P f a H (Rets v H')) (e : v = v') : ACalls P f a H (Rets v' H') := e ▸ h
theorem perm_sorted_eq : ∀ {m l : List Sp}, l.Perm m → l.Pairwise (fun a b => a.1 ≤ b.1) → m.Pairwise (fun a b => a.1 < b.1) → l = m
  | [], l, h, _, _ => h.eq_nil
  | b :: m, [], h, _, _ => by have := h.length_eq; simp at this
  | b :: m, a :: l, h, h1, h2 => by
    have ha : a ∈ b :: m := h.subset List.mem_cons_self
    have hb : b ∈ a :: l := h.symm.subset List.mem_cons_self
    have e : a = b := by
      rcases List.mem_cons.1 ha with e | ha
      · exact e
      · rcases List.mem_cons.1 hb with e | hb
        · exact e.symm
        · have q1 := (List.pairwise_cons.1 h2).1 a ha
          have q2 := (List.pairwise_cons.1 h1).1 b hb
          omega
    subst e
    rw [perm_sorted_eq (h.cons_inv) (List.pairwise_cons.1 h1).2 (List.pairwise_cons.1 h2).2]
theorem sortedLo_pw {l : List Sp} (h : SortedLo l) : l.Pairwise (fun a b => a.1 ≤ b.1) := by
  rw [List.pairwise_iff_getElem]
  intro i j hi hj hij
  have := h i j hij hj
  rwa [nth_eq hi, nth_eq hj] at this
theorem addR_eq {l m : List Sp} {x : Sp} {ok : Bool} {L : List Sp} (h : AddR l x ok L) (hx : x.1 < x.2) (hm : l.any (meetsB x) = false) (hp : m.Perm (l ++ [x])) (hs : m.Pairwise (fun a b => a.1 < b.1)) : ok = true ∧ L = joinS m := by
  rcases h with ⟨_, h | h, _⟩ | ⟨h1, _, _, l', h2, h3, h4⟩
  · omega
  · rw [hm] at h; exact nomatch h
  · rw [h4, perm_sorted_eq (h2.trans hp.symm) (sortedLo_pw h3) hs]
    exact ⟨h1, rfl⟩
theorem addR_no {l : List Sp} {x : Sp} {ok : Bool} {L : List Sp} (h : AddR l x ok L) (hx : x.2 ≤ x.1 ∨ l.any (meetsB x) = true) : ok = false ∧ L = l := by
  rcases h with ⟨h1, _, h2⟩ | ⟨h1, h2, h3, _⟩
  · exact ⟨h1, h2⟩
  · rcases hx with h | h
    · omega
    · rw [h3] at h; exact nomatch h
theorem fit_c : fitV 5 8 (8, 100) [(10, 30)] = (32, true) := by decide +kernel
theorem sp_1 {ok : Bool} {L : List Sp} (h : AddR [] (10, 20) ok L) : ok = true ∧ L = [(10, 20)] := addR_eq (m := [(10, 20)]) h (by decide) (by decide) (List.Perm.refl _) (by decide)
theorem sp_2 {ok : Bool} {L : List Sp} (h : AddR [(10, 20)] (20, 30) ok L) : ok = true ∧ L = [(10, 30)] := addR_eq (m := [(10, 20), (20, 30)]) h (by decide) (by decide) (List.Perm.refl _) (by decide)
theorem sp_3 {ok : Bool} {L : List Sp} (h : AddR [(10, 30)] (29, 31) ok L) : ok = false ∧ L = [(10, 30)] := addR_no h (.inr (by decide))
set_option maxRecDepth 100000 in
set_option maxHeartbeats 4000000 in
theorem speaks_ok {H0 : AHeap}  : ACalls Try.prog 8 [] H0 (Rets (.bool true) H0) := by
  have hF : Wd Fence.wide := .inl rfl
  have hM : Try.prog.follows .mixedOrders = true := by kernel_rfl
  have s0 := St.begin H0
  refine acalls_st Try.func8 rfl Try.ntmps8 rfl ?_
  refine awp_seq ?_
  refine awp_regs hF ?_
  refine dv (gyes_none rfl) (q_as (v := .bool false) rfl) rfl (by decide) (cok1 (cconst rfl)) ?_
  refine ⟨_, Wk.refl _ _, ?_⟩
  show awp _ _ _ _ _ _ _
  refine awp_seq ?_
  refine awp_regs hF ?_
  refine x_new (fun b => .pointer (some ⟨b, 0, none⟩)) s0 (gyes_none rfl) (q_alloc (vs := [.slice none 0 0]) 1 Try.zeroValue26 (by first | exact flat_scalar rfl | exact flat_agg rfl) rfl) rfl (by decide) (by simp [Op.operands, Call.operands]) (fun b1 H2 hb4 s3 => ?_)
  refine ⟨_, Wk.refl _ _, ?_⟩
  show awp _ _ _ _ _ _ _
  refine awp_seq ?_
  refine awp_seq ?_
  refine awp_nilc s3 (j := 0) (o := 0) (sz' := 2) rfl rfl (fun b5 H6 hb8 s7 => ?_)
  refine awp_regs hF ?_
  refine dv (gyes_none rfl) (q_buildL (ds := [.int .u64 10, .int .u64 20]) [(0, 1), (1, 1)] [.int .u64 10, .int .u64 20] Try.underlying30 Try.zeroValue30 (by first | exact flat_agg rfl | exact flat_scalar rfl) (by kernel_rfl) ⟨rfl, rfl, trivial⟩ (lvsC (by exact trivial) (lvsC (by exact trivial) lvs0)) rfl) rfl (by decide) (cok2 (cconst rfl) (cconst rfl)) ?_
  refine x_call [] hF (by kernel_rfl) (gyes_none rfl) Try.call9 rfl (args := [.pointer (some ⟨b1, 0, none⟩), .agg #[.int .u64 10, .int .u64 20]]) rfl (add_ok b1 b5 ([] : List Sp) (by first | decide | omega) (nod2 (s7.nej (i := 1) (j := 0) rfl rfl (by decide))) (s7.getj (j := 1) rfl) (s7.getj (j := 0) rfl) (10, 20)) (show _ < _ by decide) (call_ok rfl) rfl rfl (fun _ _ _ _ hd => by cases hd) ?_
  rintro _ H9 ⟨ok18, L19, b10, rfl, hr11, hk12, ho13, hn14, h15, h16⟩
  have s17 := s7.turn2 (j9 := 1) (jl := 0) rfl rfl (by decide) hk12 ho13 hn14 h15 h16
  obtain ⟨rfl, rfl⟩ := sp_1 hr11
  refine ⟨trivial, ?_⟩
  show dList _ _ _ _ _ _ _ _ _ _
  refine dv (gyes_none rfl) (q_not (b := true) rfl) rfl (by decide) (cok1 trivial) ?_
  refine dv (gyes_none rfl) (q_mv (v := .bool false) rfl) rfl (by decide) (cok1 trivial) ?_
  refine dv (gyes_some rfl rfl) (q_buildL (ds := [.int .u64 20, .int .u64 30]) [(0, 1), (1, 1)] [.int .u64 20, .int .u64 30] Try.underlying30 Try.zeroValue30 (by first | exact flat_agg rfl | exact flat_scalar rfl) (by kernel_rfl) ⟨rfl, rfl, trivial⟩ (lvsC (by exact trivial) (lvsC (by exact trivial) lvs0)) rfl) rfl (by decide) (cok2 (cconst rfl) (cconst rfl)) ?_
  refine x_call [] hF (by kernel_rfl) (gyes_some rfl rfl) Try.call9 rfl (args := [.pointer (some ⟨b1, 0, none⟩), .agg #[.int .u64 20, .int .u64 30]]) rfl (add_ok b1 b10 ([(10, 20)]) (by first | decide | omega) (nod2 (s17.nej (i := 1) (j := 0) rfl rfl (by decide))) (s17.getj (j := 1) rfl) (s17.getj (j := 0) rfl) (20, 30)) (show _ < _ by decide) (call_ok rfl) rfl rfl (fun _ _ _ _ hd => by cases hd) ?_
  rintro _ H20 ⟨ok29, L30, b21, rfl, hr22, hk23, ho24, hn25, h26, h27⟩
  have s28 := s17.turn2 (j9 := 1) (jl := 0) rfl rfl (by decide) hk23 ho24 hn25 h26 h27
  obtain ⟨rfl, rfl⟩ := sp_2 hr22
  refine ⟨trivial, ?_⟩
  show dList _ _ _ _ _ _ _ _ _ _
  refine dv (gyes_some rfl rfl) (q_not (b := true) rfl) rfl (by decide) (cok1 trivial) ?_
  refine dv (gyes_none rfl) (q_pf (v := .bool false) rfl rfl) rfl (by decide) (call_ok rfl) ?_
  refine dv (gyes_none rfl) (q_mv (v := .bool false) rfl) rfl (by decide) (cok1 trivial) ?_
  refine dv (gyes_some rfl rfl) (q_buildL (ds := [.int .u64 29, .int .u64 31]) [(0, 1), (1, 1)] [.int .u64 29, .int .u64 31] Try.underlying30 Try.zeroValue30 (by first | exact flat_agg rfl | exact flat_scalar rfl) (by kernel_rfl) ⟨rfl, rfl, trivial⟩ (lvsC (by exact trivial) (lvsC (by exact trivial) lvs0)) rfl) rfl (by decide) (cok2 (cconst rfl) (cconst rfl)) ?_
  refine x_call [] hF (by kernel_rfl) (gyes_some rfl rfl) Try.call9 rfl (args := [.pointer (some ⟨b1, 0, none⟩), .agg #[.int .u64 29, .int .u64 31]]) rfl (add_ok b1 b21 ([(10, 30)]) (by first | decide | omega) (nod2 (s28.nej (i := 1) (j := 0) rfl rfl (by decide))) (s28.getj (j := 1) rfl) (s28.getj (j := 0) rfl) (29, 31)) (show _ < _ by decide) (call_ok rfl) rfl rfl (fun _ _ _ _ hd => by cases hd) ?_
  rintro _ H31 ⟨ok40, L41, b32, rfl, hr33, hk34, ho35, hn36, h37, h38⟩
  have s39 := s28.turn2 (j9 := 1) (jl := 0) rfl rfl (by decide) hk34 ho35 hn36 h37 h38
  obtain ⟨rfl, rfl⟩ := sp_3 hr33
  refine ⟨trivial, ?_⟩
  show dList _ _ _ _ _ _ _ _ _ _
  refine dv (gyes_none rfl) (q_pf (v := .bool false) rfl rfl) rfl (by decide) (call_ok rfl) ?_
  refine ⟨_, Wk.refl _ _, ?_⟩
  show awp _ _ _ _ _ _ _
  refine awp_cond_f rfl ?_
  refine awp_skip_wk ?_
  refine ⟨_, Wk.refl _ _, ?_⟩
  show awp _ _ _ _ _ _ _
  refine awp_seq ?_
  refine awp_regs hF ?_
  refine dv (gyes_none rfl) (q_buildL (ds := [.int .u64 8, .int .u64 100]) [(0, 1), (1, 1)] [.int .u64 8, .int .u64 100] Try.underlying30 Try.zeroValue30 (by first | exact flat_agg rfl | exact flat_scalar rfl) (by kernel_rfl) ⟨rfl, rfl, trivial⟩ (lvsC (by exact trivial) (lvsC (by exact trivial) lvs0)) rfl) rfl (by decide) (cok2 (cconst rfl) (cconst rfl)) ?_
  refine dv (gyes_none rfl) (q_call0 Try.call23 rfl (ACalls.castV (v' := .tuple #[.int .u64 32, .bool true]) (fit_ok b1 _ ([(10, 30)]) (s39.rd (j := 1) rfl) (s39.slsj (l := [(10, 30)]) spc_w (j := 0) rfl rfl (Nat.le_refl _)) (by first | decide | omega) (by unfold SpW; decide) 5 8 (8, 100) (by decide) (by decide) (by unfold SpW; decide)) (congrArg (fun p : Nat × Bool => Value.tuple #[.int .u64 (p.1 : Int), .bool p.2]) fit_c))) rfl (by decide) (call_ok rfl) ?_
  refine dv (gyes_none rfl) (q_mv (v := .tuple #[.int .u64 32, .bool true]) rfl) rfl (by decide) (cok1 trivial) ?_
  refine dv (gyes_none rfl) (q_extract (v := .int .u64 32) rfl rfl) rfl (by decide) (cok1 trivial) ?_
  refine dv (gyes_none rfl) (q_extract (v := .bool true) rfl rfl) rfl (by decide) (cok1 trivial) ?_
  refine dv (gyes_none rfl) (q_as (v := .int .u64 32) rfl) rfl (by decide) (cok1 trivial) ?_
  refine dv (gyes_none rfl) (q_as (v := .bool true) rfl) rfl (by decide) (cok1 trivial) ?_
  refine ⟨_, Wk.refl _ _, ?_⟩
  show awp _ _ _ _ _ _ _
  refine awp_seq ?_
  refine awp_regs hF ?_
  refine dv (gyes_none rfl) (q_mv (v := .bool true) rfl) rfl (by decide) (cok1 trivial) ?_
  refine dv (gyes_none rfl) (q_mv (v := .bool true) rfl) rfl (by decide) (cok1 trivial) ?_
  refine dv (gyes_some rfl rfl) (q_mv (v := .int .u64 32) rfl) rfl (by decide) (cok1 trivial) ?_
  refine dv (gyes_some rfl rfl) (OpQ.cast (v' := .bool true) (q_int rfl rfl rfl) (congrArg Value.bool (beq_self_eq_true _))) rfl (by decide) (cok2 trivial (cconst rfl)) ?_
  refine dv (gyes_none rfl) (q_pt (v := .bool true) rfl rfl) rfl (by decide) (call_ok rfl) ?_
  refine dv (gyes_none rfl) (q_mv (v := .bool true) rfl) rfl (by decide) (cok1 trivial) ?_
  refine dv (gyes_some rfl rfl) (q_call0 Try.call15 rfl (ACalls.castV (v' := .int .u64 20) (slen_ok b1 _ ([(10, 30)]) (s39.rd (j := 1) rfl) (s39.slsj (l := [(10, 30)]) spc_w (j := 0) rfl rfl (Nat.le_refl _)) (by first | decide | omega) (by unfold SpW; decide)) rfl)) rfl (by decide) (cok2 trivial trivial) ?_
  refine dv (gyes_some rfl rfl) (OpQ.cast (v' := .bool true) (q_int rfl rfl rfl) (congrArg Value.bool (beq_self_eq_true _))) rfl (by decide) (cok2 trivial (cconst rfl)) ?_
  refine dv (gyes_none rfl) (q_pt (v := .bool true) rfl rfl) rfl (by decide) (call_ok rfl) ?_
  refine dv (gyes_none rfl) (q_mv (v := .bool true) rfl) rfl (by decide) (cok1 trivial) ?_
  refine dv (gyes_some rfl rfl) (q_buildL (ds := [.int .u64 15, .int .u64 25]) [(0, 1), (1, 1)] [.int .u64 15, .int .u64 25] Try.underlying30 Try.zeroValue30 (by first | exact flat_agg rfl | exact flat_scalar rfl) (by kernel_rfl) ⟨rfl, rfl, trivial⟩ (lvsC (by exact trivial) (lvsC (by exact trivial) lvs0)) rfl) rfl (by decide) (cok2 (cconst rfl) (cconst rfl)) ?_
  refine dv (gyes_some rfl rfl) (q_call0 Try.call14 rfl (ACalls.castV (v' := .bool true) (covers_ok b1 _ ([(10, 30)]) (s39.rd (j := 1) rfl) (s39.slsj (l := [(10, 30)]) spc_w (j := 0) rfl rfl (Nat.le_refl _)) (by first | decide | omega) (15, 25)) rfl)) rfl (by decide) (call_ok rfl) ?_
  refine dv (gyes_none rfl) (q_pt (v := .bool true) rfl rfl) rfl (by decide) (call_ok rfl) ?_
  refine dv (gyes_none rfl) (q_as (v := .bool true) rfl) rfl (by decide) (cok1 trivial) ?_
  refine ⟨_, Wk.refl _ _, ?_⟩
  show awp _ _ _ _ _ _ _
  refine awp_ret_wk ?_
  refine ⟨_, Wk.refl _ _, ?_⟩
  repeat (with_reducible first | refine then_ret ?_ | refine blk_ret ?_ | refine then_exit ?_ | refine blk_exit ?_ | refine blk_exit' (by decide) ?_ | refine blk_normal ?_ | refine then_normal ?_ | refine retq_ret ?_ | refine retq_normal ?_ | refine ng_normal ?_ | refine ng_ret ?_ | refine ng_exit ?_)
  exact ret_none (v := .bool true) rfl s39.kp (.tmp rfl .nil) rfl rfl ⟨rfl, rfl⟩
end Go.Proofs.YtjgeheookgogaaaA


/-
  From a law's arguments, slices among them, to abstract states.
-/
namespace Go.Proofs.YtjgeheookgogaaaA
set_option linter.unusedVariables false
open Go Go.RowKit Go.Shelf
/-- The places of the arguments' blocks. -/
def rhoOf (ls : List (Option Loc)) : Ren := fun b => match ls[b]? with | some (some l) => .at l | _ => .none
/-- A block of an argument, or none. -/
def ArgO (W : World) (ol : Option Loc) (o : AObj) : Prop :=
  (ol = none ∧ o = .none) ∨ ∃ lc vs, ol = some lc ∧ o = .cells false vs 1 ∧ lc.blk < W.heap.size ∧ ∀ ρ, ORel ρ lc W (.cells false vs 1)
def ArgOs (W : World) : List (Option Loc) → AHeap → Prop
  | [], [] => True
  | ol :: ls, o :: H => ArgO W ol o ∧ ArgOs W ls H
  | _, _ => False
theorem ArgOs.at {W : World} : ∀ {ls : List (Option Loc)} {H : AHeap}, ArgOs W ls H → ∀ (b : Nat) (ol : Option Loc), ls[b]? = some ol → ∃ o : AObj, H[b]? = some o ∧ ArgO W ol o
  | [], [], _, b, ol, h => by simp at h
  | [], _ :: _, h, _, _, _ => h.elim
  | _ :: _, [], h, _, _, _ => h.elim
  | x :: ls, o :: H, ⟨h1, h2⟩, b, ol, h => by
    cases b with
    | zero => simp at h; subst h; exact ⟨o, by simp, h1⟩
    | succ b => simpa using ArgOs.at h2 b ol (by simpa using h)
theorem ArgOs.at' {W : World} : ∀ {ls : List (Option Loc)} {H : AHeap}, ArgOs W ls H → ∀ (b : Nat) (o : AObj), H[b]? = some o → ∃ ol : Option Loc, ls[b]? = some ol ∧ ArgO W ol o
  | [], [], _, b, o, h => by simp at h
  | [], _ :: _, h, _, _, _ => h.elim
  | _ :: _, [], h, _, _, _ => h.elim
  | x :: ls, o' :: H, ⟨h1, h2⟩, b, o, h => by
    cases b with
    | zero => simp at h; subst h; exact ⟨x, by simp, h1⟩
    | succ b => simpa using ArgOs.at' h2 b o (by simpa using h)
theorem ArgOs.len {W : World} : ∀ {ls : List (Option Loc)} {H : AHeap}, ArgOs W ls H → ls.length = H.length
  | [], [], _ => rfl
  | [], _ :: _, h => h.elim
  | _ :: _, [], h => h.elim
  | x :: ls, o' :: H, ⟨h1, h2⟩ => by simp [ArgOs.len h2]
/-- A slice that came as an argument: its block, its value. -/
structure SArg {α : Type} (f : α → Value) (w : World) (v : Value) (l : List α) (b : Nat) (ol : Option Loc) (o : AObj) (va : Value) : Prop where
  obj : ArgO w ol o
  val : ∀ ρ : Ren, (∀ lc, ol = some lc → ρ b = .at lc) → VRel ρ va v
  sl : ∀ H : AHeap, H[b]? = some o → Sl f H va l
end Go.Proofs.YtjgeheookgogaaaA


/-
  Slices among a law's arguments, as the row's facts tell of them.
-/
namespace Go.Proofs.YtjgeheookgogaaaA
set_option linter.unusedVariables false
open Go Go.RowKit Go.Shelf Go.ChangeShapes
def RowF {α : Type} (f : α → Value) (w : World) (a : Option Addr) (len cap : Nat) (zs : List α) : Prop :=
  (a = none ∧ len = 0 ∧ cap = 0) ∨ ∃ x, a = some x ∧ x.spot = none ∧ len ≤ cap ∧ zs.length = cap ∧ (∃ cs T fr, w.heap[x.block]? = some (.cells cs T fr)) ∧ ∀ i (h : i < zs.length), w.cell? (x.add i) = some (f zs[i])
end Go.Proofs.YtjgeheookgogaaaA


/-
  A law's arguments, slices and slices of slices among them, as blocks.
-/
namespace Go.Proofs.YtjgeheookgogaaaA
set_option linter.unusedVariables false
open Go Go.RowKit Go.Shelf Go.ChangeShapes
def rhoP (ls : List Plc) : Ren := fun b => ls.getD b .none
def AtOff (ρ : Ren) (off : Nat) (ls : List Plc) : Prop := ∀ (i : Nat) (p : Plc), ls[i]? = some p → ρ (off + i) = p
def InH (H : AHeap) (off : Nat) (L : AHeap) : Prop := ∀ (i : Nat) (o : AObj), L[i]? = some o → H[off + i]? = some o
theorem AtOff.app {ρ : Ren} {off : Nat} {a b : List Plc} (h : AtOff ρ off (a ++ b)) : AtOff ρ off a ∧ AtOff ρ (off + a.length) b := by
  refine ⟨fun i p hi => h i p ?_, fun i p hi => ?_⟩
  · rw [List.getElem?_append_left (List.getElem?_eq_some_iff.1 hi).1]; exact hi
  · have := h (a.length + i) p (by rw [List.getElem?_append_right (by omega)]; simpa using hi)
    rw [Nat.add_assoc]; exact this
theorem InH.app {H : AHeap} {off : Nat} {a b : AHeap} (h : InH H off (a ++ b)) : InH H off a ∧ InH H (off + a.length) b := by
  refine ⟨fun i p hi => h i p ?_, fun i p hi => ?_⟩
  · rw [List.getElem?_append_left (List.getElem?_eq_some_iff.1 hi).1]; exact hi
  · have := h (a.length + i) p (by rw [List.getElem?_append_right (by omega)]; simpa using hi)
    rw [Nat.add_assoc]; exact this
theorem InH.refl (H : AHeap) : InH H 0 H := fun i o h => by rw [Nat.zero_add]; exact h
def ArgP (ρ : Ren) (w : World) (p : Plc) (o : AObj) : Prop :=
  (p = .none ∧ o = .none) ∨ (p = .null ∧ o = .null) ∨ ∃ lc vs sz, p = .at lc ∧ o = .cells false vs sz ∧ lc.blk < w.heap.size ∧ ORel ρ lc w (.cells false vs sz)
structure PArg (w : World) (v : Value) (off : Nat) (ls : List Plc) (L : AHeap) (va : Value) : Prop where
  len : ls.length = L.length
  obj : ∀ ρ : Ren, AtOff ρ off ls → ∀ (i : Nat) (p : Plc), ls[i]? = some p → ∃ o : AObj, L[i]? = some o ∧ ArgP ρ w p o
  val : ∀ ρ, AtOff ρ off ls → VRel ρ va v
inductive PAll (w : World) : Nat → List Value → List Plc → AHeap → List Value → Prop
  | nil (off : Nat) : PAll w off [] [] [] []
  | cons {off : Nat} {v va : Value} {vs vas : List Value} {ls ls' : List Plc} {L L' : AHeap} (h : PArg w v off ls L va) (k : PAll w (off + ls.length) vs ls' L' vas) : PAll w off (v :: vs) (ls ++ ls') (L ++ L') (va :: vas)
theorem PArg.scalar {w : World} {v : Value} (off : Nat) (h : Scalar v = true) : PArg w v off [] [] v := ⟨rfl, fun ρ _ i p h => by simp at h, fun ρ _ => .scalar h ρ⟩
theorem PAll.sum {w : World} : ∀ {off : Nat} {vs vas : List Value} {ls : List Plc} {L : AHeap}, PAll w off vs ls L vas → ls.length = L.length ∧ (∀ ρ : Ren, AtOff ρ off ls → (∀ (i : Nat) (p : Plc), ls[i]? = some p → ∃ o : AObj, L[i]? = some o ∧ ArgP ρ w p o) ∧ LRel ρ vas vs) := by
  intro off vs vas ls L h
  induction h with
  | nil off => exact ⟨rfl, fun ρ _ => ⟨fun i p h => by simp at h, .nil ρ⟩⟩
  | @cons off v va vs vas ls ls' L L' h k ih =>
    refine ⟨by rw [List.length_append, List.length_append, h.len, ih.1], fun ρ hρ => ?_⟩
    obtain ⟨h1, h2⟩ := hρ.app
    obtain ⟨h3, h4⟩ := ih.2 ρ h2
    refine ⟨fun i p hi => ?_, .cons (h.val ρ h1) h4⟩
    by_cases e : i < ls.length
    · rw [List.getElem?_append_left e] at hi
      obtain ⟨o, k1, k2⟩ := h.obj ρ h1 i p hi
      exact ⟨o, by rw [List.getElem?_append_left (by rw [← h.len]; exact e)]; exact k1, k2⟩
    · rw [List.getElem?_append_right (by omega)] at hi
      obtain ⟨o, k1, k2⟩ := h3 _ p hi
      exact ⟨o, by rw [List.getElem?_append_right (by rw [← h.len]; omega), ← h.len]; exact k1, k2⟩
theorem world_of_acallsP {P : Program} {f : FuncId} {args : List Value} {args' : Array Value} {H : AHeap} {ls : List Plc} {v : Value} {w : World} (hA : PAll w 0 args'.toList ls H args) (hv : Scalar v = true) (h : ACalls P f args H (Rets v H)) :
    Calls P f args' w fun e w' => e = .returned v ∧ Below w.heap.size w w' := by
  obtain ⟨hlen, hs⟩ := hA.sum
  have hat : AtOff (rhoP ls) 0 ls := fun i p hi => by
    rw [Nat.zero_add]; unfold rhoP; rw [List.getD_eq_getElem?_getD, hi]; rfl
  obtain ⟨hob, hval⟩ := hs _ hat
  have hrev : ∀ (b : Nat) (o : AObj), H[b]? = some o → ∃ p, ls[b]? = some p ∧ ArgP (rhoP ls) w p o := fun b o hb => by
    have hbl := (List.getElem?_eq_some_iff.1 hb).1
    obtain ⟨o', h1, h2⟩ := hob b _ (List.getElem?_eq_getElem (by rw [hlen]; exact hbl))
    rw [hb] at h1; cases h1
    exact ⟨_, List.getElem?_eq_getElem (by rw [hlen]; exact hbl), h2⟩
  have hget : ∀ b p, rhoP ls b = p → p ≠ .none → ls[b]? = some p := fun b p hb hn => by
    unfold rhoP at hb
    rw [List.getD_eq_getElem?_getD] at hb
    cases e : ls[b]? with
    | none => rw [e] at hb; exact absurd hb.symm hn
    | some q => rw [e] at hb; exact congrArg some hb
  have hnw : ∀ b l, rhoP ls b = .at l → ¬ wr H b := fun b l hb ⟨o, h1, h2⟩ => by
    obtain ⟨o', h3, h4⟩ := hob b _ (hget b _ hb (by simp))
    rw [h1] at h3; cases h3
    rcases h4 with ⟨h3, _⟩ | ⟨h3, _⟩ | ⟨lc, vs, sz, h3, rfl, _⟩
    · cases h3
    · cases h3
    · cases h2
  have hh : HRel (rhoP ls) H w := by
    refine ⟨fun b hb => ?_, fun b l hb => ?_, fun b c l m _ hb _ hw => absurd hw (hnw b l hb), fun g vs sz hg => ?_, fun b hb => ?_⟩
    · unfold rhoP
      rw [List.getD_eq_getElem?_getD, List.getElem?_eq_none (by rw [hlen]; exact hb)]; rfl
    · obtain ⟨o, h1, h2⟩ := hob b _ (hget b _ hb (by simp))
      rcases h2 with ⟨h3, _⟩ | ⟨h3, _⟩ | ⟨lc, vs, sz, h3, rfl, h4, h5⟩
      · cases h3
      · cases h3
      · cases h3; exact ⟨_, h1, h4, h5⟩
    · obtain ⟨p, _, h3⟩ := hrev g _ hg
      rcases h3 with ⟨_, h3⟩ | ⟨_, h3⟩ | ⟨lc, vs, sz, _, h3, _⟩ <;> cases h3
    · obtain ⟨o, h1, h2⟩ := hob b _ (hget b _ hb (by simp))
      rcases h2 with ⟨h3, _⟩ | ⟨h3, _⟩ | ⟨lc, vs, sz, h3, _⟩ <;> cases h3
  refine (h _ w args' hh hval).mono ?_
  rintro e w' ⟨v1, v', H', ρ', rfl, ⟨rfl, rfl⟩, k1, k2, k3, k4⟩
  rw [k1.scalar_eq hv]
  exact ⟨rfl, k3.os, k3.tape, k3.output, k3.size, fun k hk => k3.keep k hk fun ⟨b, l, hb, _, hw⟩ => hnw b l hb hw⟩
/-! ### Slices that came in -/
/-- A slice in the world: its elements, of one cell each. -/
def SlC {α : Type} (f : α → Value) (w : World) (u : Value) (r : List α) : Prop :=
  (u = .slice none 0 0 ∧ r = []) ∨ ∃ x l c, u = .slice (some x) l c ∧ l ≤ c ∧ r.length = l ∧ (c = 0 ∨ (x.spot = none ∧ ∃ cs T fr, w.heap[x.block]? = some (.cells cs T fr) ∧ x.off + c ≤ cs.size ∧ ∀ i (h : i < r.length), cs[x.off + i]? = some (f r[i])))
theorem AtOff.one {ρ : Ren} {off : Nat} {p : Plc} (h : AtOff ρ off [p]) : ρ off = p := h 0 p rfl
theorem parg_one {w : World} {v va : Value} {off : Nat} {p : Plc} {o : AObj} (h1 : ∀ ρ, ρ off = p → ArgP ρ w p o) (h2 : ∀ ρ, ρ off = p → VRel ρ va v) : PArg w v off [p] [o] va :=
  ⟨rfl, fun ρ hρ i q hi => by
    cases i with
    | zero => simp at hi; subst hi; exact ⟨o, rfl, h1 ρ hρ.one⟩
    | succ i => simp at hi, fun ρ hρ => h2 ρ hρ.one⟩
/-- A slice of slices. -/
structure Sl2C {α : Type} (f : α → Value) (w : World) (u : Value) (us : List Value) (rs : List (List α)) : Prop where
  out : SlC (fun v : Value => v) w u us
  len : us.length = rs.length
  row : ∀ i (h : i < us.length), SlC f w us[i] (nth rs i)
/-! ### From the row's facts -/
theorem addr_at {x : Addr} (hsp : x.spot = none) (i : Nat) : x.add i = ⟨x.block, x.off + i, none⟩ := by
  have hx : x = ⟨x.block, x.off, none⟩ := by cases x; simp at hsp; subst hsp; rfl
  rw [hx]
  unfold Addr.add
  split
  · subst i; rfl
  · rfl
theorem cell_some {w : World} {a : Addr} {v : Value} (h : w.cell? a = some v) : a.spot = none ∧ ∃ cs T fr, w.heap[a.block]? = some (.cells cs T fr) ∧ cs[a.off]? = some v := by
  unfold World.cell? at h
  split at h
  · rename_i c T fr hb
    split at h
    · cases h
    · rename_i hs
      exact ⟨by simpa using hs, c, T, fr, hb, h⟩
  · cases h
/-! ### Arrays that came in -/
end Go.Proofs.YtjgeheookgogaaaA


/-
  A law's arguments: slices whose elements are structs or arrays, and arrays of numbers.
-/
namespace Go.Proofs.YtjgeheookgogaaaA
set_option linter.unusedVariables false
open Go Go.RowKit Go.Shelf Go.ChangeShapes Go.WideShapes
section
variable {α : Type} [Inhabited α] {f : α → List Value} {m : Nat}
def SlCm (f : α → List Value) (m : Nat) (w : World) (u : Value) (r : List α) : Prop :=
  (u = .slice none 0 0 ∧ r = []) ∨ ∃ x l c, u = .slice (some x) l c ∧ l ≤ c ∧ r.length = l ∧ (c = 0 ∨ (x.spot = none ∧ ∃ cs T fr, w.heap[x.block]? = some (.cells cs T fr) ∧ x.off + c * m ≤ cs.size ∧ ∀ i (h : i < r.length), ∀ j, j < m → cs[x.off + i * m + j]? = (f (nth r i))[j]?))
theorem parg_rowm (hw : Wm f m) (hm : 0 < m) (hf : ∀ x, ∀ u ∈ f x, Scalar u = true) {w : World} {u : Value} {r : List α} (h : SlCm f m w u r) (off : Nat) : ∃ p o va, PArg w u off [p] [o] va ∧ ∀ H, InH H off [o] → SlS f m H va r := by
  rcases h with ⟨rfl, rfl⟩ | ⟨x, l, c, rfl, hl, hr, h⟩
  · exact ⟨.none, .none, .slice none 0 0, parg_one (fun ρ _ => .inl ⟨rfl, rfl⟩) (fun ρ _ => .nilSlice), fun H _ => .nil⟩
  · by_cases h0 : c = 0
    · subst h0
      obtain rfl : l = 0 := by omega
      obtain rfl : r = [] := List.length_eq_zero_iff.1 hr
      exact ⟨.null, .null, .slice (some ⟨off, 0, none⟩) 0 0, parg_one (fun ρ _ => .inr (.inl ⟨rfl, rfl⟩)) (fun ρ h => .empty h), fun H hH => .inr ⟨off, 0, 0, [], rfl, .inr (.inr ⟨hH 0 _ rfl, rfl⟩), by simp, by simp, by simp [fl]⟩⟩
    · obtain ⟨hsp, cs, T, fr, hb, hsz, hc⟩ := h.resolve_left h0
      have hlt : x.block < w.heap.size := (Array.getElem?_eq_some_iff.1 hb).1
      have hx : x = ⟨x.block, x.off, none⟩ := by cases x; simp at hsp; subst hsp; rfl
      have hlen : (fl f r).length = l * m := by rw [fl_len hw, hr]
      have hlm : l * m ≤ c * m := Nat.mul_le_mul_right m hl
      refine ⟨.at ⟨x.block, x.off, x.off + c * m, m⟩, .cells false (fl f r) m, .slice (some ⟨off, 0, none⟩) l c, parg_one (fun ρ hρ => .inr (.inr ⟨_, _, _, rfl, rfl, hlt, rfl, cs, T, fr, hb, by rw [hlen]; show x.off + l * m ≤ x.off + c * m; omega, hsz, fun i hi => ?_, fun h => by cases h⟩)) (fun ρ hρ => ?_), fun H hH => ?_⟩
      · have hi1 : i < l * m := by rw [← hlen]; exact hi
        have hq : i / m < r.length := by rw [hr]; exact Nat.div_lt_of_lt_mul (by rw [Nat.mul_comm]; exact hi1)
        have hj : i % m < m := Nat.mod_lt _ hm
        have hij : i / m * m + i % m = i := by rw [Nat.mul_comm]; exact Nat.div_add_mod i m
        have h1 := hc (i / m) hq (i % m) hj
        have h2 := fl_get hw hq hj
        rw [hij] at h2
        rw [show x.off + i / m * m + i % m = x.off + i by omega, ← h2] at h1
        have h3 : (fl f r)[i]? = some (fl f r)[i] := List.getElem?_eq_getElem hi
        rw [h3] at h1
        show VRel ρ ((fl f r).getD i undef) (cs.getD (x.off + i) undef)
        rw [List.getD_eq_getElem?_getD, h3, Array.getD_eq_getD_getElem?, h1]
        have hmem : (fl f r)[i] ∈ fl f r := List.getElem_mem hi
        obtain ⟨y, _, hy⟩ := List.mem_flatMap.1 hmem
        exact .scalar (hf y _ hy) ρ
      · rw [hx]
        exact .slice hρ hl (Nat.le_refl _) (.inl rfl) (by show x.off + 0 + c * m ≤ x.off + c * m; omega)
      · exact .inr ⟨off, 0, c, fl f r, by rw [hr], .inl ⟨false, hH 0 _ rfl⟩, by rw [hlen, hr]; omega, by omega, by rw [List.drop_zero, List.take_of_length_le (by rw [hlen, hr]; exact Nat.le_refl _)]⟩
def ElemOk (P : Program) (e : TypeId) (f : α → List Value) (ok : α → Prop) : Prop := ∀ (H : Type) (enc : TypeId × Value → H) (w : World) (base fuel : Nat) (cs : List Value) (x : DataW H × List MemPlace), DataW.trod enc P w base (fun _ => true) true fuel e cs = some x → ∃ a, cs = f a ∧ ok a
theorem trod_elems {H : Type} {enc : TypeId × Value → H} {P : Program} {w : World} {base fuel : Nat} {t e : TypeId} {u : Value} {x : DataW H × List MemPlace} {ok : α → Prop} (ht : P.underlying t = some (.slice e)) (hc : P.cellsOf e = m) (hm : 0 < m) (hw : Wm f m) (hE : ElemOk P e f ok)
    (h : DataW.trod enc P w base (fun _ => true) true fuel t [u] = some x) : ∃ r, SlCm f m w u r ∧ ∀ a ∈ r, ok a := by
  rcases Go.Deep.open_slice ht h with ⟨hcs, _⟩ | ⟨a, l, c, mm, n, D, Pl, hcs, hb, hl, hmx, hmm, _, hx⟩
  · simp at hcs; subst hcs
    exact ⟨[], .inl ⟨rfl, rfl⟩, by simp⟩
  · simp at hcs; subst hcs
    simp at hmm
    subst hmm
    rw [hc] at hx
    have hex : ∀ i : Nat, ∃ g : α, i < mm → ok g ∧ ∀ j, j < m → w.cell? (a.add (i * m + j)) = (f g)[j]? := fun i => by
      by_cases hi : i < mm
      · obtain ⟨cs', h1, h2⟩ := hx i hi
        obtain ⟨g, rfl, hg⟩ := hE _ _ _ _ _ _ _ h2
        obtain ⟨_, _, hcell⟩ := World.cells?_some h1
        exact ⟨g, fun _ => ⟨hg, fun j hj => by have := hcell j hj; rwa [Go.Deep.add_add] at this⟩⟩
      · exact ⟨default, fun h => absurd h hi⟩
    obtain ⟨g, hg⟩ : ∃ g : Nat → α, ∀ i, i < mm → ok (g i) ∧ ∀ j, j < m → w.cell? (a.add (i * m + j)) = (f (g i))[j]? := ⟨fun i => (hex i).choose, fun i => (hex i).choose_spec⟩
    refine ⟨(List.range l).map g, .inr ⟨a, l, mm, rfl, hl, by simp, ?_⟩, fun b hb' => ?_⟩
    · by_cases h0 : mm = 0
      · exact .inl h0
      · right
        have some' : ∀ i j, i < mm → j < m → ∃ v, w.cell? (a.add (i * m + j)) = some v := fun i j hi hj => by
          rw [(hg i hi).2 j hj]; exact ⟨_, List.getElem?_eq_getElem (by rw [hw]; exact hj)⟩
        obtain ⟨v0, h1⟩ := some' 0 0 (by omega) hm
        have e0 : a.add (0 * m + 0) = a := by rw [Nat.zero_mul]; unfold Addr.add; rw [if_pos rfl]
        rw [e0] at h1
        obtain ⟨hsp, cs, T, fr, hbk, _⟩ := cell_some h1
        have at' : ∀ i v, w.cell? (a.add i) = some v → cs[a.off + i]? = some v := fun i v h => by
          rw [addr_at hsp] at h
          obtain ⟨_, cs', T', fr', hb', h2⟩ := cell_some h
          simp only at hb' h2
          rw [hbk] at hb'; cases hb'
          exact h2
        refine ⟨hsp, cs, T, fr, hbk, ?_, fun i h j hj => ?_⟩
        · obtain ⟨v, h2⟩ := some' (mm - 1) (m - 1) (by omega) (by omega)
          have h3 := (Array.getElem?_eq_some_iff.1 (at' _ _ h2)).1
          have h4 : (mm - 1) * m + m = mm * m := by
            conv => rhs; rw [show mm = (mm - 1) + 1 by omega, Nat.add_mul, Nat.one_mul]
          omega
        · have hil : i < l := by simpa using h
          obtain ⟨v, h2⟩ := some' i j (by omega) hj
          have h3 := at' _ _ h2
          rw [(hg i (by omega)).2 j hj] at h2
          rw [Nat.add_assoc, h3, nth_eq (by simpa using hil)]
          simp only [List.getElem_map, List.getElem_range]
          exact h2.symm
    · obtain ⟨i, hi, rfl⟩ := List.mem_map.1 hb'
      exact (hg i (by have := List.mem_range.1 hi; omega)).1
end
section
variable {H : Type} {enc : TypeId × Value → H} {P : Program} {w : World} {base fuel : Nat} {t e : TypeId} {cs : List Value} {x : DataW H × List MemPlace}
theorem take1 {o : Nat} {v : Value} (h : (cs.drop o).take 1 = [v]) : cs[o]? = some v := by
  have h1 : ((cs.drop o).take 1)[0]? = some v := by rw [h]; rfl
  rw [List.getElem?_take, if_pos (by decide), List.getElem?_drop] at h1
  exact h1
theorem nat_of_u64 {n : Int} (hw : (Lit.int .u64 n).wf = true) : ∃ k : Nat, n = (k : Int) ∧ k < 18446744073709551616 := by
  simp [Lit.wf, IntKind.min, IntKind.max, IntKind.signed, IntKind.bits] at hw
  exact ⟨n.toNat, by omega, by omega⟩
/-- An array of whole numbers. -/
theorem arr_u64 {n : Nat} {el : TypeId} (hs : P.underlying e = some (.array n el)) (hc : P.cellsOf el = 1) (hu : P.underlying el = some (.int .u64)) (h : DataW.trod enc P w base (fun _ => true) true fuel e cs = some x) {i : Nat} (hi : i < n) : ∃ k : Nat, cs[i]? = some (.int .u64 ((k : Nat) : Int)) ∧ k < 18446744073709551616 := by
  obtain ⟨xs, m, _, _, _, hl, hx⟩ := DataW.trod_array hs h
  have h1 := hx i hi
  rw [hc, Nat.mul_one, List.getElem?_eq_getElem (by omega)] at h1
  obtain ⟨z, e1, _, hw⟩ := DataW.trod_int hu h1
  obtain ⟨k, rfl, hk⟩ := nat_of_u64 hw
  exact ⟨k, take1 e1, hk⟩
theorem arr_len {n : Nat} {el : TypeId} (hs : P.underlying e = some (.array n el)) (h : DataW.trod enc P w base (fun _ => true) true fuel e cs = some x) : cs.length = P.cellsOf e := by
  obtain ⟨xs, m, _, _, hl, _⟩ := DataW.trod_array hs h
  exact hl
end
end Go.Proofs.YtjgeheookgogaaaA


/-
  Walks of functions of the given program, and what they compute.
-/
namespace Go.Proofs.YtjgeheookgogaaaA
set_option linter.unusedVariables false
open Go Go.RowKit Go.Shelf Go.Proofs
def Canon (l : List Sp) : Prop := (∀ x ∈ l, x.1 < x.2) ∧ l.Pairwise (fun a b => a.2 < b.1)
def Weak (l : List Sp) : Prop := (∀ x ∈ l, x.1 < x.2) ∧ l.Pairwise (fun a b => a.2 ≤ b.1)
def inS (l : List Sp) (a : Nat) : Prop := ∃ x ∈ l, x.1 ≤ a ∧ a < x.2
def totS (l : List Sp) : Nat := (l.map (fun x => x.2 - x.1)).sum
theorem totS_app (l m : List Sp) : totS (l ++ m) = totS l + totS m := by unfold totS; rw [List.map_append, List.sum_append]
theorem totS_one (x : Sp) : totS [x] = x.2 - x.1 := by simp [totS]
theorem inS_app {l m : List Sp} {a : Nat} : inS (l ++ m) a ↔ inS l a ∨ inS m a := by
  constructor
  · rintro ⟨x, hx, h⟩
    rcases List.mem_append.1 hx with hx | hx
    · exact .inl ⟨x, hx, h⟩
    · exact .inr ⟨x, hx, h⟩
  · rintro (⟨x, hx, h⟩ | ⟨x, hx, h⟩)
    · exact ⟨x, List.mem_append_left _ hx, h⟩
    · exact ⟨x, List.mem_append_right _ hx, h⟩
theorem inS_one {x : Sp} {a : Nat} : inS [x] a ↔ x.1 ≤ a ∧ a < x.2 := ⟨fun ⟨y, hy, h⟩ => by rw [List.mem_singleton.1 hy] at h; exact h, fun h => ⟨x, List.mem_cons_self, h⟩⟩
theorem js_snoc (o : List Sp) (z x : Sp) : joinStep (o ++ [z]) x = if z.2 = x.1 then o ++ [(z.1, x.2)] else o ++ [z] ++ [x] := by
  have e : nth (o ++ [z]) ((o ++ [z]).length - 1) = z := by
    rw [List.length_append]
    show nth _ (o.length + 1 - 1) = z
    rw [Nat.add_sub_cancel, nth_eq (by simp)]; simp
  unfold joinStep
  rw [e]
  by_cases h : z.2 = x.1
  · rw [if_pos ⟨by simp, h⟩, if_pos h, List.length_append]
    show (o ++ [z]).set (o.length + 1 - 1) _ = _
    rw [Nat.add_sub_cancel, List.set_append_right _ _ (Nat.le_refl _), Nat.sub_self]; rfl
  · rw [if_neg (fun q => h q.2), if_neg h]
theorem js_nil (x : Sp) : joinStep [] x = [x] := by unfold joinStep; rw [if_neg (fun q => absurd q.1 (by simp))]; rfl
structure JS (o l r : List Sp) : Prop where
  canon : Canon r
  sup : ∀ y ∈ o ++ l, ∃ y2 ∈ r, y2.1 ≤ y.1 ∧ y.2 ≤ y2.2
  tot : totS r = totS o + totS l
  ins : ∀ a, inS r a ↔ inS (o ++ l) a
  ends : ∀ a ∈ r, (∃ y ∈ o ++ l, a.1 = y.1) ∧ ∃ y ∈ o ++ l, a.2 = y.2
theorem canon_snoc {o : List Sp} {x : Sp} (ho : Canon o) (hx : x.1 < x.2) (h : ∀ a ∈ o, a.2 < x.1) : Canon (o ++ [x]) := by
  refine ⟨fun y hy => ?_, List.pairwise_append.2 ⟨ho.2, List.pairwise_singleton _ _, fun a ha b hb => ?_⟩⟩
  · rcases List.mem_append.1 hy with hy | hy
    · exact ho.1 y hy
    · rw [List.mem_singleton.1 hy]; exact hx
  · rw [List.mem_singleton.1 hb]; exact h a ha
theorem canon_app {o m : List Sp} (h : Canon (o ++ m)) : Canon o ∧ Canon m ∧ ∀ a ∈ o, ∀ b ∈ m, a.2 < b.1 := by
  obtain ⟨h1, h2⟩ := h
  obtain ⟨h3, h4, h5⟩ := List.pairwise_append.1 h2
  exact ⟨⟨fun x hx => h1 x (List.mem_append_left _ hx), h3⟩, ⟨fun x hx => h1 x (List.mem_append_right _ hx), h4⟩, h5⟩
theorem JS.new {o : List Sp} {x : Sp} (ho : Canon (o ++ [x])) : JS o [x] (o ++ [x]) :=
  ⟨ho, fun y hy => ⟨y, hy, Nat.le_refl _, Nat.le_refl _⟩, totS_app _ _, fun _ => Iff.rfl, fun a ha => ⟨⟨a, ha, rfl⟩, a, ha, rfl⟩⟩
theorem js_step {o : List Sp} {x : Sp} (ho : Canon o) (hx : x.1 < x.2) (h : ∀ a ∈ o, a.2 ≤ x.1) : JS o [x] (joinStep o x) ∧ ∀ a ∈ joinStep o x, a.2 ≤ x.2 := by
  rcases List.eq_nil_or_concat o with rfl | ⟨o', z, rfl⟩
  · rw [js_nil]
    have hc : Canon ([] ++ [x]) := canon_snoc ho hx (fun _ q => nomatch q)
    exact ⟨JS.new hc, fun a ha => by rw [List.mem_singleton.1 ha]; exact Nat.le_refl _⟩
  · rw [List.concat_eq_append] at *
    obtain ⟨c1, c2, c3⟩ := canon_app ho
    have hz : z.1 < z.2 := c2.1 z List.mem_cons_self
    have hzx : z.2 ≤ x.1 := h z (List.mem_append_right _ List.mem_cons_self)
    have h3 : ∀ a ∈ o', a.2 < z.1 := fun a ha => c3 a ha z List.mem_cons_self
    rw [js_snoc]
    by_cases e : z.2 = x.1
    · rw [if_pos e]
      have hc : Canon (o' ++ [(z.1, x.2)]) := canon_snoc c1 (show z.1 < x.2 by omega) h3
      have m1 : (z.1, x.2) ∈ o' ++ [(z.1, x.2)] := List.mem_append_right _ List.mem_cons_self
      have mz : z ∈ o' ++ [z] ++ [x] := List.mem_append_left _ (List.mem_append_right _ List.mem_cons_self)
      have mx : x ∈ o' ++ [z] ++ [x] := List.mem_append_right _ List.mem_cons_self
      refine ⟨⟨hc, fun y hy => ?_, ?_, fun a => ?_, fun a ha => ?_⟩, fun a ha => ?_⟩
      · rcases List.mem_append.1 hy with hy | hy
        · rcases List.mem_append.1 hy with hy | hy
          · exact ⟨y, List.mem_append_left _ hy, Nat.le_refl _, Nat.le_refl _⟩
          · rw [List.mem_singleton.1 hy]; exact ⟨_, m1, Nat.le_refl _, show z.2 ≤ x.2 by omega⟩
        · rw [List.mem_singleton.1 hy]; exact ⟨_, m1, show z.1 ≤ x.1 by omega, Nat.le_refl _⟩
      · rw [totS_app, totS_app, totS_one, totS_one, totS_one]
        show _ + (x.2 - z.1) = _
        omega
      · rw [inS_app, inS_app, inS_app, inS_one, inS_one, inS_one]
        constructor
        · rintro (h | ⟨q1, q2⟩)
          · exact .inl (.inl h)
          · by_cases q : a < z.2
            · exact .inl (.inr ⟨q1, q⟩)
            · exact .inr ⟨by omega, q2⟩
        · rintro ((h | ⟨q1, q2⟩) | ⟨q1, q2⟩)
          · exact .inl h
          · exact .inr ⟨q1, show a < x.2 by omega⟩
          · exact .inr ⟨show z.1 ≤ a by omega, q2⟩
      · rcases List.mem_append.1 ha with ha | ha
        · exact ⟨⟨a, List.mem_append_left _ (List.mem_append_left _ ha), rfl⟩, a, List.mem_append_left _ (List.mem_append_left _ ha), rfl⟩
        · rw [List.mem_singleton.1 ha]; exact ⟨⟨z, mz, rfl⟩, x, mx, rfl⟩
      · rcases List.mem_append.1 ha with ha | ha
        · have := h3 a ha; omega
        · rw [List.mem_singleton.1 ha]; exact Nat.le_refl _
    · rw [if_neg e]
      have hc : Canon (o' ++ [z] ++ [x]) := canon_snoc ho hx (fun a ha => by
        rcases List.mem_append.1 ha with ha | ha
        · have := h3 a ha; omega
        · rw [List.mem_singleton.1 ha]; omega)
      refine ⟨JS.new hc, fun a ha => ?_⟩
      rcases List.mem_append.1 ha with ha | ha
      · have := h a ha; omega
      · rw [List.mem_singleton.1 ha]; exact Nat.le_refl _
theorem join_all : ∀ (l o : List Sp), Canon o → Weak l → (∀ a ∈ o, ∀ b ∈ l, a.2 ≤ b.1) → JS o l (l.foldl joinStep o)
  | [], o, ho, _, _ => ⟨ho, fun y hy => ⟨y, by rwa [List.append_nil] at hy, Nat.le_refl _, Nat.le_refl _⟩, rfl, fun a => by rw [List.append_nil]; rfl, fun a ha => ⟨⟨a, by rw [List.append_nil]; exact ha, rfl⟩, a, by rw [List.append_nil]; exact ha, rfl⟩⟩
  | x :: l, o, ho, hw, h => by
    obtain ⟨w1, w2⟩ := hw
    obtain ⟨w3, w4⟩ := List.pairwise_cons.1 w2
    obtain ⟨s1, s2⟩ := js_step ho (w1 x List.mem_cons_self) (fun a ha => h a ha x List.mem_cons_self)
    have r := join_all l (joinStep o x) s1.canon ⟨fun y hy => w1 y (List.mem_cons_of_mem _ hy), w4⟩ (fun a ha b hb => Nat.le_trans (s2 a ha) (w3 b hb))
    have e : o ++ x :: l = (o ++ [x]) ++ l := by rw [List.append_assoc]; rfl
    refine ⟨r.canon, fun y hy => ?_, ?_, fun a => ?_, fun a ha => ?_⟩
    · rw [e] at hy
      rcases List.mem_append.1 hy with hy | hy
      · obtain ⟨y2, q1, q2, q3⟩ := s1.sup y hy
        obtain ⟨y3, q4, q5, q6⟩ := r.sup y2 (List.mem_append_left _ q1)
        exact ⟨y3, q4, Nat.le_trans q5 q2, Nat.le_trans q3 q6⟩
      · exact r.sup y (List.mem_append_right _ hy)
    · have := r.tot; have := s1.tot
      show totS (l.foldl joinStep (joinStep o x)) = _
      have e2 : totS (x :: l) = totS [x] + totS l := totS_app [x] l
      omega
    · show inS (l.foldl joinStep (joinStep o x)) a ↔ _
      rw [r.ins, e, inS_app, inS_app (l := o ++ [x]), s1.ins]
    · obtain ⟨⟨y, q1, q2⟩, y', q3, q4⟩ := r.ends a ha
      rw [e]
      constructor
      · rcases List.mem_append.1 q1 with q1 | q1
        · obtain ⟨⟨y3, q5, q6⟩, _⟩ := s1.ends y q1
          exact ⟨y3, List.mem_append_left _ q5, q2.trans q6⟩
        · exact ⟨y, List.mem_append_right _ q1, q2⟩
      · rcases List.mem_append.1 q3 with q3 | q3
        · obtain ⟨_, y3, q5, q6⟩ := s1.ends y' q3
          exact ⟨y3, List.mem_append_left _ q5, q4.trans q6⟩
        · exact ⟨y', List.mem_append_right _ q3, q4⟩
theorem meets_iff {x o : Sp} : meetsB x o = true ↔ max x.1 o.1 < min x.2 o.2 := decide_eq_true_iff
theorem within_iff {x o : Sp} : withinB x o = true ↔ (x.2 ≤ x.1 ∨ o.1 ≤ x.1 ∧ x.2 ≤ o.2) := decide_eq_true_iff
theorem pw_perm {α : Type} {R : α → α → Prop} (hs : ∀ a b, R a b → R b a) : ∀ {l m : List α}, l.Perm m → l.Pairwise R → m.Pairwise R := by
  intro l m h
  induction h with
  | nil => exact id
  | cons x p ih => intro h; obtain ⟨h1, h2⟩ := List.pairwise_cons.1 h; exact List.pairwise_cons.2 ⟨fun y hy => h1 y (p.symm.subset hy), ih h2⟩
  | swap x y l =>
    intro h
    obtain ⟨h1, h2⟩ := List.pairwise_cons.1 h
    obtain ⟨h3, h4⟩ := List.pairwise_cons.1 h2
    refine List.pairwise_cons.2 ⟨fun z hz => ?_, List.pairwise_cons.2 ⟨fun z hz => h1 z (List.mem_cons_of_mem _ hz), h4⟩⟩
    rcases List.mem_cons.1 hz with rfl | hz
    · exact hs _ _ (h1 _ List.mem_cons_self)
    · exact h3 z hz
  | trans _ _ h1 h2 => exact fun h => h2 (h1 h)
theorem totS_perm {l m : List Sp} (h : l.Perm m) : totS l = totS m := by
  induction h with
  | nil => rfl
  | cons x p ih => have a := totS_app [x] ‹_›; unfold totS at *; simp only [List.map_cons, List.sum_cons]; omega
  | swap x y l => unfold totS; simp only [List.map_cons, List.sum_cons]; omega
  | trans _ _ h1 h2 => exact h1.trans h2
theorem weak_of {l' l : List Sp} {x : Sp} (hc : Canon l) (hx : x.1 < x.2) (hm : l.any (meetsB x) = false) (hp : l'.Perm (l ++ [x])) (hs : SortedLo l') : Weak l' := by
  have hne : ∀ y ∈ l', y.1 < y.2 := fun y hy => by
    rcases List.mem_append.1 (hp.subset hy) with h | h
    · exact hc.1 y h
    · rw [List.mem_singleton.1 h]; exact hx
  have h1 : (l ++ [x]).Pairwise (fun a b : Sp => ¬ max a.1 b.1 < min a.2 b.2) := by
    refine List.pairwise_append.2 ⟨hc.2.imp (fun {a b} h => by omega), List.pairwise_singleton _ _, fun a ha b hb => ?_⟩
    rw [List.mem_singleton.1 hb]
    have h := List.any_eq_false.1 hm a ha
    intro q
    exact h (meets_iff.2 (by omega))
  have h2 := pw_perm (fun a b h => by omega) hp.symm h1
  refine ⟨hne, ?_⟩
  exact (h2.and (sortedLo_pw hs)).imp_of_mem (fun {a b} ha hb ⟨h, h'⟩ => by
    have := hne a ha; have := hne b hb
    omega)
structure AddV (l : List Sp) (x : Sp) (ok : Bool) (L : List Sp) : Prop where
  canon : Canon L
  spw : ∀ y ∈ L, SpW y
  len : L.length ≤ l.length + 1
  tot : totS L = totS l + (if ok = true then x.2 - x.1 else 0)
  sup : ok = true → ∃ y ∈ L, y.1 ≤ x.1 ∧ x.2 ≤ y.2
  ins : ∀ a, inS L a ↔ inS l a ∨ (ok = true ∧ x.1 ≤ a ∧ a < x.2)
  is : ok = (!decide (x.2 ≤ x.1) && !l.any (meetsB x))
theorem addR_v {l : List Sp} {x : Sp} {ok : Bool} {L : List Sp} (h : AddR l x ok L) (hc : Canon l) (hw : ∀ y ∈ l, SpW y) (hx : SpW x) : AddV l x ok L := by
  rcases h with ⟨rfl, h2, rfl⟩ | ⟨rfl, h1, h2, l', h3, h4, rfl⟩
  · refine ⟨hc, hw, by omega, by simp, (fun h => nomatch h), fun a => ⟨.inl, fun h => h.elim id (fun h => nomatch h.1)⟩, ?_⟩
    rcases h2 with h | h
    · rw [decide_eq_true h]; rfl
    · rw [h]; simp
  · have hwk := weak_of hc h1 h2 h3 h4
    have r := join_all l' [] ⟨(fun _ h => nomatch h), .nil⟩ hwk (fun _ h => nomatch h)
    have hl : l'.length = l.length + 1 := by rw [h3.length_eq, List.length_append]; rfl
    have hx' : x ∈ l' := h3.symm.subset (List.mem_append_right _ List.mem_cons_self)
    refine ⟨r.canon, fun y hy => ?_, ?_, ?_, fun _ => ?_, fun a => ?_, ?_⟩
    · have hw' : ∀ y ∈ l', SpW y := fun y hy => by
        rcases List.mem_append.1 (h3.subset hy) with h | h
        · exact hw y h
        · rw [List.mem_singleton.1 h]; exact hx
      obtain ⟨⟨y1, q1, q2⟩, y2, q3, q4⟩ := r.ends y hy
      exact ⟨by rw [q2]; exact (hw' y1 q1).1, by rw [q4]; exact (hw' y2 q3).2⟩
    · have := join_len l' l'.length (Nat.le_refl _)
      rw [List.take_length] at this
      unfold joinS; omega
    · have := r.tot
      unfold joinS
      rw [this, totS_perm h3, totS_app, totS_one, if_pos rfl]
      show 0 + _ = _
      omega
    · exact r.sup x hx'
    · unfold joinS
      rw [r.ins, List.nil_append]
      have : inS l' a ↔ inS (l ++ [x]) a := ⟨fun ⟨y, q, h⟩ => ⟨y, h3.subset q, h⟩, fun ⟨y, q, h⟩ => ⟨y, h3.symm.subset q, h⟩⟩
      rw [this, inS_app, inS_one]
      exact ⟨fun h => h.imp id (fun h => ⟨rfl, h⟩), fun h => h.imp id (fun h => h.2)⟩
    · rw [h2, decide_eq_false (by omega)]; rfl
theorem sumS_tot (l : List Sp) : ∀ k, k ≤ l.length → sumS l k = totS (l.take k)
  | 0, _ => by rw [List.take_zero]; rfl
  | k + 1, h => by
    rw [← take_snoc (by omega), totS_app, totS_one, ← sumS_tot l k (by omega)]; rfl
theorem sumS_all (l : List Sp) : sumS l l.length = totS l := by rw [sumS_tot l _ (Nat.le_refl _), List.take_length]
theorem canon_nil : Canon [] := ⟨(fun _ h => nomatch h), .nil⟩
def pcs (x o : Sp) : List Sp := if withinB x o = true then remP x o 2 else [o]
structure RemV (l : List Sp) (x : Sp) (ok : Bool) (L : List Sp) : Prop where
  canon : Canon L
  spw : ∀ y ∈ L, SpW y
  len : L.length ≤ 2 * l.length
  ins : ∀ a, inS L a ↔ inS l a ∧ ¬ (ok = true ∧ x.1 ≤ a ∧ a < x.2)
  is : ok = (!decide (x.2 ≤ x.1) && l.any (withinB x))
end Go.Proofs.YtjgeheookgogaaaA


/-
  Walks of functions of the given program, and what they compute.
-/
namespace Go.Proofs.YtjgeheookgogaaaA
set_option linter.unusedVariables false
open Go Go.RowKit Go.Shelf Go.Proofs
structure FitC (n al : Nat) (iv : Sp) (l : List Sp) (a : Nat) : Prop where
  n0 : 0 < n
  al0 : 0 < al
  mul : a % al = 0
  lo : iv.1 ≤ a
  hi : a + n ≤ iv.2
  free : ∀ x ∈ l, x.2 ≤ a ∨ a + n ≤ x.1
end Go.Proofs.YtjgeheookgogaaaA


/-
  Walks of functions of the given program, and what they compute.
-/
namespace Go.Proofs.YtjgeheookgogaaaA
set_option linter.unusedVariables false
open Go Go.RowKit Go.Shelf Go.Proofs
section
variable {P : Program} {T : Nat → Value} {H : AHeap} {dst : Option Tmp} {ty : TypeId} {pos : String} {af : Array Edge} {g : Option (Nat × Bool)} {v : Value} {α : Type} [Inhabited α] {f : α → List Value} {m : Nat} {l : List α}
theorem q_indexArr_sls {t el : TypeId} {x y : Operand} {i j n oo len : Nat} {k : IntKind} (hu : P.underlying t = some (.array len el)) (hs : ∀ w, (sizeOf el).run P w = .ok n w) (h : SlS f m H v l) (hw : Wm f m) (hx : ev T x = .pointer (some ⟨sb v, oo, none⟩)) (hy : ev T y = .int k (j : Nat)) (hj : j < len) (hi : i < l.length) :
    OpQ P ⟨dst, .indexAddr t x y, ty, pos, af, g⟩ T H (.pointer (some ⟨sb v, oo + j * n, none⟩)) [] := by
  obtain ⟨b, o, c, vs, rfl, h2, h3, h4⟩ := h.at' hi hw
  exact q_indexArr hu hs hx hy hj h2
end
theorem arr2_spc : ElemOk Try.prog 28 spc SpW := fun H enc w base fuel cs x h => by
  obtain ⟨n0, g0, b0⟩ := arr_u64 Try.underlying28 (by kernel_rfl) Try.underlying27 h (i := 0) (by decide)
  obtain ⟨n1, g1, b1⟩ := arr_u64 Try.underlying28 (by kernel_rfl) Try.underlying27 h (i := 1) (by decide)
  have hl : cs.length = 2 := (arr_len Try.underlying28 h).trans (by kernel_rfl)
  match cs, hl with
  | [c0, c1], _ =>
    obtain rfl : c0 = _ := Option.some.inj g0
    obtain rfl : c1 = _ := Option.some.inj g1
    exact ⟨(n0, n1), rfl, b0, b1⟩
end Go.Proofs.YtjgeheookgogaaaA


/-
  Walks of functions of the given program, and what they compute.
-/
namespace Go.Proofs.YtjgeheookgogaaaA
set_option linter.unusedVariables false
open Go Go.RowKit Go.Shelf Go.Proofs
theorem St.turn1 {H0 : AHeap} {X : Nat → Prop} {Z : Rs} {H H' : AHeap} {F : List (Nat × AObj)} (h : St H0 X Z H F) {j b : Nat} {o o' : AObj} (hj : F[j]? = some (b, o)) (k : Kp (· ∈ [b]) H H') (h' : H'[b]? = some o') : St H0 X Z H' (F.set j (b, o')) := by
  have m9 : b ∈ F.map (·.1) := List.mem_map.2 ⟨_, List.mem_of_getElem? hj, rfl⟩
  refine h.turn k _ (by rw [keys_set hj]; exact h.nd) (fun p hp => ?_) (fun c hc => ?_)
  · rcases mem_set_cases hp with rfl | ⟨i, hi, hp⟩
    · exact .inr ⟨h', .inr m9⟩
    · exact .inl ⟨List.mem_of_getElem? hp, fun hm => h.ne hp hj hi (by simpa using hm)⟩
  · have hc : c = b := by simpa using hc
    rw [hc]; exact m9
/-- How many are told till the stop. -/
def cntS (k : Nat) (stop : Int) : Nat := if 1 ≤ stop then min k stop.toNat else k
set_option maxRecDepth 100000 in
set_option maxHeartbeats 4000000 in
theorem sclos_ok {H0 : AHeap} (x : Sp) (g : List Sp) (hg : g.length ≤ 1000) (bg bl : Nat) (hnd : [bg, bl].Nodup) (h9 : H0[bg]? = some (.cells true [.slice (some ⟨bl, 0, none⟩) g.length g.length] 1)) (hbl : H0[bl]? = some (.cells true (fl spc g) 2)) : ACalls Try.prog 12 [.agg #[.int .u64 ((x.1 : Nat) : Int), .int .u64 ((x.2 : Nat) : Int)], .pointer (some ⟨bg, 0, none⟩)] H0 (fun v H' => ∃ bn, v = .bool true ∧ Kp (· ∈ [bg, bl]) H0 H' ∧ (H0.length ≤ bn ∨ bn ∈ [bg, bl]) ∧ bn ≠ bg ∧ H'[bg]? = some (.cells true [.slice (some ⟨bn, 0, none⟩) (g.length + 1) (g.length + 1)] 1) ∧ H'[bn]? = some (.cells true (fl spc (g ++ [x])) 2)) := by
  have hF : Wd Fence.wide := .inl rfl
  have hM : Try.prog.follows .mixedOrders = true := by kernel_rfl
  have s0 : St H0 (· ∈ [bg, bl]) (Off H0 [bg, bl]) H0 [(bg, .cells true [.slice (some ⟨bl, 0, none⟩) g.length g.length] 1), (bl, .cells true (fl spc g) 2)] := St.beginL [(bg, .cells true [.slice (some ⟨bl, 0, none⟩) g.length g.length] 1), (bl, .cells true (fl spc g) 2)] hnd (allAt_mem ⟨h9, hbl, trivial⟩)
  refine acalls_st Try.func12 rfl Try.ntmps12 rfl ?_
  refine awp_seq ?_
  refine awp_regs hF ?_
  refine x_new (fun b => .pointer (some ⟨b, 0, none⟩)) s0 (gyes_none rfl) (q_box (v := .agg #[.int .u64 ((x.1 : Nat) : Int), .int .u64 ((x.2 : Nat) : Int)]) (vs := [.int .u64 ((x.1 : Nat) : Int), .int .u64 ((x.2 : Nat) : Int)]) 2 rfl (by exact trivial) rfl) rfl (by decide) (cok1 trivial) (fun b1 H2 hb4 s3 => ?_)
  refine dv (gyes_none rfl) (q_as (v := .bool false) rfl) rfl (by decide) (cok1 (cconst rfl)) ?_
  refine ⟨_, Wk.refl _ _, ?_⟩
  show awp _ _ _ _ _ _ _
  refine awp_seq ?_
  refine awp_regs hF ?_
  refine dv (gyes_none rfl) (q_load (v := .slice (some ⟨bl, 0, none⟩) g.length g.length) Try.isAgg24 rfl (s3.rd (j := 1) rfl) rfl) rfl (by decide) (cok1 trivial) ?_
  refine dv (gyes_none rfl) (q_loadAgg Try.isAgg30 Try.sizeOf30 rfl (s3.rd (j := 0) rfl) (Nat.le_of_ble_eq_true rfl) rfl) rfl (by decide) (cok1 trivial) ?_
  refine x_new (fun b => .slice (some ⟨b, 0, none⟩) 1 1) s3 (gyes_none rfl) (q_buildSliceL (ds := [.int .u64 ((x.1 : Nat) : Int), .int .u64 ((x.2 : Nat) : Int)]) [.agg #[.int .u64 ((x.1 : Nat) : Int), .int .u64 ((x.2 : Nat) : Int)]] rfl Try.underlying24 Try.sizeOf30 Try.zeroValue30 rfl (by decide) (by decide) ⟨rfl, trivial⟩ (lvsC (by exact trivial) lvs0) rfl rfl) rfl (by decide) (cok1 trivial) (fun b5 H6 hb8 s7 => ?_)
  refine x_appendS (m := 2) (l := [(x.1, x.2)]) (l0 := g) (l' := g ++ [x]) (f := spc) [] hF s7 (by kernel_rfl) (j := 3) (g.length + 1) rfl (gyes_none rfl) Try.underlying24 Try.underlying24 Try.type30 rfl rfl (by decide) rfl spc_w rfl rfl rfl (s7.slsj (l := [(x.1, x.2)]) spc_w (j := 0) rfl rfl (Nat.le_refl _)) (fun x _ u hu => lc_scalar (spc_sc x u hu)) (by first | rfl | simp) (by show (2 * _ + 1000) * 16 ≤ _; first | omega | (simp only [List.length_append, List.length_cons, List.length_nil, List.length_take, List.length_drop]; omega)) trivial trivial (by decide) rfl rfl rfl (fun b9 H10 hb12 s11 => ⟨?_, ?_⟩)
  · exact trivial
  refine x_store1 [] hF s11 (by kernel_rfl) (gyes_none rfl) (j := 2) (v := .slice (some ⟨b9, 0, none⟩) (g.length + 1) (g.length + 1)) rfl Try.sizeOf24 rfl rfl rfl (lc_slice (s11.live (j := 3) rfl)) (Nat.le_of_ble_eq_true rfl) trivial trivial rfl rfl (F' := [(b5, .cells true [.int .u64 ((x.1 : Nat) : Int), .int .u64 ((x.2 : Nat) : Int)] 2), (b1, .cells true [.int .u64 ((x.1 : Nat) : Int), .int .u64 ((x.2 : Nat) : Int)] 2), (bg, .cells true [.slice (some ⟨b9, 0, none⟩) (g.length + 1) (g.length + 1)] 1), (b9, .cells true (fl spc (g ++ [x])) 2)]) rfl (fun H13 s14 => ⟨?_, ?_⟩)
  · exact trivial
  refine ⟨_, Wk.refl _ _, ?_⟩
  show awp _ _ _ _ _ _ _
  refine awp_seq ?_
  refine awp_regs hF ?_
  refine dv (gyes_none rfl) (q_as (v := .bool true) rfl) rfl (by decide) (cok1 (cconst rfl)) ?_
  refine ⟨_, Wk.refl _ _, ?_⟩
  show awp _ _ _ _ _ _ _
  refine awp_ret_wk ?_
  refine ⟨_, Wk.refl _ _, ?_⟩
  repeat (with_reducible first | refine then_ret ?_ | refine blk_ret ?_ | refine then_exit ?_ | refine blk_exit ?_ | refine blk_exit' (by decide) ?_ | refine blk_normal ?_ | refine then_normal ?_ | refine retq_ret ?_ | refine retq_normal ?_ | refine ng_normal ?_ | refine ng_ret ?_ | refine ng_exit ?_)
  refine ret_is (v := .bool true) rfl (.tmp rfl .nil) rfl ?_
  exact ⟨_, rfl, s14.kp, s14.own _ (List.mem_of_getElem? (i := 3) rfl), s14.nej (i := 3) (j := 2) rfl rfl (by decide), s14.getj (j := 2) rfl, s14.getj (j := 3) rfl⟩
set_option maxRecDepth 100000 in
set_option maxHeartbeats 4000000 in
theorem scount_ok {H0 : AHeap} (x : Sp) (n : Nat) (hn : n ≤ 1000000) (stop : Int) (bn b3 : Nat) (hb3 : b3 ∉ [bn]) (hbn : H0[bn]? = some (.cells true [.int .i64 ((n : Nat) : Int)] 1)) (h3 : Rd H0 b3 [.int .i64 stop] 1) : ACalls Try.prog 13 [.agg #[.int .u64 ((x.1 : Nat) : Int), .int .u64 ((x.2 : Nat) : Int)], .pointer (some ⟨bn, 0, none⟩), .pointer (some ⟨b3, 0, none⟩)] H0 (fun v H' => v = .bool (((n + 1 : Nat) : Int) != stop) ∧ Kp (· ∈ [bn]) H0 H' ∧ H'[bn]? = some (.cells true [.int .i64 ((n + 1 : Nat) : Int)] 1)) := by
  have hF : Wd Fence.wide := .inl rfl
  have hM : Try.prog.follows .mixedOrders = true := by kernel_rfl
  have s0 : St H0 (· ∈ [bn]) (Off H0 [bn]) H0 [(bn, .cells true [.int .i64 ((n : Nat) : Int)] 1)] := St.beginL [(bn, .cells true [.int .i64 ((n : Nat) : Int)] 1)] (by simp) (allAt_mem ⟨hbn, trivial⟩)
  refine acalls_st Try.func13 rfl Try.ntmps13 rfl ?_
  refine awp_seq ?_
  refine awp_regs hF ?_
  refine x_new (fun b => .pointer (some ⟨b, 0, none⟩)) s0 (gyes_none rfl) (q_box (v := .agg #[.int .u64 ((x.1 : Nat) : Int), .int .u64 ((x.2 : Nat) : Int)]) (vs := [.int .u64 ((x.1 : Nat) : Int), .int .u64 ((x.2 : Nat) : Int)]) 2 rfl (by exact trivial) rfl) rfl (by decide) (cok1 trivial) (fun b1 H2 hb4 s3 => ?_)
  refine dv (gyes_none rfl) (q_as (v := .bool false) rfl) rfl (by decide) (cok1 (cconst rfl)) ?_
  refine ⟨_, Wk.refl _ _, ?_⟩
  show awp _ _ _ _ _ _ _
  refine awp_seq ?_
  refine awp_regs hF ?_
  refine dv (gyes_none rfl) (q_load (v := .int .i64 ((n : Nat) : Int)) Try.isAgg3 rfl (s3.rd (j := 1) rfl) rfl) rfl (by decide) (cok1 trivial) ?_
  refine dv (gyes_none rfl) (OpQ.cast (v' := .int .i64 ((n + 1 : Nat) : Int)) (q_int rfl rfl rfl) (congrArg _ ((i64_in (by omega)).trans (by first | rfl | omega | (push_cast; rfl))))) rfl (by decide) (cok2 trivial (cconst rfl)) ?_
  refine x_store1 [] hF s3 (by kernel_rfl) (gyes_none rfl) (j := 1) (v := .int .i64 ((n + 1 : Nat) : Int)) rfl Try.sizeOf3 rfl rfl rfl (lc_scalar rfl) (Nat.le_of_ble_eq_true rfl) trivial trivial rfl rfl (F' := [(b1, .cells true [.int .u64 ((x.1 : Nat) : Int), .int .u64 ((x.2 : Nat) : Int)] 2), (bn, .cells true [.int .i64 ((n + 1 : Nat) : Int)] 1)]) rfl (fun H5 s6 => ⟨?_, ?_⟩)
  · exact trivial
  refine ⟨_, Wk.refl _ _, ?_⟩
  show awp _ _ _ _ _ _ _
  refine awp_seq ?_
  refine awp_regs hF ?_
  refine dv (gyes_none rfl) (q_load (v := .int .i64 ((n + 1 : Nat) : Int)) Try.isAgg3 rfl (s6.rd (j := 1) rfl) rfl) rfl (by decide) (cok1 trivial) ?_
  refine dv (gyes_none rfl) (q_load (v := .int .i64 stop) Try.isAgg3 rfl (s6.zrd ⟨h3, hb3⟩) rfl) rfl (by decide) (cok1 trivial) ?_
  refine dv (gyes_none rfl) (q_int rfl rfl rfl) rfl (by decide) (cok2 trivial trivial) ?_
  refine dv (gyes_none rfl) (q_as (v := .bool ((((n + 1 : Nat) : Int) : Int) != stop)) rfl) rfl (by decide) (cok1 trivial) ?_
  refine ⟨_, Wk.refl _ _, ?_⟩
  show awp _ _ _ _ _ _ _
  refine awp_ret_wk ?_
  refine ⟨_, Wk.refl _ _, ?_⟩
  repeat (with_reducible first | refine then_ret ?_ | refine blk_ret ?_ | refine then_exit ?_ | refine blk_exit ?_ | refine blk_exit' (by decide) ?_ | refine blk_normal ?_ | refine then_normal ?_ | refine retq_ret ?_ | refine retq_normal ?_ | refine ng_normal ?_ | refine ng_ret ?_ | refine ng_exit ?_)
  refine ret_is (v := .bool ((((n + 1 : Nat) : Int) : Int) != stop)) rfl (.tmp rfl .nil) rfl ?_
  exact ⟨rfl, s6.kp, s6.getj (j := 1) rfl⟩
theorem srun_ok {H0 : AHeap} {F : List (Nat × AObj)} {Z : Rs} {H : AHeap} (hs : St H0 none0 Z H F) (vL : Value) (l : List Sp) (hl : l.length ≤ 1000) (b9 bl bs bc j9 jl : Nat) (h9 : F[j9]? = some (b9, .cells true [.slice (some ⟨bl, 0, none⟩) 0 0] 1)) (hbl : F[jl]? = some (bl, .cells true [] 2)) (hij : j9 ≠ jl)
    (hbs : bs ∉ [b9, bl]) (hbc : bc ∉ [b9, bl]) (hRs : Rd H bs [vL] 1) (hRc : Rd H bc [.pointer (some ⟨bs, 0, none⟩)] 1) (hL : SlSZ spc 2 (Off H [b9, bl]) vL l) :
    ACalls Try.prog 29 [.func (.func 12) #[] #[.pointer (some ⟨b9, 0, none⟩)], .pointer (some ⟨bc, 0, none⟩)] H (fun v H' => v = .tuple #[] ∧ ∃ bn, Kp (· ∈ [b9, bl]) H H' ∧ (H.length ≤ bn ∨ bn ∈ [b9, bl]) ∧ bn ≠ b9 ∧ H'[b9]? = some (.cells true [.slice (some ⟨bn, 0, none⟩) l.length l.length] 1) ∧ H'[bn]? = some (.cells true (fl spc l) 2)) := by
  have hne : b9 ≠ bl := hs.nej h9 hbl hij
  let Iv : Nat → AHeap → Prop := fun i H' => ∃ bn, Kp (· ∈ [b9, bl]) H H' ∧ (H.length ≤ bn ∨ bn ∈ [b9, bl]) ∧ bn ≠ b9 ∧ i ≤ l.length ∧ H'[b9]? = some (.cells true [.slice (some ⟨bn, 0, none⟩) (l.take i).length (l.take i).length] 1) ∧ H'[bn]? = some (.cells true (fl spc (l.take i)) 2)
  refine (alls1_ok (H0 := H) bc bs vL l (by omega) _ Iv (fun _ _ => False) ?h0 ?hm ?hb ?hy).mono ?_
  case h0 => exact ⟨bl, .refl _ _, .inr (by simp), Ne.symm hne, Nat.zero_le _, hs.getj h9, hs.getj hbl⟩
  case hm =>
    rintro i H1 H2 ⟨bn, q1, q2, q3, q4, q6, q7⟩ kk
    exact ⟨bn, q1.trans (kk.mono fun _ h => h.elim), q2, q3, q4, (kk.get _ (lt_of_some q6) (fun h => h)).trans q6, (kk.get _ (lt_of_some q7) (fun h => h)).trans q7⟩
  case hb =>
    rintro i H1 ⟨bn, q1, _⟩
    exact ⟨q1.rd hRc hbc, q1.rd hRs hbs, hL.mono fun b vs sz h => q1.rd h.1 h.2⟩
  case hy =>
    rintro i H1 ⟨bn, q1, q2, q3, q4, q6, q7⟩ hi
    have htl : (l.take i).length = i := by rw [List.length_take]; omega
    refine ylds_func Try.call12 ((sclos_ok (H0 := H1) (nth l i) (l.take i) (by omega) b9 bn (by simp [Ne.symm q3]) q6 q7).mono ?_)
    rintro v H2 ⟨bm, rfl, r1, r2, r3, r4, r5⟩
    have hkey : l.take (i + 1) = l.take i ++ [nth l i] := (take_snoc hi).symm
    have hlen : (l.take (i + 1)).length = (l.take i).length + 1 := by rw [hkey, List.length_append]; rfl
    have hkp : Kp (· ∈ [b9, bl]) H H2 := by
      refine ⟨Nat.le_trans q1.len r1.len, fun b hb hx => ?_⟩
      rw [r1.get b (Nat.lt_of_lt_of_le hb q1.len) ?_, q1.get b hb hx]
      intro h
      rcases List.mem_cons.1 h with rfl | h
      · exact hx (by simp)
      · obtain rfl : b = bn := by simpa using h
        rcases q2 with h | h
        · omega
        · exact hx h
    have hbm : H.length ≤ bm ∨ bm ∈ [b9, bl] := by
      rcases r2 with h | h
      · exact .inl (Nat.le_trans q1.len h)
      · rcases List.mem_cons.1 h with rfl | h
        · exact .inr (by simp)
        · obtain rfl : bm = bn := by simpa using h
          exact q2
    exact ⟨_, rfl, fun h => ⟨bm, hkp, hbm, r3, by omega, by rw [hlen]; exact r4, by rw [hkey]; exact r5⟩, fun h => nomatch h⟩
  rintro v H' ⟨rfl, h | ⟨i, hi, h⟩⟩
  · obtain ⟨bn, q1, q2, q3, q4, q6, q7⟩ := h
    rw [List.take_length] at q6 q7
    exact ⟨rfl, bn, q1, q2, q3, q6, q7⟩
  · exact h.elim
theorem scnt_ok {H0 : AHeap} {F : List (Nat × AObj)} {Z : Rs} {H : AHeap} (hs : St H0 none0 Z H F) (vL : Value) (l : List Sp) (hl : l.length ≤ 1000) (stop : Int) (bn b3 bs bc jn : Nat) (hn : F[jn]? = some (bn, .cells true [.int .i64 0] 1)) (hb3 : b3 ∉ [bn])
    (hbs : bs ∉ [bn]) (hbc : bc ∉ [bn]) (h3 : Rd H b3 [.int .i64 stop] 1) (hRs : Rd H bs [vL] 1) (hRc : Rd H bc [.pointer (some ⟨bs, 0, none⟩)] 1) (hL : SlSZ spc 2 (Off H [bn]) vL l) :
    ACalls Try.prog 29 [.func (.func 13) #[] #[.pointer (some ⟨bn, 0, none⟩), .pointer (some ⟨b3, 0, none⟩)], .pointer (some ⟨bc, 0, none⟩)] H (fun v H' => v = .tuple #[] ∧ Kp (· ∈ [bn]) H H' ∧ H'[bn]? = some (.cells true [.int .i64 ((cntS l.length stop : Nat) : Int)] 1)) := by
  let Iv : Nat → AHeap → Prop := fun i H' => Kp (· ∈ [bn]) H H' ∧ i ≤ l.length ∧ (stop ≤ 0 ∨ ((i : Nat) : Int) < stop) ∧ H'[bn]? = some (.cells true [.int .i64 ((i : Nat) : Int)] 1)
  let Et : Nat → AHeap → Prop := fun i H' => Kp (· ∈ [bn]) H H' ∧ i ≤ l.length ∧ ((i : Nat) : Int) = stop ∧ 0 < stop ∧ H'[bn]? = some (.cells true [.int .i64 ((i : Nat) : Int)] 1)
  refine (alls1_ok (H0 := H) bc bs vL l (by omega) _ Iv Et ?h0 ?hm ?hb ?hy).mono ?_
  case h0 => exact ⟨.refl _ _, Nat.zero_le _, by rcases Int.lt_or_le 0 stop with h | h; exact .inr h; exact .inl h, hs.getj hn⟩
  case hm =>
    rintro i H1 H2 ⟨q1, q2, q3, q4⟩ kk
    exact ⟨q1.trans (kk.mono fun _ h => h.elim), q2, q3, (kk.get _ (lt_of_some q4) (fun h => h)).trans q4⟩
  case hb =>
    rintro i H1 ⟨q1, _⟩
    exact ⟨q1.rd hRc hbc, q1.rd hRs hbs, hL.mono fun b vs sz h => q1.rd h.1 h.2⟩
  case hy =>
    rintro i H1 ⟨q1, q2, q3, q4⟩ hi
    refine ylds_func Try.call13 ((scount_ok (H0 := H1) (nth l i) i (by omega) stop bn b3 hb3 q4 (q1.rd h3 hb3)).mono ?_)
    rintro v H2 ⟨rfl, r1, r2⟩
    refine ⟨_, rfl, fun h => ⟨q1.trans r1, by omega, ?_, r2⟩, fun h => ⟨q1.trans r1, by omega, ?_, ?_, r2⟩⟩
    · have h1 := bne_iff_ne.1 h
      omega
    · have h1 := bne_eq_false_iff_eq.1 h
      omega
    · have h1 := bne_eq_false_iff_eq.1 h
      omega
  rintro v H' ⟨rfl, h | ⟨i, hi, h⟩⟩
  · obtain ⟨q1, q2, q3, q4⟩ := h
    have e : cntS l.length stop = l.length := by unfold cntS; split <;> omega
    rw [e]
    exact ⟨rfl, q1, q4⟩
  · obtain ⟨q1, q2, q3, q4, q5⟩ := h
    have e : cntS l.length stop = i + 1 := by unfold cntS; rw [if_pos (by omega)]; omega
    rw [e]
    exact ⟨rfl, q1, q5⟩

end Go.Proofs.YtjgeheookgogaaaA


/-
  Walks of functions of the given program, and what they compute.
-/
namespace Go.Proofs.YtjgeheookgogaaaA
set_option linter.unusedVariables false
open Go Go.RowKit Go.Shelf Go.Proofs
theorem min_int {n : Nat} {z : Int} (h : 1 ≤ z) : (if z < ((n : Nat) : Int) then z else ((n : Nat) : Int)) = ((min n z.toNat : Nat) : Int) := by split <;> omega
theorem canon_nth {l : List Sp} (hc : Canon l) {i j : Nat} (hij : i < j) (hj : j < l.length) : (nth l i).2 < (nth l j).1 := by
  rw [nth_eq hj, nth_eq (by omega)]
  exact List.pairwise_iff_getElem.1 hc.2 i j (by omega) hj hij
set_option maxRecDepth 100000 in
set_option maxHeartbeats 4000000 in
theorem spanStops_ok {H0 : AHeap} (va : Value) (z : List Sp) (hz : SlS spc 2 H0 va z) (hzw : ∀ x ∈ z, SpW x) (stop : Int) (hst : stop < 9223372036854775808) : ACalls Try.prog 3 [va, .int .i64 stop] H0 (Rets (.bool true) H0) := by
  have hF : Wd Fence.wide := .inl rfl
  have hM : Try.prog.follows .mixedOrders = true := by kernel_rfl
  have s0 := St.begin H0
  refine acalls_st Try.func3 rfl Try.ntmps3 rfl ?_
  refine awp_seq ?_
  refine awp_regs hF ?_
  refine x_new (fun b => .pointer (some ⟨b, 0, none⟩)) s0 (gyes_none rfl) (q_box (v := .int .i64 stop) (vs := [.int .i64 stop]) 1 rfl (by exact trivial) rfl) rfl (by decide) (cok1 trivial) (fun b1 H2 hb4 s3 => ?_)
  refine dv (gyes_none rfl) (q_as (v := .bool false) rfl) rfl (by decide) (cok1 (cconst rfl)) ?_
  refine ⟨_, Wk.refl _ _, ?_⟩
  show awp _ _ _ _ _ _ _
  refine awp_seq ?_
  refine awp_seq ?_
  refine awp_regs hF ?_
  refine dv (gyes_none rfl) (q_call0 Try.call8 rfl (speaks_ok)) rfl (by decide) (cok1 trivial) ?_
  refine dv (gyes_none rfl) (q_not (b := true) rfl) rfl (by decide) (cok1 trivial) ?_
  refine ⟨_, Wk.refl _ _, ?_⟩
  show awp _ _ _ _ _ _ _
  refine awp_cond_f rfl ?_
  refine awp_skip_wk ?_
  refine ⟨_, Wk.refl _ _, ?_⟩
  show awp _ _ _ _ _ _ _
  refine awp_seq ?_
  refine awp_regs hF ?_
  refine x_new (fun b => .pointer (some ⟨b, 0, none⟩)) s3 (gyes_none rfl) (q_alloc (vs := [.slice none 0 0]) 1 Try.zeroValue26 (by first | exact flat_scalar rfl | exact flat_agg rfl) rfl) rfl (by decide) (by simp [Op.operands, Call.operands]) (fun b5 H6 hb8 s7 => ?_)
  refine ⟨_, Wk.refl _ _, ?_⟩
  show awp _ _ _ _ _ _ _
  refine awp_seq ?_
  refine awp_regs hF ?_
  refine dv (gyes_none rfl) (q_as (v := .int .u64 0) rfl) rfl (by decide) (cok1 (cconst rfl)) ?_
  refine ⟨_, Wk.refl _ _, ?_⟩
  show awp _ _ _ _ _ _ _
  refine awp_seq ?_
  refine awp_seq ?_
  refine awp_nilc s7 (j := 0) (o := 0) (sz' := 2) rfl rfl (fun b9 H10 hb12 s11 => ?_)
  refine awp_regs hF ?_
  refine dv (gyes_none rfl) (q_as (v := .int .i64 0) rfl) rfl (by decide) (cok1 (cconst rfl)) ?_
  refine ⟨_, Wk.refl _ _, ?_⟩
  show awp _ _ _ _ _ _ _
  refine awp_block ?_
  refine awp_wk (Wk.U [(0, va), (3, .pointer (some ⟨b1, 0, none⟩)), (4, .bool false), (5, .pointer (some ⟨b5, 0, none⟩)), (6, .int .u64 0), (7, .int .i64 0)] ⟨rfl, rfl, rfl, rfl, rfl, rfl, trivial⟩) ?_
  refine awp_loop (fun ((i, t, L) : Nat × Nat × (List Sp)) st => ∃ (H13 : AHeap) (b2 : Nat), st = ⟨106, U [(0, va), (3, .pointer (some ⟨b1, 0, none⟩)), (4, .bool false), (5, .pointer (some ⟨b5, 0, none⟩)), (6, .int .u64 ((t : Nat) : Int)), (7, .int .i64 ((i : Nat) : Int))], [], H13⟩ ∧ St H0 (none0) (Rd H0) H13 [(b2, .cells true (fl spc L) 2), (b5, .cells true [.slice (some ⟨b2, 0, none⟩) L.length L.length] 1), (b1, .cells true [.int .i64 stop] 1)] ∧ (Canon L ∧ (∀ y ∈ L, SpW y) ∧ L.length ≤ i ∧ i ≤ 30 ∧ t = totS L % 18446744073709551616)) (fun ((i, t, L) : Nat × Nat × (List Sp)) => z.length - i) (x0 := (0, 0, ([] : List Sp))) ?h0 ?round
  case h0 =>
    exact ⟨_, _, rfl, s11, ⟨canon_nil, (fun _ h => nomatch h), Nat.le_refl _, by decide, rfl⟩⟩
  case round =>
    rintro ⟨i, t, L⟩ _ ⟨H13, b2, rfl, s14, hc⟩
    dsimp only at *
    refine awp_seq ?_
    refine awp_seq ?_
    refine awp_regs hF ?_
    refine dv (gyes_none rfl) (q_mv (v := .int .i64 ((i : Nat) : Int)) rfl) rfl (by decide) (cok1 trivial) ?_
    refine dv (gyes_none rfl) (q_mv (v := va) rfl) rfl (by decide) (cok1 trivial) ?_
    refine dv (gyes_none rfl) (q_len_sls (l := z) Try.underlying22 (s14.sls hz) rfl) rfl (by decide) (cok1 trivial) ?_
    refine dvb (gyes_none rfl) (q_int rfl rfl rfl) rfl (by decide) (cok2 trivial trivial) (fun c1 => ?_) (fun c1 => ?_)
    ·
      replace c1 := of_decide_eq_true c1
      refine dv (gyes_none rfl) (q_mv (v := .bool true) rfl) rfl (by decide) (cok1 trivial) ?_
      refine dv (gyes_some rfl rfl) (q_mv (v := .int .i64 ((i : Nat) : Int)) rfl) rfl (by decide) (cok1 trivial) ?_
      refine dvb (gyes_some rfl rfl) (q_int rfl rfl rfl) rfl (by decide) (cok2 trivial (cconst rfl)) (fun c2 => ?_) (fun c2 => ?_)
      ·
        replace c2 := of_decide_eq_true c2
        refine dv (gyes_none rfl) (q_pt (v := .bool true) rfl rfl) rfl (by decide) (call_ok rfl) ?_
        refine ⟨_, Wk.refl _ _, ?_⟩
        show awp _ _ _ _ _ _ _
        refine awp_cond_t rfl ?_
        refine awp_skip_wk ?_
        refine ⟨_, Wk.refl _ _, ?_⟩
        show awp _ _ _ _ _ _ _
        refine awp_seq ?_
        refine awp_block ?_
        refine awp_seq ?_
        refine awp_regt hF hM (by kernel_rfl) (by kernel_rfl) ?_
        refine dv (gyes_none rfl) (q_mv (v := va) rfl) rfl (by decide) (cok1 trivial) ?_
        refine dv (gyes_none rfl) (q_mv (v := .int .i64 ((i : Nat) : Int)) rfl) rfl (by decide) (cok1 trivial) ?_
        refine dv (gyes_none rfl) (q_index_sls (l := z) (i := i) Try.underlying22 Try.sizeOf28 (s14.sls hz) spc_w rfl rfl (by omega)) rfl (by decide) (cok2 trivial trivial) ?_
        refine dv (gyes_none rfl) (OpQ.cast (v' := .pointer (some ⟨sb va, so va + i * 2, none⟩)) (q_indexArr_sls (l := z) (i := i) (j := 0) Try.underlying28 Try.sizeOf27 (s14.sls hz) spc_w rfl rfl (by decide) (by omega)) rfl) rfl (by decide) (cok2 trivial (cconst rfl)) ?_
        refine dv (gyes_none rfl) (q_load_sls0 (l := z) (i := i) (u := .int .u64 (((nth z i).1 : Nat) : Int)) Try.isAgg27 (s14.sls hz) spc_w rfl (by omega) (by decide) rfl) rfl (by decide) (cok1 trivial) ?_
        refine dv (gyes_none rfl) (q_mv (v := va) rfl) rfl (by decide) (cok1 trivial) ?_
        refine dv (gyes_none rfl) (q_mv (v := .int .i64 ((i : Nat) : Int)) rfl) rfl (by decide) (cok1 trivial) ?_
        refine dv (gyes_none rfl) (q_index_sls (l := z) (i := i) Try.underlying22 Try.sizeOf28 (s14.sls hz) spc_w rfl rfl (by omega)) rfl (by decide) (cok2 trivial trivial) ?_
        refine dv (gyes_none rfl) (OpQ.cast (v' := .pointer (some ⟨sb va, so va + i * 2 + 1, none⟩)) (q_indexArr_sls (l := z) (i := i) (j := 1) Try.underlying28 Try.sizeOf27 (s14.sls hz) spc_w rfl rfl (by decide) (by omega)) rfl) rfl (by decide) (cok2 trivial (cconst rfl)) ?_
        refine dv (gyes_none rfl) (q_load_sls (l := z) (i := i) (u := .int .u64 (((nth z i).2 : Nat) : Int)) Try.isAgg27 (s14.sls hz) spc_w rfl (by omega) (by decide) rfl) rfl (by decide) (cok1 trivial) ?_
        refine dv (gyes_none rfl) (q_buildL (ds := [.int .u64 (((nth z i).1 : Nat) : Int), .int .u64 (((nth z i).2 : Nat) : Int)]) [(0, 1), (1, 1)] [.int .u64 (((nth z i).1 : Nat) : Int), .int .u64 (((nth z i).2 : Nat) : Int)] Try.underlying30 Try.zeroValue30 (by first | exact flat_agg rfl | exact flat_scalar rfl) (by kernel_rfl) ⟨rfl, rfl, trivial⟩ (lvsC (by exact trivial) (lvsC (by exact trivial) lvs0)) rfl) rfl (by decide) (cok2 trivial trivial) ?_
        refine x_new (fun b => .pointer (some ⟨b, 0, none⟩)) s14 (gyes_none rfl) (q_alloc (vs := [.int .u64 0, .int .u64 0]) 2 Try.zeroValue30 (by first | exact flat_scalar rfl | exact flat_agg rfl) rfl) rfl (by decide) (by simp [Op.operands, Call.operands]) (fun b15 H16 hb18 s17 => ?_)
        refine x_store [] hF s17 (by kernel_rfl) (gyes_none rfl) (j := 0) (v := .agg #[.int .u64 (((nth z i).1 : Nat) : Int), .int .u64 (((nth z i).2 : Nat) : Int)]) rfl Try.sizeOf30 rfl rfl rfl rfl rfl trivial (lcsA ⟨(lc_scalar rfl), (lc_scalar rfl), trivial⟩) (Nat.le_of_ble_eq_true rfl) trivial trivial rfl rfl (F' := [(b15, .cells true [.int .u64 (((nth z i).1 : Nat) : Int), .int .u64 (((nth z i).2 : Nat) : Int)] 2), (b2, .cells true (fl spc L) 2), (b5, .cells true [.slice (some ⟨b2, 0, none⟩) L.length L.length] 1), (b1, .cells true [.int .i64 stop] 1)]) rfl (fun H19 s20 => ⟨?_, ?_⟩)
        · exact trivial
        refine ⟨_, Wk.refl _ _, ?_⟩
        show awp _ _ _ _ _ _ _
        refine awp_seq ?_
        refine awp_regs hF ?_
        refine dv (gyes_none rfl) (q_loadAgg Try.isAgg30 Try.sizeOf30 rfl (s20.rd (j := 0) rfl) (Nat.le_of_ble_eq_true rfl) rfl) rfl (by decide) (cok1 trivial) ?_
        refine x_call [] hF (by kernel_rfl) (gyes_none rfl) Try.call9 rfl (args := [.pointer (some ⟨b5, 0, none⟩), .agg #[.int .u64 (((nth z i).1 : Nat) : Int), .int .u64 (((nth z i).2 : Nat) : Int)]]) rfl (add_ok b5 b2 L (by first | decide | omega) (nod2 (s20.nej (i := 2) (j := 1) rfl rfl (by decide))) (s20.getj (j := 2) rfl) (s20.getj (j := 1) rfl) (nth z i)) (show _ < _ by decide) (call_ok rfl) rfl rfl (fun _ _ _ _ hd => by cases hd) ?_
        rintro _ H21 ⟨ok30, L31, b22, rfl, hr23, hk24, ho25, hn26, h27, h28⟩
        have s29 := s20.turn2 (j9 := 2) (jl := 1) rfl rfl (by decide) hk24 ho25 hn26 h27 h28
        have hv := addR_v hr23 hc.1 hc.2.1 (hzw _ (nthN_mem (by omega)))
        have hlen := hv.len
        have htot := hv.tot
        cases ok30
        case false =>
          refine ⟨trivial, ?_⟩
          show dList _ _ _ _ _ _ _ _ _ _
          refine ⟨_, Wk.refl _ _, ?_⟩
          show awp _ _ _ _ _ _ _
          refine awp_cond_f rfl ?_
          refine awp_skip_wk ?_
          refine ⟨_, Wk.refl _ _, ?_⟩
          show awp _ _ _ _ _ _ _
          refine awp_regs hF ?_
          refine dv (gyes_none rfl) (q_mv (v := .int .i64 ((i : Nat) : Int)) rfl) rfl (by decide) (cok1 trivial) ?_
          refine dv (gyes_none rfl) (OpQ.cast (v' := .int .i64 ((i + 1 : Nat) : Int)) (q_int rfl rfl rfl) (congrArg _ ((i64_in (by omega)).trans (by first | rfl | omega | (push_cast; rfl))))) rfl (by decide) (cok2 trivial (cconst rfl)) ?_
          refine dv (gyes_none rfl) (q_as (v := .int .i64 ((i + 1 : Nat) : Int)) rfl) rfl (by decide) (cok1 trivial) ?_
          refine ⟨_, Wk.U [(0, va), (3, .pointer (some ⟨b1, 0, none⟩)), (4, .bool false), (5, .pointer (some ⟨b5, 0, none⟩)), (6, .int .u64 ((t : Nat) : Int)), (7, .int .i64 (((i + 1) : Nat) : Int))] ⟨rfl, rfl, rfl, rfl, rfl, rfl, trivial⟩, ((i + 1), t, L31), ⟨_, _, rfl, (s29.sub (.cons _ (.cons_cons _ (.cons_cons _ (.cons_cons _ (.refl _)))))), ⟨hv.canon, hv.spw, by dsimp only; omega, by dsimp only; omega, by have hct := hc.2.2.2.2; first | (rw [if_pos rfl] at htot; dsimp only at *; omega) | (rw [if_neg (fun h => nomatch h)] at htot; dsimp only at *; omega)⟩⟩, (by omega)⟩
        case true =>
          refine ⟨trivial, ?_⟩
          show dList _ _ _ _ _ _ _ _ _ _
          refine ⟨_, Wk.refl _ _, ?_⟩
          show awp _ _ _ _ _ _ _
          refine awp_cond_t rfl ?_
          refine awp_regs hF ?_
          refine dv (gyes_none rfl) (q_mv (v := .int .u64 ((t : Nat) : Int)) rfl) rfl (by decide) (cok1 trivial) ?_
          refine dv (gyes_none rfl) (q_loadAgg Try.isAgg30 Try.sizeOf30 rfl (s29.rd (j := 0) rfl) (Nat.le_of_ble_eq_true rfl) rfl) rfl (by decide) (cok1 trivial) ?_
          refine dv (gyes_none rfl) (q_call0 Try.call10 rfl (splen_ok (nth z i) (hzw _ (nthN_mem (by omega))))) rfl (by decide) (cok2 trivial trivial) ?_
          refine dv (gyes_none rfl) (OpQ.cast (v' := .int .u64 (((t + ((nth z i).2 - (nth z i).1)) % 18446744073709551616 : Nat) : Int)) (q_int rfl rfl rfl) (congrArg _ (wrapU64 (t + ((nth z i).2 - (nth z i).1))))) rfl (by decide) (cok2 trivial trivial) ?_
          refine dv (gyes_none rfl) (q_as (v := .int .u64 (((t + ((nth z i).2 - (nth z i).1)) % 18446744073709551616 : Nat) : Int)) rfl) rfl (by decide) (cok1 trivial) ?_
          refine ⟨_, Wk.refl _ _, ?_⟩
          show awp _ _ _ _ _ _ _
          refine awp_regs hF ?_
          refine dv (gyes_none rfl) (q_mv (v := .int .i64 ((i : Nat) : Int)) rfl) rfl (by decide) (cok1 trivial) ?_
          refine dv (gyes_none rfl) (OpQ.cast (v' := .int .i64 ((i + 1 : Nat) : Int)) (q_int rfl rfl rfl) (congrArg _ ((i64_in (by omega)).trans (by first | rfl | omega | (push_cast; rfl))))) rfl (by decide) (cok2 trivial (cconst rfl)) ?_
          refine dv (gyes_none rfl) (q_as (v := .int .i64 ((i + 1 : Nat) : Int)) rfl) rfl (by decide) (cok1 trivial) ?_
          refine ⟨_, Wk.U [(0, va), (3, .pointer (some ⟨b1, 0, none⟩)), (4, .bool false), (5, .pointer (some ⟨b5, 0, none⟩)), (6, .int .u64 ((((t + ((nth z i).2 - (nth z i).1)) % 18446744073709551616) : Nat) : Int)), (7, .int .i64 (((i + 1) : Nat) : Int))] ⟨rfl, rfl, rfl, rfl, rfl, rfl, trivial⟩, ((i + 1), ((t + ((nth z i).2 - (nth z i).1)) % 18446744073709551616), L31), ⟨_, _, rfl, (s29.sub (.cons _ (.cons_cons _ (.cons_cons _ (.cons_cons _ (.refl _)))))), ⟨hv.canon, hv.spw, by dsimp only; omega, by dsimp only; omega, by have hct := hc.2.2.2.2; first | (rw [if_pos rfl] at htot; dsimp only at *; omega) | (rw [if_neg (fun h => nomatch h)] at htot; dsimp only at *; omega)⟩⟩, (by omega)⟩
      ·
        replace c2 := of_decide_eq_false c2
        refine dv (gyes_none rfl) (q_pt (v := .bool false) rfl rfl) rfl (by decide) (call_ok rfl) ?_
        refine ⟨_, Wk.refl _ _, ?_⟩
        show awp _ _ _ _ _ _ _
        refine awp_cond_f rfl ?_
        refine awp_exit_wk ?_
        refine ⟨_, Wk.refl _ _, ?_⟩
        show awp _ _ _ _ _ _ _
        refine awp_seq ?_
        refine awp_regs hF ?_
        refine x_new (fun b => .pointer (some ⟨b, 0, none⟩)) s14 (gyes_none rfl) (q_alloc (vs := [.slice none 0 0]) 1 Try.zeroValue24 (by first | exact flat_scalar rfl | exact flat_agg rfl) rfl) rfl (by decide) (by simp [Op.operands, Call.operands]) (fun b32 H33 hb35 s34 => ?_)
        refine ⟨_, Wk.refl _ _, ?_⟩
        show awp _ _ _ _ _ _ _
        refine awp_seq ?_
        refine awp_nilc s34 (j := 0) (o := 0) (sz' := 2) rfl rfl (fun b36 H37 hb39 s38 => ?_)
        refine awp_regs hF ?_
        refine x_call [] hF (by kernel_rfl) (gyes_none rfl) Try.call11 rfl (args := [.pointer (some ⟨b5, 0, none⟩)]) rfl (all_ok b5 _ (s38.rd (j := 3) rfl)) (show _ < _ by decide) (call_ok rfl) rfl rfl (fun _ _ _ _ hd => by cases hd) ?_
        rintro _ H41 ⟨b40, rfl, hn42⟩
        have s43 := s38.callL hn42
        refine ⟨trivial, ?_⟩
        show dList _ _ _ _ _ _ _ _ _ _
        refine dv (gyes_none rfl) (q_makeFuncL [.pointer (some ⟨b32, 0, none⟩)] ⟨rfl, trivial⟩) rfl (by decide) (cok1 trivial) ?_
        refine x_call [] hF (by kernel_rfl) (gyes_none rfl) Try.call29 rfl (args := [.func (.func 12) #[] #[.pointer (some ⟨b32, 0, none⟩)], .pointer (some ⟨b40, 0, none⟩)]) rfl (srun_ok s43 _ L (by omega) b32 b36 b5 b40 2 1 rfl rfl (by decide) (nin2 (s43.nej (i := 4) (j := 2) rfl rfl (by decide)) (s43.nej (i := 4) (j := 1) rfl rfl (by decide))) (nin2 (s43.nej (i := 0) (j := 2) rfl rfl (by decide)) (s43.nej (i := 0) (j := 1) rfl rfl (by decide))) (s43.rd (j := 4) rfl) (s43.rd (j := 0) rfl) (slsz_full spc_w ⟨(s43.rd (j := 3) rfl), (nin2 (s43.nej (i := 3) (j := 2) rfl rfl (by decide)) (s43.nej (i := 3) (j := 1) rfl rfl (by decide)))⟩ rfl (Nat.le_refl _))) (show _ < _ by decide) (call_ok rfl) rfl rfl (fun _ _ _ _ hd => by cases hd) ?_
        rintro _ H44 ⟨rfl, b45, hk46, ho47, hn48, h49, h50⟩
        have s51 := s43.turn2 (j9 := 2) (jl := 1) rfl rfl (by decide) hk46 ho47 hn48 h49 h50
        refine ⟨trivial, ?_⟩
        show dList _ _ _ _ _ _ _ _ _ _
        refine ⟨_, Wk.refl _ _, ?_⟩
        show awp _ _ _ _ _ _ _
        refine awp_seq ?_
        refine awp_regs hF ?_
        refine x_new (fun b => .pointer (some ⟨b, 0, none⟩)) s51 (gyes_none rfl) (q_alloc (vs := [.int .i64 0]) 1 Try.zeroValue3 (by first | exact flat_scalar rfl | exact flat_agg rfl) rfl) rfl (by decide) (by simp [Op.operands, Call.operands]) (fun b52 H53 hb55 s54 => ?_)
        refine x_store1 [] hF s54 (by kernel_rfl) (gyes_none rfl) (j := 0) (v := .int .i64 0) rfl Try.sizeOf3 rfl rfl rfl (lc_scalar rfl) (Nat.le_of_ble_eq_true rfl) trivial (cconst rfl) rfl rfl (F' := [(b52, .cells true [.int .i64 0] 1), (b40, .cells true [.pointer (some ⟨b5, 0, none⟩)] 1), (b45, .cells true (fl spc L) 2), (b32, .cells true [.slice (some ⟨b45, 0, none⟩) L.length L.length] 1), (b2, .cells true (fl spc L) 2), (b5, .cells true [.slice (some ⟨b2, 0, none⟩) L.length L.length] 1), (b1, .cells true [.int .i64 stop] 1)]) rfl (fun H56 s57 => ⟨?_, ?_⟩)
        · exact trivial
        refine ⟨_, Wk.refl _ _, ?_⟩
        show awp _ _ _ _ _ _ _
        refine awp_seq ?_
        refine awp_regs hF ?_
        refine x_call [] hF (by kernel_rfl) (gyes_none rfl) Try.call11 rfl (args := [.pointer (some ⟨b5, 0, none⟩)]) rfl (all_ok b5 _ (s57.rd (j := 5) rfl)) (show _ < _ by decide) (call_ok rfl) rfl rfl (fun _ _ _ _ hd => by cases hd) ?_
        rintro _ H59 ⟨b58, rfl, hn60⟩
        have s61 := s57.callL hn60
        refine ⟨trivial, ?_⟩
        show dList _ _ _ _ _ _ _ _ _ _
        refine dv (gyes_none rfl) (q_makeFuncL [.pointer (some ⟨b52, 0, none⟩), .pointer (some ⟨b1, 0, none⟩)] ⟨rfl, rfl, trivial⟩) rfl (by decide) (cok2 trivial trivial) ?_
        refine x_call [] hF (by kernel_rfl) (gyes_none rfl) Try.call29 rfl (args := [.func (.func 13) #[] #[.pointer (some ⟨b52, 0, none⟩), .pointer (some ⟨b1, 0, none⟩)], .pointer (some ⟨b58, 0, none⟩)]) rfl (scnt_ok s61 _ L (by omega) stop b52 b1 b5 b58 1 rfl (nin1 (s61.nej (i := 7) (j := 1) rfl rfl (by decide))) (nin1 (s61.nej (i := 6) (j := 1) rfl rfl (by decide))) (nin1 (s61.nej (i := 0) (j := 1) rfl rfl (by decide))) (s61.rd (j := 7) rfl) (s61.rd (j := 6) rfl) (s61.rd (j := 0) rfl) (slsz_full spc_w ⟨(s61.rd (j := 5) rfl), (nin1 (s61.nej (i := 5) (j := 1) rfl rfl (by decide)))⟩ rfl (Nat.le_refl _))) (show _ < _ by decide) (call_ok rfl) rfl rfl (fun _ _ _ _ hd => by cases hd) ?_
        rintro _ H62 ⟨rfl, hk63, h64⟩
        have s65 := s61.turn1 (j := 1) rfl hk63 h64
        refine ⟨trivial, ?_⟩
        show dList _ _ _ _ _ _ _ _ _ _
        refine ⟨_, Wk.refl _ _, ?_⟩
        show awp _ _ _ _ _ _ _
        refine awp_seq ?_
        refine awp_regs hF ?_
        refine dv (gyes_none rfl) (q_load (v := .slice (some ⟨b45, 0, none⟩) L.length L.length) Try.isAgg24 rfl (s65.rd (j := 4) rfl) rfl) rfl (by decide) (cok1 trivial) ?_
        refine dv (gyes_none rfl) (q_len_slice Try.underlying24 rfl (s65.rd (j := 3) rfl)) rfl (by decide) (cok1 trivial) ?_
        refine dv (gyes_none rfl) (q_as (v := .int .i64 ((L.length : Nat) : Int)) rfl) rfl (by decide) (cok1 trivial) ?_
        refine ⟨_, Wk.refl _ _, ?_⟩
        show awp _ _ _ _ _ _ _
        refine awp_join (fun st => ∃ (H66 : AHeap) (q : Nat), st = ⟨106, U [(0, va), (3, .pointer (some ⟨b1, 0, none⟩)), (4, .bool false), (5, .pointer (some ⟨b5, 0, none⟩)), (6, .int .u64 ((t : Nat) : Int)), (9, .pointer (some ⟨b32, 0, none⟩)), (10, .pointer (some ⟨b52, 0, none⟩)), (11, .int .i64 ((q : Nat) : Int))], [], H66⟩ ∧ St H0 (none0) (Rd H0) H66 [(b58, .cells true [.pointer (some ⟨b5, 0, none⟩)] 1), (b52, .cells true [.int .i64 ((cntS L.length stop : Nat) : Int)] 1), (b40, .cells true [.pointer (some ⟨b5, 0, none⟩)] 1), (b45, .cells true (fl spc L) 2), (b32, .cells true [.slice (some ⟨b45, 0, none⟩) L.length L.length] 1), (b2, .cells true (fl spc L) 2), (b5, .cells true [.slice (some ⟨b2, 0, none⟩) L.length L.length] 1), (b1, .cells true [.int .i64 stop] 1)] ∧ (q = cntS L.length stop)) ?j1 ?j2
        case j1 =>
          refine awp_seq ?_
          refine awp_regs hF ?_
          refine dv (gyes_none rfl) (q_load (v := .int .i64 stop) Try.isAgg3 rfl (s65.rd (j := 7) rfl) rfl) rfl (by decide) (cok1 trivial) ?_
          refine dvb (gyes_none rfl) (q_int rfl rfl rfl) rfl (by decide) (cok2 trivial (cconst rfl)) (fun c3 => ?_) (fun c3 => ?_)
          ·
            replace c3 := of_decide_eq_true c3
            refine ⟨_, Wk.refl _ _, ?_⟩
            show awp _ _ _ _ _ _ _
            refine awp_cond_t rfl ?_
            refine awp_regs hF ?_
            refine dv (gyes_none rfl) (q_mv (v := .int .i64 ((L.length : Nat) : Int)) rfl) rfl (by decide) (cok1 trivial) ?_
            refine dv (gyes_none rfl) (q_load (v := .int .i64 stop) Try.isAgg3 rfl (s65.rd (j := 7) rfl) rfl) rfl (by decide) (cok1 trivial) ?_
            refine dv (gyes_none rfl) (OpQ.cast (v' := .int .i64 ((min L.length stop.toNat : Nat) : Int)) (q_min rfl rfl) (congrArg (Value.int .i64) (min_int (by omega)))) rfl (by decide) (cok2 trivial trivial) ?_
            refine dv (gyes_none rfl) (q_as (v := .int .i64 ((min L.length stop.toNat : Nat) : Int)) rfl) rfl (by decide) (cok1 trivial) ?_
            exact ⟨_, Wk.U [(0, va), (3, .pointer (some ⟨b1, 0, none⟩)), (4, .bool false), (5, .pointer (some ⟨b5, 0, none⟩)), (6, .int .u64 ((t : Nat) : Int)), (9, .pointer (some ⟨b32, 0, none⟩)), (10, .pointer (some ⟨b52, 0, none⟩)), (11, .int .i64 (((min L.length stop.toNat) : Nat) : Int))] ⟨rfl, rfl, rfl, rfl, rfl, rfl, rfl, rfl, trivial⟩, ⟨_, (min L.length stop.toNat), rfl, s65, (by unfold cntS; first | (rw [if_pos (by omega)]; done) | (rw [if_neg (by omega)]; done))⟩⟩
          ·
            replace c3 := of_decide_eq_false c3
            refine ⟨_, Wk.refl _ _, ?_⟩
            show awp _ _ _ _ _ _ _
            refine awp_cond_f rfl ?_
            refine awp_skip_wk ?_
            exact ⟨_, Wk.U [(0, va), (3, .pointer (some ⟨b1, 0, none⟩)), (4, .bool false), (5, .pointer (some ⟨b5, 0, none⟩)), (6, .int .u64 ((t : Nat) : Int)), (9, .pointer (some ⟨b32, 0, none⟩)), (10, .pointer (some ⟨b52, 0, none⟩)), (11, .int .i64 ((L.length : Nat) : Int))] ⟨rfl, rfl, rfl, rfl, rfl, rfl, rfl, rfl, trivial⟩, ⟨_, L.length, rfl, s65, (by unfold cntS; first | (rw [if_pos (by omega)]; done) | (rw [if_neg (by omega)]; done))⟩⟩
        case j2 =>
          rintro _ ⟨H66, q, rfl, s67, hq⟩
          refine awp_seq ?_
          refine awp_seq ?_
          refine awp_regs hF ?_
          refine dv (gyes_none rfl) (q_as (v := .int .i64 0) rfl) rfl (by decide) (cok1 (cconst rfl)) ?_
          refine ⟨_, Wk.refl _ _, ?_⟩
          show awp _ _ _ _ _ _ _
          refine awp_block ?_
          refine awp_wk (Wk.U [(0, va), (3, .pointer (some ⟨b1, 0, none⟩)), (4, .bool false), (5, .pointer (some ⟨b5, 0, none⟩)), (6, .int .u64 ((t : Nat) : Int)), (9, .pointer (some ⟨b32, 0, none⟩)), (10, .pointer (some ⟨b52, 0, none⟩)), (11, .int .i64 ((q : Nat) : Int)), (12, .int .i64 0)] ⟨rfl, rfl, rfl, rfl, rfl, rfl, rfl, rfl, rfl, trivial⟩) ?_
          refine awp_loop (fun (j : Nat) st => ∃ (H68 : AHeap), st = ⟨106, U [(0, va), (3, .pointer (some ⟨b1, 0, none⟩)), (4, .bool false), (5, .pointer (some ⟨b5, 0, none⟩)), (6, .int .u64 ((t : Nat) : Int)), (9, .pointer (some ⟨b32, 0, none⟩)), (10, .pointer (some ⟨b52, 0, none⟩)), (11, .int .i64 ((q : Nat) : Int)), (12, .int .i64 ((j : Nat) : Int))], [], H68⟩ ∧ St H0 (none0) (Rd H0) H68 [(b58, .cells true [.pointer (some ⟨b5, 0, none⟩)] 1), (b52, .cells true [.int .i64 ((cntS L.length stop : Nat) : Int)] 1), (b40, .cells true [.pointer (some ⟨b5, 0, none⟩)] 1), (b45, .cells true (fl spc L) 2), (b32, .cells true [.slice (some ⟨b45, 0, none⟩) L.length L.length] 1), (b2, .cells true (fl spc L) 2), (b5, .cells true [.slice (some ⟨b2, 0, none⟩) L.length L.length] 1), (b1, .cells true [.int .i64 stop] 1)]) (fun (j : Nat) => L.length - j) (x0 := (0)) ?h0 ?round
          case h0 =>
            exact ⟨_, rfl, s67⟩
          case round =>
            rintro j _ ⟨H68, rfl, s69⟩
            refine awp_seq ?_
            refine awp_seq ?_
            refine awp_regs hF ?_
            refine dv (gyes_none rfl) (q_mv (v := .int .i64 ((j : Nat) : Int)) rfl) rfl (by decide) (cok1 trivial) ?_
            refine dv (gyes_none rfl) (q_load (v := .slice (some ⟨b45, 0, none⟩) L.length L.length) Try.isAgg24 rfl (s69.rd (j := 4) rfl) rfl) rfl (by decide) (cok1 trivial) ?_
            refine dv (gyes_none rfl) (q_len_slice Try.underlying24 rfl (s69.rd (j := 3) rfl)) rfl (by decide) (cok1 trivial) ?_
            refine dvb (gyes_none rfl) (q_int rfl rfl rfl) rfl (by decide) (cok2 trivial trivial) (fun c4 => ?_) (fun c4 => ?_)
            ·
              replace c4 := of_decide_eq_true c4
              refine ⟨_, Wk.refl _ _, ?_⟩
              show awp _ _ _ _ _ _ _
              refine awp_cond_t rfl ?_
              refine awp_skip_wk ?_
              refine ⟨_, Wk.refl _ _, ?_⟩
              show awp _ _ _ _ _ _ _
              refine awp_seq ?_
              refine awp_block ?_
              refine awp_seq ?_
              have hjm : nth L j ∈ L := nthN_mem (by omega)
              have hne := hc.1.1 _ hjm
              have hpw : 0 < j → (nth L (j - 1)).2 < (nth L j).1 := fun h => canon_nth hc.1 (by omega) (by omega)
              refine awp_regt hF hM (by kernel_rfl) (by kernel_rfl) ?_
              refine dv (gyes_none rfl) (q_load (v := .slice (some ⟨b45, 0, none⟩) L.length L.length) Try.isAgg24 rfl (s69.rd (j := 4) rfl) rfl) rfl (by decide) (cok1 trivial) ?_
              refine dv (gyes_none rfl) (q_mv (v := .int .i64 ((j : Nat) : Int)) rfl) rfl (by decide) (cok1 trivial) ?_
              refine dv (gyes_none rfl) (OpQ.cast (v' := .pointer (some ⟨b45, j * 2, none⟩)) (q_index (u := 0) (i := j) Try.underlying24 Try.sizeOf30 rfl rfl (by omega) (s69.rd (j := 3) rfl)) (by rw [Nat.zero_add])) rfl (by decide) (cok2 trivial trivial) ?_
              refine dv (gyes_none rfl) (q_field Try.underlying30 rfl Try.sizeOf27 rfl (s69.rd (j := 3) rfl)) rfl (by decide) (cok1 trivial) ?_
              refine dv (gyes_none rfl) (q_load (v := .int .u64 (((nth L j).2 : Nat) : Int)) Try.isAgg27 rfl (s69.rd (j := 3) rfl) ((fl_get spc_w (by omega) (by decide)).trans rfl)) rfl (by decide) (cok1 trivial) ?_
              refine dv (gyes_none rfl) (q_load (v := .slice (some ⟨b45, 0, none⟩) L.length L.length) Try.isAgg24 rfl (s69.rd (j := 4) rfl) rfl) rfl (by decide) (cok1 trivial) ?_
              refine dv (gyes_none rfl) (q_mv (v := .int .i64 ((j : Nat) : Int)) rfl) rfl (by decide) (cok1 trivial) ?_
              refine dv (gyes_none rfl) (OpQ.cast (v' := .pointer (some ⟨b45, j * 2, none⟩)) (q_index (u := 0) (i := j) Try.underlying24 Try.sizeOf30 rfl rfl (by omega) (s69.rd (j := 3) rfl)) (by rw [Nat.zero_add])) rfl (by decide) (cok2 trivial trivial) ?_
              refine dv (gyes_none rfl) (q_field Try.underlying30 rfl Try.sizeOf27 rfl (s69.rd (j := 3) rfl)) rfl (by decide) (cok1 trivial) ?_
              refine dv (gyes_none rfl) (q_load (v := .int .u64 (((nth L j).1 : Nat) : Int)) Try.isAgg27 rfl (s69.rd (j := 3) rfl) ((fl_get0 spc_w (by omega) (by decide)).trans rfl)) rfl (by decide) (cok1 trivial) ?_
              refine dv (gyes_none rfl) (OpQ.cast (v' := .bool false) (q_int rfl rfl rfl) (congrArg Value.bool (decide_eq_false (by omega)))) rfl (by decide) (cok2 trivial trivial) ?_
              refine dv (gyes_none rfl) (q_mv (v := .bool false) rfl) rfl (by decide) (cok1 trivial) ?_
              refine dv (gyes_some rfl rfl) (q_mv (v := .int .i64 ((j : Nat) : Int)) rfl) rfl (by decide) (cok1 trivial) ?_
              refine dvb (gyes_some rfl rfl) (q_int rfl rfl rfl) rfl (by decide) (cok2 trivial (cconst rfl)) (fun c5 => ?_) (fun c5 => ?_)
              ·
                replace c5 := of_decide_eq_true c5
                refine dv (gyes_some rfl rfl) (q_mv (v := .bool true) rfl) rfl (by decide) (cok1 trivial) ?_
                refine dv (gyes_some rfl rfl) (q_load (v := .slice (some ⟨b45, 0, none⟩) L.length L.length) Try.isAgg24 rfl (s69.rd (j := 4) rfl) rfl) rfl (by decide) (cok1 trivial) ?_
                refine dv (gyes_some rfl rfl) (q_mv (v := .int .i64 ((j : Nat) : Int)) rfl) rfl (by decide) (cok1 trivial) ?_
                refine dv (gyes_some rfl rfl) (OpQ.cast (v' := .int .i64 ((j - 1 : Nat) : Int)) (q_int rfl rfl rfl) (congrArg _ ((i64_in (by omega)).trans (by omega)))) rfl (by decide) (cok2 trivial (cconst rfl)) ?_
                refine dv (gyes_some rfl rfl) (OpQ.cast (v' := .pointer (some ⟨b45, (j - 1) * 2, none⟩)) (q_index (u := 0) (i := (j - 1)) Try.underlying24 Try.sizeOf30 rfl rfl (by omega) (s69.rd (j := 3) rfl)) (by rw [Nat.zero_add])) rfl (by decide) (cok2 trivial trivial) ?_
                refine dv (gyes_some rfl rfl) (q_field Try.underlying30 rfl Try.sizeOf27 rfl (s69.rd (j := 3) rfl)) rfl (by decide) (cok1 trivial) ?_
                refine dv (gyes_some rfl rfl) (q_load (v := .int .u64 (((nth L (j - 1)).2 : Nat) : Int)) Try.isAgg27 rfl (s69.rd (j := 3) rfl) ((fl_get spc_w (by omega) (by decide)).trans rfl)) rfl (by decide) (cok1 trivial) ?_
                refine dv (gyes_some rfl rfl) (q_load (v := .slice (some ⟨b45, 0, none⟩) L.length L.length) Try.isAgg24 rfl (s69.rd (j := 4) rfl) rfl) rfl (by decide) (cok1 trivial) ?_
                refine dv (gyes_some rfl rfl) (q_mv (v := .int .i64 ((j : Nat) : Int)) rfl) rfl (by decide) (cok1 trivial) ?_
                refine dv (gyes_some rfl rfl) (OpQ.cast (v' := .pointer (some ⟨b45, j * 2, none⟩)) (q_index (u := 0) (i := j) Try.underlying24 Try.sizeOf30 rfl rfl (by omega) (s69.rd (j := 3) rfl)) (by rw [Nat.zero_add])) rfl (by decide) (cok2 trivial trivial) ?_
                refine dv (gyes_some rfl rfl) (q_field Try.underlying30 rfl Try.sizeOf27 rfl (s69.rd (j := 3) rfl)) rfl (by decide) (cok1 trivial) ?_
                refine dv (gyes_some rfl rfl) (q_load (v := .int .u64 (((nth L j).1 : Nat) : Int)) Try.isAgg27 rfl (s69.rd (j := 3) rfl) ((fl_get0 spc_w (by omega) (by decide)).trans rfl)) rfl (by decide) (cok1 trivial) ?_
                refine dv (gyes_some rfl rfl) (OpQ.cast (v' := .bool false) (q_int rfl rfl rfl) (congrArg Value.bool (decide_eq_false (by have := hpw (by omega); omega)))) rfl (by decide) (cok2 trivial trivial) ?_
                refine dv (gyes_some rfl rfl) (q_pt (v := .bool false) rfl rfl) rfl (by decide) (call_ok rfl) ?_
                refine dv (gyes_none rfl) (q_pf (v := .bool false) rfl rfl) rfl (by decide) (call_ok rfl) ?_
                refine dv (gyes_none rfl) (q_mv (v := .bool false) rfl) rfl (by decide) (cok1 trivial) ?_
                refine dv (gyes_some rfl rfl) (q_load (v := .slice (some ⟨b45, 0, none⟩) L.length L.length) Try.isAgg24 rfl (s69.rd (j := 4) rfl) rfl) rfl (by decide) (cok1 trivial) ?_
                refine dv (gyes_some rfl rfl) (q_mv (v := .int .i64 ((j : Nat) : Int)) rfl) rfl (by decide) (cok1 trivial) ?_
                refine dv (gyes_some rfl rfl) (OpQ.cast (v' := .pointer (some ⟨b45, j * 2, none⟩)) (q_index (u := 0) (i := j) Try.underlying24 Try.sizeOf30 rfl rfl (by omega) (s69.rd (j := 3) rfl)) (by rw [Nat.zero_add])) rfl (by decide) (cok2 trivial trivial) ?_
                refine dv (gyes_some rfl rfl) (q_loadAgg (us := spc (nth L j)) Try.isAgg30 Try.sizeOf30 rfl (s69.rd (j := 3) rfl) (fl_room spc_w (by omega)) (fl_at spc_w (by omega))) rfl (by decide) (cok1 trivial) ?_
                refine dv (gyes_some rfl rfl) (q_call0 Try.call14 rfl (ACalls.castV (v' := .bool true) (covers_ok b5 _ L (s69.rd (j := 6) rfl) (s69.slsj (l := L) spc_w (j := 5) rfl rfl (Nat.le_refl _)) (by first | decide | omega) (nth L j)) (congrArg Value.bool (by rw [List.any_eq_true.2 ⟨_, hjm, within_iff.2 (.inr ⟨Nat.le_refl _, Nat.le_refl _⟩)⟩, Bool.or_true])))) rfl (by decide) (call_ok rfl) ?_
                refine dv (gyes_some rfl rfl) (q_not (b := true) rfl) rfl (by decide) (cok1 trivial) ?_
                refine dv (gyes_none rfl) (q_pf (v := .bool false) rfl rfl) rfl (by decide) (call_ok rfl) ?_
                refine ⟨_, Wk.refl _ _, ?_⟩
                show awp _ _ _ _ _ _ _
                refine awp_cond_f rfl ?_
                refine awp_skip_wk ?_
                refine ⟨_, Wk.refl _ _, ?_⟩
                show awp _ _ _ _ _ _ _
                refine awp_regs hF ?_
                refine dv (gyes_none rfl) (q_mv (v := .int .i64 ((j : Nat) : Int)) rfl) rfl (by decide) (cok1 trivial) ?_
                refine dv (gyes_none rfl) (OpQ.cast (v' := .int .i64 ((j + 1 : Nat) : Int)) (q_int rfl rfl rfl) (congrArg _ ((i64_in (by omega)).trans (by first | rfl | omega | (push_cast; rfl))))) rfl (by decide) (cok2 trivial (cconst rfl)) ?_
                refine dv (gyes_none rfl) (q_as (v := .int .i64 ((j + 1 : Nat) : Int)) rfl) rfl (by decide) (cok1 trivial) ?_
                refine ⟨_, Wk.U [(0, va), (3, .pointer (some ⟨b1, 0, none⟩)), (4, .bool false), (5, .pointer (some ⟨b5, 0, none⟩)), (6, .int .u64 ((t : Nat) : Int)), (9, .pointer (some ⟨b32, 0, none⟩)), (10, .pointer (some ⟨b52, 0, none⟩)), (11, .int .i64 ((q : Nat) : Int)), (12, .int .i64 (((j + 1) : Nat) : Int))] ⟨rfl, rfl, rfl, rfl, rfl, rfl, rfl, rfl, rfl, trivial⟩, (j + 1), ⟨_, rfl, s69⟩, (by omega)⟩
              ·
                replace c5 := of_decide_eq_false c5
                refine dv (gyes_some rfl rfl) (q_mv (v := .bool false) rfl) rfl (by decide) (cok1 trivial) ?_
                refine dno rfl (.inl rfl) rfl (by decide) ?_
                refine dno rfl (.inl rfl) rfl (by decide) ?_
                refine dno rfl (.inl rfl) rfl (by decide) ?_
                refine dno rfl (.inl rfl) rfl (by decide) ?_
                refine dno rfl (.inl rfl) rfl (by decide) ?_
                refine dno rfl (.inl rfl) rfl (by decide) ?_
                refine dno rfl (.inl rfl) rfl (by decide) ?_
                refine dno rfl (.inl rfl) rfl (by decide) ?_
                refine dno rfl (.inl rfl) rfl (by decide) ?_
                refine dno rfl (.inl rfl) rfl (by decide) ?_
                refine dno rfl (.inl rfl) rfl (by decide) ?_
                refine dno rfl (.inl rfl) rfl (by decide) ?_
                refine dv (gyes_some rfl rfl) (q_pf (v := .bool false) rfl rfl) rfl (by decide) (call_ok rfl) ?_
                refine dv (gyes_none rfl) (q_pf (v := .bool false) rfl rfl) rfl (by decide) (call_ok rfl) ?_
                refine dv (gyes_none rfl) (q_mv (v := .bool false) rfl) rfl (by decide) (cok1 trivial) ?_
                refine dv (gyes_some rfl rfl) (q_load (v := .slice (some ⟨b45, 0, none⟩) L.length L.length) Try.isAgg24 rfl (s69.rd (j := 4) rfl) rfl) rfl (by decide) (cok1 trivial) ?_
                refine dv (gyes_some rfl rfl) (q_mv (v := .int .i64 ((j : Nat) : Int)) rfl) rfl (by decide) (cok1 trivial) ?_
                refine dv (gyes_some rfl rfl) (OpQ.cast (v' := .pointer (some ⟨b45, j * 2, none⟩)) (q_index (u := 0) (i := j) Try.underlying24 Try.sizeOf30 rfl rfl (by omega) (s69.rd (j := 3) rfl)) (by rw [Nat.zero_add])) rfl (by decide) (cok2 trivial trivial) ?_
                refine dv (gyes_some rfl rfl) (q_loadAgg (us := spc (nth L j)) Try.isAgg30 Try.sizeOf30 rfl (s69.rd (j := 3) rfl) (fl_room spc_w (by omega)) (fl_at spc_w (by omega))) rfl (by decide) (cok1 trivial) ?_
                refine dv (gyes_some rfl rfl) (q_call0 Try.call14 rfl (ACalls.castV (v' := .bool true) (covers_ok b5 _ L (s69.rd (j := 6) rfl) (s69.slsj (l := L) spc_w (j := 5) rfl rfl (Nat.le_refl _)) (by first | decide | omega) (nth L j)) (congrArg Value.bool (by rw [List.any_eq_true.2 ⟨_, hjm, within_iff.2 (.inr ⟨Nat.le_refl _, Nat.le_refl _⟩)⟩, Bool.or_true])))) rfl (by decide) (call_ok rfl) ?_
                refine dv (gyes_some rfl rfl) (q_not (b := true) rfl) rfl (by decide) (cok1 trivial) ?_
                refine dv (gyes_none rfl) (q_pf (v := .bool false) rfl rfl) rfl (by decide) (call_ok rfl) ?_
                refine ⟨_, Wk.refl _ _, ?_⟩
                show awp _ _ _ _ _ _ _
                refine awp_cond_f rfl ?_
                refine awp_skip_wk ?_
                refine ⟨_, Wk.refl _ _, ?_⟩
                show awp _ _ _ _ _ _ _
                refine awp_regs hF ?_
                refine dv (gyes_none rfl) (q_mv (v := .int .i64 ((j : Nat) : Int)) rfl) rfl (by decide) (cok1 trivial) ?_
                refine dv (gyes_none rfl) (OpQ.cast (v' := .int .i64 ((j + 1 : Nat) : Int)) (q_int rfl rfl rfl) (congrArg _ ((i64_in (by omega)).trans (by first | rfl | omega | (push_cast; rfl))))) rfl (by decide) (cok2 trivial (cconst rfl)) ?_
                refine dv (gyes_none rfl) (q_as (v := .int .i64 ((j + 1 : Nat) : Int)) rfl) rfl (by decide) (cok1 trivial) ?_
                refine ⟨_, Wk.U [(0, va), (3, .pointer (some ⟨b1, 0, none⟩)), (4, .bool false), (5, .pointer (some ⟨b5, 0, none⟩)), (6, .int .u64 ((t : Nat) : Int)), (9, .pointer (some ⟨b32, 0, none⟩)), (10, .pointer (some ⟨b52, 0, none⟩)), (11, .int .i64 ((q : Nat) : Int)), (12, .int .i64 (((j + 1) : Nat) : Int))] ⟨rfl, rfl, rfl, rfl, rfl, rfl, rfl, rfl, rfl, trivial⟩, (j + 1), ⟨_, rfl, s69⟩, (by omega)⟩
            ·
              replace c4 := of_decide_eq_false c4
              refine ⟨_, Wk.refl _ _, ?_⟩
              show awp _ _ _ _ _ _ _
              refine awp_cond_f rfl ?_
              refine awp_exit_wk ?_
              refine ⟨_, Wk.refl _ _, ?_⟩
              show awp _ _ _ _ _ _ _
              refine awp_seq ?_
              refine awp_regs hF ?_
              refine dv (gyes_none rfl) (q_load (v := .int .i64 ((cntS L.length stop : Nat) : Int)) Try.isAgg3 rfl (s69.rd (j := 1) rfl) rfl) rfl (by decide) (cok1 trivial) ?_
              refine dv (gyes_none rfl) (q_mv (v := .int .i64 ((q : Nat) : Int)) rfl) rfl (by decide) (cok1 trivial) ?_
              refine dv (gyes_none rfl) (OpQ.cast (v' := .bool true) (q_int rfl rfl rfl) (congrArg Value.bool (beq_iff_eq.2 (by omega)))) rfl (by decide) (cok2 trivial trivial) ?_
              refine dv (gyes_none rfl) (q_mv (v := .bool true) rfl) rfl (by decide) (cok1 trivial) ?_
              refine dv (gyes_some rfl rfl) (q_call0 Try.call15 rfl (slen_ok b5 _ L (s69.rd (j := 6) rfl) (s69.slsj (l := L) spc_w (j := 5) rfl rfl (Nat.le_refl _)) (by first | decide | omega) hc.2.1)) rfl (by decide) (cok2 trivial trivial) ?_
              refine dv (gyes_some rfl rfl) (q_mv (v := .int .u64 ((t : Nat) : Int)) rfl) rfl (by decide) (cok1 trivial) ?_
              refine dv (gyes_some rfl rfl) (OpQ.cast (v' := .bool true) (q_int rfl rfl rfl) (congrArg Value.bool (beq_iff_eq.2 (by rw [sumS_all, ← hc.2.2.2.2])))) rfl (by decide) (cok2 trivial trivial) ?_
              refine dv (gyes_none rfl) (q_pt (v := .bool true) rfl rfl) rfl (by decide) (call_ok rfl) ?_
              refine dv (gyes_none rfl) (q_as (v := .bool true) rfl) rfl (by decide) (cok1 trivial) ?_
              refine ⟨_, Wk.refl _ _, ?_⟩
              show awp _ _ _ _ _ _ _
              refine awp_ret_wk ?_
              refine ⟨_, Wk.refl _ _, ?_⟩
              repeat (with_reducible first | refine then_ret ?_ | refine blk_ret ?_ | refine then_exit ?_ | refine blk_exit ?_ | refine blk_exit' (by decide) ?_ | refine blk_normal ?_ | refine then_normal ?_ | refine retq_ret ?_ | refine retq_normal ?_ | refine ng_normal ?_ | refine ng_ret ?_ | refine ng_exit ?_)
              exact ret_none (v := .bool true) rfl s69.kp (.tmp rfl .nil) rfl rfl ⟨rfl, rfl⟩
    ·
      replace c1 := of_decide_eq_false c1
      refine dv (gyes_none rfl) (q_mv (v := .bool false) rfl) rfl (by decide) (cok1 trivial) ?_
      refine dno rfl (.inl rfl) rfl (by decide) ?_
      refine dno rfl (.inl rfl) rfl (by decide) ?_
      refine dv (gyes_none rfl) (q_pf (v := .bool false) rfl rfl) rfl (by decide) (call_ok rfl) ?_
      refine ⟨_, Wk.refl _ _, ?_⟩
      show awp _ _ _ _ _ _ _
      refine awp_cond_f rfl ?_
      refine awp_exit_wk ?_
      refine ⟨_, Wk.refl _ _, ?_⟩
      show awp _ _ _ _ _ _ _
      refine awp_seq ?_
      refine awp_regs hF ?_
      refine x_new (fun b => .pointer (some ⟨b, 0, none⟩)) s14 (gyes_none rfl) (q_alloc (vs := [.slice none 0 0]) 1 Try.zeroValue24 (by first | exact flat_scalar rfl | exact flat_agg rfl) rfl) rfl (by decide) (by simp [Op.operands, Call.operands]) (fun b70 H71 hb73 s72 => ?_)
      refine ⟨_, Wk.refl _ _, ?_⟩
      show awp _ _ _ _ _ _ _
      refine awp_seq ?_
      refine awp_nilc s72 (j := 0) (o := 0) (sz' := 2) rfl rfl (fun b74 H75 hb77 s76 => ?_)
      refine awp_regs hF ?_
      refine x_call [] hF (by kernel_rfl) (gyes_none rfl) Try.call11 rfl (args := [.pointer (some ⟨b5, 0, none⟩)]) rfl (all_ok b5 _ (s76.rd (j := 3) rfl)) (show _ < _ by decide) (call_ok rfl) rfl rfl (fun _ _ _ _ hd => by cases hd) ?_
      rintro _ H79 ⟨b78, rfl, hn80⟩
      have s81 := s76.callL hn80
      refine ⟨trivial, ?_⟩
      show dList _ _ _ _ _ _ _ _ _ _
      refine dv (gyes_none rfl) (q_makeFuncL [.pointer (some ⟨b70, 0, none⟩)] ⟨rfl, trivial⟩) rfl (by decide) (cok1 trivial) ?_
      refine x_call [] hF (by kernel_rfl) (gyes_none rfl) Try.call29 rfl (args := [.func (.func 12) #[] #[.pointer (some ⟨b70, 0, none⟩)], .pointer (some ⟨b78, 0, none⟩)]) rfl (srun_ok s81 _ L (by omega) b70 b74 b5 b78 2 1 rfl rfl (by decide) (nin2 (s81.nej (i := 4) (j := 2) rfl rfl (by decide)) (s81.nej (i := 4) (j := 1) rfl rfl (by decide))) (nin2 (s81.nej (i := 0) (j := 2) rfl rfl (by decide)) (s81.nej (i := 0) (j := 1) rfl rfl (by decide))) (s81.rd (j := 4) rfl) (s81.rd (j := 0) rfl) (slsz_full spc_w ⟨(s81.rd (j := 3) rfl), (nin2 (s81.nej (i := 3) (j := 2) rfl rfl (by decide)) (s81.nej (i := 3) (j := 1) rfl rfl (by decide)))⟩ rfl (Nat.le_refl _))) (show _ < _ by decide) (call_ok rfl) rfl rfl (fun _ _ _ _ hd => by cases hd) ?_
      rintro _ H82 ⟨rfl, b83, hk84, ho85, hn86, h87, h88⟩
      have s89 := s81.turn2 (j9 := 2) (jl := 1) rfl rfl (by decide) hk84 ho85 hn86 h87 h88
      refine ⟨trivial, ?_⟩
      show dList _ _ _ _ _ _ _ _ _ _
      refine ⟨_, Wk.refl _ _, ?_⟩
      show awp _ _ _ _ _ _ _
      refine awp_seq ?_
      refine awp_regs hF ?_
      refine x_new (fun b => .pointer (some ⟨b, 0, none⟩)) s89 (gyes_none rfl) (q_alloc (vs := [.int .i64 0]) 1 Try.zeroValue3 (by first | exact flat_scalar rfl | exact flat_agg rfl) rfl) rfl (by decide) (by simp [Op.operands, Call.operands]) (fun b90 H91 hb93 s92 => ?_)
      refine x_store1 [] hF s92 (by kernel_rfl) (gyes_none rfl) (j := 0) (v := .int .i64 0) rfl Try.sizeOf3 rfl rfl rfl (lc_scalar rfl) (Nat.le_of_ble_eq_true rfl) trivial (cconst rfl) rfl rfl (F' := [(b90, .cells true [.int .i64 0] 1), (b78, .cells true [.pointer (some ⟨b5, 0, none⟩)] 1), (b83, .cells true (fl spc L) 2), (b70, .cells true [.slice (some ⟨b83, 0, none⟩) L.length L.length] 1), (b2, .cells true (fl spc L) 2), (b5, .cells true [.slice (some ⟨b2, 0, none⟩) L.length L.length] 1), (b1, .cells true [.int .i64 stop] 1)]) rfl (fun H94 s95 => ⟨?_, ?_⟩)
      · exact trivial
      refine ⟨_, Wk.refl _ _, ?_⟩
      show awp _ _ _ _ _ _ _
      refine awp_seq ?_
      refine awp_regs hF ?_
      refine x_call [] hF (by kernel_rfl) (gyes_none rfl) Try.call11 rfl (args := [.pointer (some ⟨b5, 0, none⟩)]) rfl (all_ok b5 _ (s95.rd (j := 5) rfl)) (show _ < _ by decide) (call_ok rfl) rfl rfl (fun _ _ _ _ hd => by cases hd) ?_
      rintro _ H97 ⟨b96, rfl, hn98⟩
      have s99 := s95.callL hn98
      refine ⟨trivial, ?_⟩
      show dList _ _ _ _ _ _ _ _ _ _
      refine dv (gyes_none rfl) (q_makeFuncL [.pointer (some ⟨b90, 0, none⟩), .pointer (some ⟨b1, 0, none⟩)] ⟨rfl, rfl, trivial⟩) rfl (by decide) (cok2 trivial trivial) ?_
      refine x_call [] hF (by kernel_rfl) (gyes_none rfl) Try.call29 rfl (args := [.func (.func 13) #[] #[.pointer (some ⟨b90, 0, none⟩), .pointer (some ⟨b1, 0, none⟩)], .pointer (some ⟨b96, 0, none⟩)]) rfl (scnt_ok s99 _ L (by omega) stop b90 b1 b5 b96 1 rfl (nin1 (s99.nej (i := 7) (j := 1) rfl rfl (by decide))) (nin1 (s99.nej (i := 6) (j := 1) rfl rfl (by decide))) (nin1 (s99.nej (i := 0) (j := 1) rfl rfl (by decide))) (s99.rd (j := 7) rfl) (s99.rd (j := 6) rfl) (s99.rd (j := 0) rfl) (slsz_full spc_w ⟨(s99.rd (j := 5) rfl), (nin1 (s99.nej (i := 5) (j := 1) rfl rfl (by decide)))⟩ rfl (Nat.le_refl _))) (show _ < _ by decide) (call_ok rfl) rfl rfl (fun _ _ _ _ hd => by cases hd) ?_
      rintro _ H100 ⟨rfl, hk101, h102⟩
      have s103 := s99.turn1 (j := 1) rfl hk101 h102
      refine ⟨trivial, ?_⟩
      show dList _ _ _ _ _ _ _ _ _ _
      refine ⟨_, Wk.refl _ _, ?_⟩
      show awp _ _ _ _ _ _ _
      refine awp_seq ?_
      refine awp_regs hF ?_
      refine dv (gyes_none rfl) (q_load (v := .slice (some ⟨b83, 0, none⟩) L.length L.length) Try.isAgg24 rfl (s103.rd (j := 4) rfl) rfl) rfl (by decide) (cok1 trivial) ?_
      refine dv (gyes_none rfl) (q_len_slice Try.underlying24 rfl (s103.rd (j := 3) rfl)) rfl (by decide) (cok1 trivial) ?_
      refine dv (gyes_none rfl) (q_as (v := .int .i64 ((L.length : Nat) : Int)) rfl) rfl (by decide) (cok1 trivial) ?_
      refine ⟨_, Wk.refl _ _, ?_⟩
      show awp _ _ _ _ _ _ _
      refine awp_join (fun st => ∃ (H104 : AHeap) (q : Nat), st = ⟨106, U [(0, va), (3, .pointer (some ⟨b1, 0, none⟩)), (4, .bool false), (5, .pointer (some ⟨b5, 0, none⟩)), (6, .int .u64 ((t : Nat) : Int)), (9, .pointer (some ⟨b70, 0, none⟩)), (10, .pointer (some ⟨b90, 0, none⟩)), (11, .int .i64 ((q : Nat) : Int))], [], H104⟩ ∧ St H0 (none0) (Rd H0) H104 [(b96, .cells true [.pointer (some ⟨b5, 0, none⟩)] 1), (b90, .cells true [.int .i64 ((cntS L.length stop : Nat) : Int)] 1), (b78, .cells true [.pointer (some ⟨b5, 0, none⟩)] 1), (b83, .cells true (fl spc L) 2), (b70, .cells true [.slice (some ⟨b83, 0, none⟩) L.length L.length] 1), (b2, .cells true (fl spc L) 2), (b5, .cells true [.slice (some ⟨b2, 0, none⟩) L.length L.length] 1), (b1, .cells true [.int .i64 stop] 1)] ∧ (q = cntS L.length stop)) ?j1 ?j2
      case j1 =>
        refine awp_seq ?_
        refine awp_regs hF ?_
        refine dv (gyes_none rfl) (q_load (v := .int .i64 stop) Try.isAgg3 rfl (s103.rd (j := 7) rfl) rfl) rfl (by decide) (cok1 trivial) ?_
        refine dvb (gyes_none rfl) (q_int rfl rfl rfl) rfl (by decide) (cok2 trivial (cconst rfl)) (fun c6 => ?_) (fun c6 => ?_)
        ·
          replace c6 := of_decide_eq_true c6
          refine ⟨_, Wk.refl _ _, ?_⟩
          show awp _ _ _ _ _ _ _
          refine awp_cond_t rfl ?_
          refine awp_regs hF ?_
          refine dv (gyes_none rfl) (q_mv (v := .int .i64 ((L.length : Nat) : Int)) rfl) rfl (by decide) (cok1 trivial) ?_
          refine dv (gyes_none rfl) (q_load (v := .int .i64 stop) Try.isAgg3 rfl (s103.rd (j := 7) rfl) rfl) rfl (by decide) (cok1 trivial) ?_
          refine dv (gyes_none rfl) (OpQ.cast (v' := .int .i64 ((min L.length stop.toNat : Nat) : Int)) (q_min rfl rfl) (congrArg (Value.int .i64) (min_int (by omega)))) rfl (by decide) (cok2 trivial trivial) ?_
          refine dv (gyes_none rfl) (q_as (v := .int .i64 ((min L.length stop.toNat : Nat) : Int)) rfl) rfl (by decide) (cok1 trivial) ?_
          exact ⟨_, Wk.U [(0, va), (3, .pointer (some ⟨b1, 0, none⟩)), (4, .bool false), (5, .pointer (some ⟨b5, 0, none⟩)), (6, .int .u64 ((t : Nat) : Int)), (9, .pointer (some ⟨b70, 0, none⟩)), (10, .pointer (some ⟨b90, 0, none⟩)), (11, .int .i64 (((min L.length stop.toNat) : Nat) : Int))] ⟨rfl, rfl, rfl, rfl, rfl, rfl, rfl, rfl, trivial⟩, ⟨_, (min L.length stop.toNat), rfl, s103, (by unfold cntS; first | (rw [if_pos (by omega)]; done) | (rw [if_neg (by omega)]; done))⟩⟩
        ·
          replace c6 := of_decide_eq_false c6
          refine ⟨_, Wk.refl _ _, ?_⟩
          show awp _ _ _ _ _ _ _
          refine awp_cond_f rfl ?_
          refine awp_skip_wk ?_
          exact ⟨_, Wk.U [(0, va), (3, .pointer (some ⟨b1, 0, none⟩)), (4, .bool false), (5, .pointer (some ⟨b5, 0, none⟩)), (6, .int .u64 ((t : Nat) : Int)), (9, .pointer (some ⟨b70, 0, none⟩)), (10, .pointer (some ⟨b90, 0, none⟩)), (11, .int .i64 ((L.length : Nat) : Int))] ⟨rfl, rfl, rfl, rfl, rfl, rfl, rfl, rfl, trivial⟩, ⟨_, L.length, rfl, s103, (by unfold cntS; first | (rw [if_pos (by omega)]; done) | (rw [if_neg (by omega)]; done))⟩⟩
      case j2 =>
        rintro _ ⟨H104, q, rfl, s105, hq⟩
        refine awp_seq ?_
        refine awp_seq ?_
        refine awp_regs hF ?_
        refine dv (gyes_none rfl) (q_as (v := .int .i64 0) rfl) rfl (by decide) (cok1 (cconst rfl)) ?_
        refine ⟨_, Wk.refl _ _, ?_⟩
        show awp _ _ _ _ _ _ _
        refine awp_block ?_
        refine awp_wk (Wk.U [(0, va), (3, .pointer (some ⟨b1, 0, none⟩)), (4, .bool false), (5, .pointer (some ⟨b5, 0, none⟩)), (6, .int .u64 ((t : Nat) : Int)), (9, .pointer (some ⟨b70, 0, none⟩)), (10, .pointer (some ⟨b90, 0, none⟩)), (11, .int .i64 ((q : Nat) : Int)), (12, .int .i64 0)] ⟨rfl, rfl, rfl, rfl, rfl, rfl, rfl, rfl, rfl, trivial⟩) ?_
        refine awp_loop (fun (j : Nat) st => ∃ (H106 : AHeap), st = ⟨106, U [(0, va), (3, .pointer (some ⟨b1, 0, none⟩)), (4, .bool false), (5, .pointer (some ⟨b5, 0, none⟩)), (6, .int .u64 ((t : Nat) : Int)), (9, .pointer (some ⟨b70, 0, none⟩)), (10, .pointer (some ⟨b90, 0, none⟩)), (11, .int .i64 ((q : Nat) : Int)), (12, .int .i64 ((j : Nat) : Int))], [], H106⟩ ∧ St H0 (none0) (Rd H0) H106 [(b96, .cells true [.pointer (some ⟨b5, 0, none⟩)] 1), (b90, .cells true [.int .i64 ((cntS L.length stop : Nat) : Int)] 1), (b78, .cells true [.pointer (some ⟨b5, 0, none⟩)] 1), (b83, .cells true (fl spc L) 2), (b70, .cells true [.slice (some ⟨b83, 0, none⟩) L.length L.length] 1), (b2, .cells true (fl spc L) 2), (b5, .cells true [.slice (some ⟨b2, 0, none⟩) L.length L.length] 1), (b1, .cells true [.int .i64 stop] 1)]) (fun (j : Nat) => L.length - j) (x0 := (0)) ?h0 ?round
        case h0 =>
          exact ⟨_, rfl, s105⟩
        case round =>
          rintro j _ ⟨H106, rfl, s107⟩
          refine awp_seq ?_
          refine awp_seq ?_
          refine awp_regs hF ?_
          refine dv (gyes_none rfl) (q_mv (v := .int .i64 ((j : Nat) : Int)) rfl) rfl (by decide) (cok1 trivial) ?_
          refine dv (gyes_none rfl) (q_load (v := .slice (some ⟨b83, 0, none⟩) L.length L.length) Try.isAgg24 rfl (s107.rd (j := 4) rfl) rfl) rfl (by decide) (cok1 trivial) ?_
          refine dv (gyes_none rfl) (q_len_slice Try.underlying24 rfl (s107.rd (j := 3) rfl)) rfl (by decide) (cok1 trivial) ?_
          refine dvb (gyes_none rfl) (q_int rfl rfl rfl) rfl (by decide) (cok2 trivial trivial) (fun c7 => ?_) (fun c7 => ?_)
          ·
            replace c7 := of_decide_eq_true c7
            refine ⟨_, Wk.refl _ _, ?_⟩
            show awp _ _ _ _ _ _ _
            refine awp_cond_t rfl ?_
            refine awp_skip_wk ?_
            refine ⟨_, Wk.refl _ _, ?_⟩
            show awp _ _ _ _ _ _ _
            refine awp_seq ?_
            refine awp_block ?_
            refine awp_seq ?_
            have hjm : nth L j ∈ L := nthN_mem (by omega)
            have hne := hc.1.1 _ hjm
            have hpw : 0 < j → (nth L (j - 1)).2 < (nth L j).1 := fun h => canon_nth hc.1 (by omega) (by omega)
            refine awp_regt hF hM (by kernel_rfl) (by kernel_rfl) ?_
            refine dv (gyes_none rfl) (q_load (v := .slice (some ⟨b83, 0, none⟩) L.length L.length) Try.isAgg24 rfl (s107.rd (j := 4) rfl) rfl) rfl (by decide) (cok1 trivial) ?_
            refine dv (gyes_none rfl) (q_mv (v := .int .i64 ((j : Nat) : Int)) rfl) rfl (by decide) (cok1 trivial) ?_
            refine dv (gyes_none rfl) (OpQ.cast (v' := .pointer (some ⟨b83, j * 2, none⟩)) (q_index (u := 0) (i := j) Try.underlying24 Try.sizeOf30 rfl rfl (by omega) (s107.rd (j := 3) rfl)) (by rw [Nat.zero_add])) rfl (by decide) (cok2 trivial trivial) ?_
            refine dv (gyes_none rfl) (q_field Try.underlying30 rfl Try.sizeOf27 rfl (s107.rd (j := 3) rfl)) rfl (by decide) (cok1 trivial) ?_
            refine dv (gyes_none rfl) (q_load (v := .int .u64 (((nth L j).2 : Nat) : Int)) Try.isAgg27 rfl (s107.rd (j := 3) rfl) ((fl_get spc_w (by omega) (by decide)).trans rfl)) rfl (by decide) (cok1 trivial) ?_
            refine dv (gyes_none rfl) (q_load (v := .slice (some ⟨b83, 0, none⟩) L.length L.length) Try.isAgg24 rfl (s107.rd (j := 4) rfl) rfl) rfl (by decide) (cok1 trivial) ?_
            refine dv (gyes_none rfl) (q_mv (v := .int .i64 ((j : Nat) : Int)) rfl) rfl (by decide) (cok1 trivial) ?_
            refine dv (gyes_none rfl) (OpQ.cast (v' := .pointer (some ⟨b83, j * 2, none⟩)) (q_index (u := 0) (i := j) Try.underlying24 Try.sizeOf30 rfl rfl (by omega) (s107.rd (j := 3) rfl)) (by rw [Nat.zero_add])) rfl (by decide) (cok2 trivial trivial) ?_
            refine dv (gyes_none rfl) (q_field Try.underlying30 rfl Try.sizeOf27 rfl (s107.rd (j := 3) rfl)) rfl (by decide) (cok1 trivial) ?_
            refine dv (gyes_none rfl) (q_load (v := .int .u64 (((nth L j).1 : Nat) : Int)) Try.isAgg27 rfl (s107.rd (j := 3) rfl) ((fl_get0 spc_w (by omega) (by decide)).trans rfl)) rfl (by decide) (cok1 trivial) ?_
            refine dv (gyes_none rfl) (OpQ.cast (v' := .bool false) (q_int rfl rfl rfl) (congrArg Value.bool (decide_eq_false (by omega)))) rfl (by decide) (cok2 trivial trivial) ?_
            refine dv (gyes_none rfl) (q_mv (v := .bool false) rfl) rfl (by decide) (cok1 trivial) ?_
            refine dv (gyes_some rfl rfl) (q_mv (v := .int .i64 ((j : Nat) : Int)) rfl) rfl (by decide) (cok1 trivial) ?_
            refine dvb (gyes_some rfl rfl) (q_int rfl rfl rfl) rfl (by decide) (cok2 trivial (cconst rfl)) (fun c8 => ?_) (fun c8 => ?_)
            ·
              replace c8 := of_decide_eq_true c8
              refine dv (gyes_some rfl rfl) (q_mv (v := .bool true) rfl) rfl (by decide) (cok1 trivial) ?_
              refine dv (gyes_some rfl rfl) (q_load (v := .slice (some ⟨b83, 0, none⟩) L.length L.length) Try.isAgg24 rfl (s107.rd (j := 4) rfl) rfl) rfl (by decide) (cok1 trivial) ?_
              refine dv (gyes_some rfl rfl) (q_mv (v := .int .i64 ((j : Nat) : Int)) rfl) rfl (by decide) (cok1 trivial) ?_
              refine dv (gyes_some rfl rfl) (OpQ.cast (v' := .int .i64 ((j - 1 : Nat) : Int)) (q_int rfl rfl rfl) (congrArg _ ((i64_in (by omega)).trans (by omega)))) rfl (by decide) (cok2 trivial (cconst rfl)) ?_
              refine dv (gyes_some rfl rfl) (OpQ.cast (v' := .pointer (some ⟨b83, (j - 1) * 2, none⟩)) (q_index (u := 0) (i := (j - 1)) Try.underlying24 Try.sizeOf30 rfl rfl (by omega) (s107.rd (j := 3) rfl)) (by rw [Nat.zero_add])) rfl (by decide) (cok2 trivial trivial) ?_
              refine dv (gyes_some rfl rfl) (q_field Try.underlying30 rfl Try.sizeOf27 rfl (s107.rd (j := 3) rfl)) rfl (by decide) (cok1 trivial) ?_
              refine dv (gyes_some rfl rfl) (q_load (v := .int .u64 (((nth L (j - 1)).2 : Nat) : Int)) Try.isAgg27 rfl (s107.rd (j := 3) rfl) ((fl_get spc_w (by omega) (by decide)).trans rfl)) rfl (by decide) (cok1 trivial) ?_
              refine dv (gyes_some rfl rfl) (q_load (v := .slice (some ⟨b83, 0, none⟩) L.length L.length) Try.isAgg24 rfl (s107.rd (j := 4) rfl) rfl) rfl (by decide) (cok1 trivial) ?_
              refine dv (gyes_some rfl rfl) (q_mv (v := .int .i64 ((j : Nat) : Int)) rfl) rfl (by decide) (cok1 trivial) ?_
              refine dv (gyes_some rfl rfl) (OpQ.cast (v' := .pointer (some ⟨b83, j * 2, none⟩)) (q_index (u := 0) (i := j) Try.underlying24 Try.sizeOf30 rfl rfl (by omega) (s107.rd (j := 3) rfl)) (by rw [Nat.zero_add])) rfl (by decide) (cok2 trivial trivial) ?_
              refine dv (gyes_some rfl rfl) (q_field Try.underlying30 rfl Try.sizeOf27 rfl (s107.rd (j := 3) rfl)) rfl (by decide) (cok1 trivial) ?_
              refine dv (gyes_some rfl rfl) (q_load (v := .int .u64 (((nth L j).1 : Nat) : Int)) Try.isAgg27 rfl (s107.rd (j := 3) rfl) ((fl_get0 spc_w (by omega) (by decide)).trans rfl)) rfl (by decide) (cok1 trivial) ?_
              refine dv (gyes_some rfl rfl) (OpQ.cast (v' := .bool false) (q_int rfl rfl rfl) (congrArg Value.bool (decide_eq_false (by have := hpw (by omega); omega)))) rfl (by decide) (cok2 trivial trivial) ?_
              refine dv (gyes_some rfl rfl) (q_pt (v := .bool false) rfl rfl) rfl (by decide) (call_ok rfl) ?_
              refine dv (gyes_none rfl) (q_pf (v := .bool false) rfl rfl) rfl (by decide) (call_ok rfl) ?_
              refine dv (gyes_none rfl) (q_mv (v := .bool false) rfl) rfl (by decide) (cok1 trivial) ?_
              refine dv (gyes_some rfl rfl) (q_load (v := .slice (some ⟨b83, 0, none⟩) L.length L.length) Try.isAgg24 rfl (s107.rd (j := 4) rfl) rfl) rfl (by decide) (cok1 trivial) ?_
              refine dv (gyes_some rfl rfl) (q_mv (v := .int .i64 ((j : Nat) : Int)) rfl) rfl (by decide) (cok1 trivial) ?_
              refine dv (gyes_some rfl rfl) (OpQ.cast (v' := .pointer (some ⟨b83, j * 2, none⟩)) (q_index (u := 0) (i := j) Try.underlying24 Try.sizeOf30 rfl rfl (by omega) (s107.rd (j := 3) rfl)) (by rw [Nat.zero_add])) rfl (by decide) (cok2 trivial trivial) ?_
              refine dv (gyes_some rfl rfl) (q_loadAgg (us := spc (nth L j)) Try.isAgg30 Try.sizeOf30 rfl (s107.rd (j := 3) rfl) (fl_room spc_w (by omega)) (fl_at spc_w (by omega))) rfl (by decide) (cok1 trivial) ?_
              refine dv (gyes_some rfl rfl) (q_call0 Try.call14 rfl (ACalls.castV (v' := .bool true) (covers_ok b5 _ L (s107.rd (j := 6) rfl) (s107.slsj (l := L) spc_w (j := 5) rfl rfl (Nat.le_refl _)) (by first | decide | omega) (nth L j)) (congrArg Value.bool (by rw [List.any_eq_true.2 ⟨_, hjm, within_iff.2 (.inr ⟨Nat.le_refl _, Nat.le_refl _⟩)⟩, Bool.or_true])))) rfl (by decide) (call_ok rfl) ?_
              refine dv (gyes_some rfl rfl) (q_not (b := true) rfl) rfl (by decide) (cok1 trivial) ?_
              refine dv (gyes_none rfl) (q_pf (v := .bool false) rfl rfl) rfl (by decide) (call_ok rfl) ?_
              refine ⟨_, Wk.refl _ _, ?_⟩
              show awp _ _ _ _ _ _ _
              refine awp_cond_f rfl ?_
              refine awp_skip_wk ?_
              refine ⟨_, Wk.refl _ _, ?_⟩
              show awp _ _ _ _ _ _ _
              refine awp_regs hF ?_
              refine dv (gyes_none rfl) (q_mv (v := .int .i64 ((j : Nat) : Int)) rfl) rfl (by decide) (cok1 trivial) ?_
              refine dv (gyes_none rfl) (OpQ.cast (v' := .int .i64 ((j + 1 : Nat) : Int)) (q_int rfl rfl rfl) (congrArg _ ((i64_in (by omega)).trans (by first | rfl | omega | (push_cast; rfl))))) rfl (by decide) (cok2 trivial (cconst rfl)) ?_
              refine dv (gyes_none rfl) (q_as (v := .int .i64 ((j + 1 : Nat) : Int)) rfl) rfl (by decide) (cok1 trivial) ?_
              refine ⟨_, Wk.U [(0, va), (3, .pointer (some ⟨b1, 0, none⟩)), (4, .bool false), (5, .pointer (some ⟨b5, 0, none⟩)), (6, .int .u64 ((t : Nat) : Int)), (9, .pointer (some ⟨b70, 0, none⟩)), (10, .pointer (some ⟨b90, 0, none⟩)), (11, .int .i64 ((q : Nat) : Int)), (12, .int .i64 (((j + 1) : Nat) : Int))] ⟨rfl, rfl, rfl, rfl, rfl, rfl, rfl, rfl, rfl, trivial⟩, (j + 1), ⟨_, rfl, s107⟩, (by omega)⟩
            ·
              replace c8 := of_decide_eq_false c8
              refine dv (gyes_some rfl rfl) (q_mv (v := .bool false) rfl) rfl (by decide) (cok1 trivial) ?_
              refine dno rfl (.inl rfl) rfl (by decide) ?_
              refine dno rfl (.inl rfl) rfl (by decide) ?_
              refine dno rfl (.inl rfl) rfl (by decide) ?_
              refine dno rfl (.inl rfl) rfl (by decide) ?_
              refine dno rfl (.inl rfl) rfl (by decide) ?_
              refine dno rfl (.inl rfl) rfl (by decide) ?_
              refine dno rfl (.inl rfl) rfl (by decide) ?_
              refine dno rfl (.inl rfl) rfl (by decide) ?_
              refine dno rfl (.inl rfl) rfl (by decide) ?_
              refine dno rfl (.inl rfl) rfl (by decide) ?_
              refine dno rfl (.inl rfl) rfl (by decide) ?_
              refine dno rfl (.inl rfl) rfl (by decide) ?_
              refine dv (gyes_some rfl rfl) (q_pf (v := .bool false) rfl rfl) rfl (by decide) (call_ok rfl) ?_
              refine dv (gyes_none rfl) (q_pf (v := .bool false) rfl rfl) rfl (by decide) (call_ok rfl) ?_
              refine dv (gyes_none rfl) (q_mv (v := .bool false) rfl) rfl (by decide) (cok1 trivial) ?_
              refine dv (gyes_some rfl rfl) (q_load (v := .slice (some ⟨b83, 0, none⟩) L.length L.length) Try.isAgg24 rfl (s107.rd (j := 4) rfl) rfl) rfl (by decide) (cok1 trivial) ?_
              refine dv (gyes_some rfl rfl) (q_mv (v := .int .i64 ((j : Nat) : Int)) rfl) rfl (by decide) (cok1 trivial) ?_
              refine dv (gyes_some rfl rfl) (OpQ.cast (v' := .pointer (some ⟨b83, j * 2, none⟩)) (q_index (u := 0) (i := j) Try.underlying24 Try.sizeOf30 rfl rfl (by omega) (s107.rd (j := 3) rfl)) (by rw [Nat.zero_add])) rfl (by decide) (cok2 trivial trivial) ?_
              refine dv (gyes_some rfl rfl) (q_loadAgg (us := spc (nth L j)) Try.isAgg30 Try.sizeOf30 rfl (s107.rd (j := 3) rfl) (fl_room spc_w (by omega)) (fl_at spc_w (by omega))) rfl (by decide) (cok1 trivial) ?_
              refine dv (gyes_some rfl rfl) (q_call0 Try.call14 rfl (ACalls.castV (v' := .bool true) (covers_ok b5 _ L (s107.rd (j := 6) rfl) (s107.slsj (l := L) spc_w (j := 5) rfl rfl (Nat.le_refl _)) (by first | decide | omega) (nth L j)) (congrArg Value.bool (by rw [List.any_eq_true.2 ⟨_, hjm, within_iff.2 (.inr ⟨Nat.le_refl _, Nat.le_refl _⟩)⟩, Bool.or_true])))) rfl (by decide) (call_ok rfl) ?_
              refine dv (gyes_some rfl rfl) (q_not (b := true) rfl) rfl (by decide) (cok1 trivial) ?_
              refine dv (gyes_none rfl) (q_pf (v := .bool false) rfl rfl) rfl (by decide) (call_ok rfl) ?_
              refine ⟨_, Wk.refl _ _, ?_⟩
              show awp _ _ _ _ _ _ _
              refine awp_cond_f rfl ?_
              refine awp_skip_wk ?_
              refine ⟨_, Wk.refl _ _, ?_⟩
              show awp _ _ _ _ _ _ _
              refine awp_regs hF ?_
              refine dv (gyes_none rfl) (q_mv (v := .int .i64 ((j : Nat) : Int)) rfl) rfl (by decide) (cok1 trivial) ?_
              refine dv (gyes_none rfl) (OpQ.cast (v' := .int .i64 ((j + 1 : Nat) : Int)) (q_int rfl rfl rfl) (congrArg _ ((i64_in (by omega)).trans (by first | rfl | omega | (push_cast; rfl))))) rfl (by decide) (cok2 trivial (cconst rfl)) ?_
              refine dv (gyes_none rfl) (q_as (v := .int .i64 ((j + 1 : Nat) : Int)) rfl) rfl (by decide) (cok1 trivial) ?_
              refine ⟨_, Wk.U [(0, va), (3, .pointer (some ⟨b1, 0, none⟩)), (4, .bool false), (5, .pointer (some ⟨b5, 0, none⟩)), (6, .int .u64 ((t : Nat) : Int)), (9, .pointer (some ⟨b70, 0, none⟩)), (10, .pointer (some ⟨b90, 0, none⟩)), (11, .int .i64 ((q : Nat) : Int)), (12, .int .i64 (((j + 1) : Nat) : Int))] ⟨rfl, rfl, rfl, rfl, rfl, rfl, rfl, rfl, rfl, trivial⟩, (j + 1), ⟨_, rfl, s107⟩, (by omega)⟩
          ·
            replace c7 := of_decide_eq_false c7
            refine ⟨_, Wk.refl _ _, ?_⟩
            show awp _ _ _ _ _ _ _
            refine awp_cond_f rfl ?_
            refine awp_exit_wk ?_
            refine ⟨_, Wk.refl _ _, ?_⟩
            show awp _ _ _ _ _ _ _
            refine awp_seq ?_
            refine awp_regs hF ?_
            refine dv (gyes_none rfl) (q_load (v := .int .i64 ((cntS L.length stop : Nat) : Int)) Try.isAgg3 rfl (s107.rd (j := 1) rfl) rfl) rfl (by decide) (cok1 trivial) ?_
            refine dv (gyes_none rfl) (q_mv (v := .int .i64 ((q : Nat) : Int)) rfl) rfl (by decide) (cok1 trivial) ?_
            refine dv (gyes_none rfl) (OpQ.cast (v' := .bool true) (q_int rfl rfl rfl) (congrArg Value.bool (beq_iff_eq.2 (by omega)))) rfl (by decide) (cok2 trivial trivial) ?_
            refine dv (gyes_none rfl) (q_mv (v := .bool true) rfl) rfl (by decide) (cok1 trivial) ?_
            refine dv (gyes_some rfl rfl) (q_call0 Try.call15 rfl (slen_ok b5 _ L (s107.rd (j := 6) rfl) (s107.slsj (l := L) spc_w (j := 5) rfl rfl (Nat.le_refl _)) (by first | decide | omega) hc.2.1)) rfl (by decide) (cok2 trivial trivial) ?_
            refine dv (gyes_some rfl rfl) (q_mv (v := .int .u64 ((t : Nat) : Int)) rfl) rfl (by decide) (cok1 trivial) ?_
            refine dv (gyes_some rfl rfl) (OpQ.cast (v' := .bool true) (q_int rfl rfl rfl) (congrArg Value.bool (beq_iff_eq.2 (by rw [sumS_all, ← hc.2.2.2.2])))) rfl (by decide) (cok2 trivial trivial) ?_
            refine dv (gyes_none rfl) (q_pt (v := .bool true) rfl rfl) rfl (by decide) (call_ok rfl) ?_
            refine dv (gyes_none rfl) (q_as (v := .bool true) rfl) rfl (by decide) (cok1 trivial) ?_
            refine ⟨_, Wk.refl _ _, ?_⟩
            show awp _ _ _ _ _ _ _
            refine awp_ret_wk ?_
            refine ⟨_, Wk.refl _ _, ?_⟩
            repeat (with_reducible first | refine then_ret ?_ | refine blk_ret ?_ | refine then_exit ?_ | refine blk_exit ?_ | refine blk_exit' (by decide) ?_ | refine blk_normal ?_ | refine then_normal ?_ | refine retq_ret ?_ | refine retq_normal ?_ | refine ng_normal ?_ | refine ng_ret ?_ | refine ng_exit ?_)
            exact ret_none (v := .bool true) rfl s107.kp (.tmp rfl .nil) rfl rfl ⟨rfl, rfl⟩

end Go.Proofs.YtjgeheookgogaaaA

