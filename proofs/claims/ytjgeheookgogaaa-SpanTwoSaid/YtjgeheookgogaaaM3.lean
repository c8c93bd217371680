/-
  Walks over abstract states: texts of one claim, merged.
-/
import Derived.Test.YtjgeheookgogaaaM2
import Derived.Test.YtjgeheookgogaaaProg
import Derived.KernelRfl
import Derived.ChangeSlices
import Derived.SliceStrings
import Derived.WideShapes
import Derived.SizedLaws
import Derived.OpenShut
import Derived.Deep.Slices
/-
  Walks of functions of the given program, and what they compute.
-/
namespace Go.Proofs.YtjgeheookgogaaaA
set_option linter.unusedVariables false
open Go Go.RowKit Go.Shelf Go.Proofs
theorem St.turn2 {H0 : AHeap} {X : Nat → Prop} {Z : Rs} {H H' : AHeap} {F : List (Nat × AObj)} (h : St H0 X Z H F) {j9 jl b9 bl bn : Nat} {o9 ol o9' on : AObj} (h9 : F[j9]? = some (b9, o9)) (hl : F[jl]? = some (bl, ol)) (hij : j9 ≠ jl) (k : Kp (· ∈ [b9, bl]) H H') (hb : H.length ≤ bn ∨ bn ∈ [b9, bl]) (hne : bn ≠ b9) (h9' : H'[b9]? = some o9') (hn : H'[bn]? = some on) : St H0 X Z H' ((F.set j9 (b9, o9')).set jl (bn, on)) := by
  have m9 : b9 ∈ F.map (·.1) := List.mem_map.2 ⟨_, List.mem_of_getElem? h9, rfl⟩
  have ml : bl ∈ F.map (·.1) := List.mem_map.2 ⟨_, List.mem_of_getElem? hl, rfl⟩
  have hjl := (List.getElem?_eq_some_iff.1 hl).1
  refine h.turn k _ ?_ (fun p hp => ?_) (fun b hb => ?_)
  · have e1 : ((F.set j9 (b9, o9')).set jl (bn, on)).map (·.1) = (F.map (·.1)).set jl bn := by rw [List.map_set, keys_set h9]
    rw [e1]
    refine nodup_of_inj fun i j x hi hj => ?_
    rw [List.getElem?_set] at hi hj
    have nb : ∀ q, q ≠ jl → (F.map (·.1))[q]? ≠ some bn := fun q hq e => by
      rw [List.getElem?_map] at e
      obtain ⟨y, hy, hy2⟩ := Option.map_eq_some_iff.1 e
      rcases hb with hb | hb
      · have := lt_of_some (h.getj (b := y.1) (o := y.2) hy)
        omega
      · rcases List.mem_cons.1 hb with hb | hb
        · exact hne hb
        · have hb : bn = bl := by simpa using hb
          exact h.ne hy hl hq (hy2.trans hb)
    by_cases ei : jl = i
    · by_cases ej : jl = j
      · omega
      · rw [if_pos ei, if_pos (by simpa using hjl)] at hi
        rw [if_neg ej] at hj
        cases hi
        exact absurd hj (nb j (Ne.symm ej))
    · rw [if_neg ei] at hi
      by_cases ej : jl = j
      · rw [if_pos ej, if_pos (by simpa using hjl)] at hj
        cases hj
        exact absurd hi (nb i (Ne.symm ei))
      · rw [if_neg ej] at hj
        exact nodup_inj h.nd hi hj
  · rcases mem_set_cases hp with rfl | ⟨i, hi, hp⟩
    · refine .inr ⟨hn, hb.imp id fun hb => ?_⟩
      rcases List.mem_cons.1 hb with hb | hb
      · exact absurd hb hne
      · have hb : bn = bl := by simpa using hb
        show bn ∈ _
        rw [hb]; exact ml
    · rw [List.getElem?_set] at hp
      by_cases e : j9 = i
      · rw [if_pos e, if_pos (List.getElem?_eq_some_iff.1 h9).1] at hp
        cases hp
        exact .inr ⟨h9', .inr m9⟩
      · rw [if_neg e] at hp
        refine .inl ⟨List.mem_of_getElem? hp, fun hm => ?_⟩
        rcases List.mem_cons.1 hm with hm | hm
        · exact h.ne hp h9 (Ne.symm e) hm
        · have hm : p.1 = bl := by simpa using hm
          exact h.ne hp hl hi hm
  · rcases List.mem_cons.1 hb with rfl | hb
    · exact m9
    · have hb : b = bl := by simpa using hb
      rw [hb]; exact ml
theorem js_y' {o : List Sp} {x : Sp} {m : Nat} (hm : m = o.length) (h : 0 < m) (h2 : (nth o (m - 1)).2 = x.1) : joinStep o x = o.set (m - 1) ((nth o (m - 1)).1, x.2) := by subst hm; exact js_y h h2
theorem js_n' {o : List Sp} {x : Sp} {m : Nat} (hm : m = o.length) (h : ¬ (0 < m ∧ (nth o (m - 1)).2 = x.1)) : joinStep o x = o ++ [x] := by subst hm; exact js_n h
def SortedLo (l : List Sp) : Prop := ∀ i j, i < j → j < l.length → (nth l i).1 ≤ (nth l j).1
def AddR (l : List Sp) (x : Sp) (ok : Bool) (L : List Sp) : Prop := (ok = false ∧ (x.2 ≤ x.1 ∨ l.any (meetsB x) = true) ∧ L = l) ∨ (ok = true ∧ x.1 < x.2 ∧ l.any (meetsB x) = false ∧ ∃ l' : List Sp, l'.Perm (l ++ [x]) ∧ SortedLo l' ∧ L = joinS l')
set_option maxRecDepth 100000 in
set_option maxHeartbeats 4000000 in
theorem setSort_ok {H0 : AHeap} (bs bl : Nat) (l : List Sp) (hl : l.length ≤ 1000) (hnd : [bs, bl].Nodup) (h1 : H0[bs]? = some (.cells true [.slice (some ⟨bl, 0, none⟩) l.length l.length] 1)) (h2 : H0[bl]? = some (.cells true (fl spc l) 2)) (hn0 : 0 < l.length) : ACalls Try.prog 28 [.pointer (some ⟨bs, 0, none⟩)] H0 (fun v H' => ∃ (l' : List Sp) (bn : Nat), v = .tuple #[] ∧ l'.Perm l ∧ SortedLo l' ∧ Kp (· ∈ [bs, bl]) H0 H' ∧ (H0.length ≤ bn ∨ bn ∈ [bs, bl]) ∧ bn ≠ bs ∧ H'[bs]? = some (.cells true [.slice (some ⟨bn, 0, none⟩) (joinS l').length (joinS l').length] 1) ∧ H'[bn]? = some (.cells true (fl spc (joinS l')) 2)) := by
  have hF : Wd Fence.wide := .inl rfl
  have hM : Try.prog.follows .mixedOrders = true := by kernel_rfl
  have s0 : St H0 (· ∈ [bs, bl]) (Off H0 [bs, bl]) H0 [(bs, .cells true [.slice (some ⟨bl, 0, none⟩) l.length l.length] 1), (bl, .cells true (fl spc l) 2)] := St.beginL [(bs, .cells true [.slice (some ⟨bl, 0, none⟩) l.length l.length] 1), (bl, .cells true (fl spc l) 2)] hnd (allAt_mem ⟨h1, h2, trivial⟩)
  refine acalls_st Try.func28 rfl Try.ntmps28 rfl ?_
  refine awp_seq ?_
  refine awp_regs hF ?_
  refine dv (gyes_none rfl) (q_mv (v := .pointer (some ⟨bs, 0, none⟩)) rfl) rfl (by decide) (cok1 trivial) ?_
  refine dv (gyes_none rfl) (q_nilCheck rfl (s0.live (j := 0) rfl)) rfl (by decide) (cok1 trivial) ?_
  refine dv (gyes_none rfl) (q_field Try.underlying26 rfl Try.sizeOf24 rfl (s0.rd (j := 0) rfl)) rfl (by decide) (cok1 trivial) ?_
  refine dv (gyes_none rfl) (q_load (v := .slice (some ⟨bl, 0, none⟩) l.length l.length) Try.isAgg24 rfl (s0.rd (j := 0) rfl) rfl) rfl (by decide) (cok1 trivial) ?_
  refine x_call [] hF (by kernel_rfl) (gyes_none rfl) Try.call34 rfl (args := [.slice (some ⟨bl, 0, none⟩) l.length l.length, .func (.func 35) #[] #[]]) rfl (sort_ok (l := l) (s0.getj (j := 1) rfl) rfl hn0 (by omega)) (show _ < _ by decide) (call_ok rfl) rfl rfl (fun _ _ _ _ hd => by cases hd) ?_
  rintro _ _ ⟨rfl, l', hperm, hsort, rfl⟩
  have s1 := s0.setAt (j := 1) rfl (.cells true (fl spc l') 2)
  have hlen := hperm.length_eq
  refine ⟨trivial, ?_⟩
  show dList _ _ _ _ _ _ _ _ _ _
  refine ⟨_, Wk.refl _ _, ?_⟩
  show awp _ _ _ _ _ _ _
  refine awp_seq ?_
  refine awp_regs hF ?_
  refine dv (gyes_none rfl) (q_as (v := .slice none 0 0) rfl) rfl (by decide) (cok1 (cconst rfl)) ?_
  refine ⟨_, Wk.refl _ _, ?_⟩
  show awp _ _ _ _ _ _ _
  refine awp_seq ?_
  refine awp_seq ?_
  refine awp_regs hF ?_
  refine dv (gyes_none rfl) (q_mv (v := .pointer (some ⟨bs, 0, none⟩)) rfl) rfl (by decide) (cok1 trivial) ?_
  refine dv (gyes_none rfl) (q_nilCheck rfl (s1.live (j := 0) rfl)) rfl (by decide) (cok1 trivial) ?_
  refine dv (gyes_none rfl) (q_field Try.underlying26 rfl Try.sizeOf24 rfl (s1.rd (j := 0) rfl)) rfl (by decide) (cok1 trivial) ?_
  refine dv (gyes_none rfl) (q_load (v := .slice (some ⟨bl, 0, none⟩) l.length l.length) Try.isAgg24 rfl (s1.rd (j := 0) rfl) rfl) rfl (by decide) (cok1 trivial) ?_
  refine dv (gyes_none rfl) (q_len_slice Try.underlying24 rfl (s1.rd (j := 1) rfl)) rfl (by decide) (cok1 trivial) ?_
  refine dv (gyes_none rfl) (q_mv (v := .int .i64 0) rfl) rfl (by decide) (cok1 (cconst rfl)) ?_
  refine ⟨_, Wk.refl _ _, ?_⟩
  show awp _ _ _ _ _ _ _
  refine awp_block ?_
  refine awp_nil s1 2 2 rfl (fun b2 H3 hb5 s4 => ?_)
  refine awp_wk (Wk.U [(0, .pointer (some ⟨bs, 0, none⟩)), (2, .slice (some ⟨b2, 0, none⟩) 0 0), (14, .slice (some ⟨bl, 0, none⟩) l.length l.length), (15, .int .i64 ((l.length : Nat) : Int)), (16, .int .i64 0)] ⟨rfl, rfl, rfl, rfl, rfl, trivial⟩) ?_
  refine awp_loop (fun ((i, m, o) : Nat × Nat × (List Sp)) st => ∃ (H6 : AHeap) (bo : Nat), st = ⟨51, U [(0, .pointer (some ⟨bs, 0, none⟩)), (2, .slice (some ⟨bo, 0, none⟩) m m), (14, .slice (some ⟨bl, 0, none⟩) l.length l.length), (15, .int .i64 ((l.length : Nat) : Int)), (16, .int .i64 ((i : Nat) : Int))], [], H6⟩ ∧ St H0 ((· ∈ [bs, bl])) (Off H0 [bs, bl]) H6 [(bo, .cells true (fl spc o) 2), (bs, .cells true [.slice (some ⟨bl, 0, none⟩) l.length l.length] 1), (bl, .cells true (fl spc l') 2)] ∧ (o = (l'.take i).foldl joinStep [] ∧ m = o.length ∧ i ≤ l.length ∧ m ≤ i)) (fun ((i, m, o) : Nat × Nat × (List Sp)) => l.length - i) (x0 := (0, 0, ([] : List Sp))) ?h0 ?round
  case h0 =>
    exact ⟨_, _, rfl, s4, ⟨rfl, rfl, Nat.zero_le _, Nat.zero_le _⟩⟩
  case round =>
    rintro ⟨i, m, o⟩ _ ⟨H6, bo, rfl, s7, ho⟩
    dsimp only at *
    refine awp_seq ?_
    refine awp_regs hF ?_
    refine dvb (gyes_none rfl) (q_int rfl rfl rfl) rfl (by decide) (cok2 trivial trivial) (fun c1 => ?_) (fun c1 => ?_)
    ·
      replace c1 := of_decide_eq_true c1
      refine ⟨_, Wk.refl _ _, ?_⟩
      show awp _ _ _ _ _ _ _
      refine awp_seq ?_
      refine awp_cond_t rfl ?_
      refine awp_skip_wk ?_
      refine ⟨_, Wk.refl _ _, ?_⟩
      show awp _ _ _ _ _ _ _
      refine awp_seq ?_
      refine awp_block ?_
      refine awp_seq ?_
      refine awp_regs hF ?_
      refine dv (gyes_none rfl) (OpQ.cast (v' := .pointer (some ⟨bl, i * 2, none⟩)) (q_index (u := 0) (i := i) Try.underlying24 Try.sizeOf30 rfl rfl (by omega) (s7.rd (j := 2) rfl)) (by rw [Nat.zero_add])) rfl (by decide) (cok2 trivial trivial) ?_
      refine dv (gyes_none rfl) (q_loadAgg (us := spc (nth l' i)) Try.isAgg30 Try.sizeOf30 rfl (s7.rd (j := 2) rfl) (fl_room spc_w (by omega)) (fl_at spc_w (by omega))) rfl (by decide) (cok1 trivial) ?_
      refine x_new (fun b => .pointer (some ⟨b, 0, none⟩)) s7 (gyes_none rfl) (q_alloc (vs := [.int .u64 0, .int .u64 0]) 2 Try.zeroValue30 (by first | exact flat_scalar rfl | exact flat_agg rfl) rfl) rfl (by decide) (by simp [Op.operands, Call.operands]) (fun b8 H9 hb11 s10 => ?_)
      refine x_store [] hF s10 (by kernel_rfl) (gyes_none rfl) (j := 0) (v := .agg #[.int .u64 (((nth l' i).1 : Nat) : Int), .int .u64 (((nth l' i).2 : Nat) : Int)]) rfl Try.sizeOf30 rfl rfl rfl rfl rfl trivial (lcsA ⟨(lc_scalar rfl), (lc_scalar rfl), trivial⟩) (Nat.le_of_ble_eq_true rfl) trivial trivial rfl rfl (F' := [(b8, .cells true [.int .u64 (((nth l' i).1 : Nat) : Int), .int .u64 (((nth l' i).2 : Nat) : Int)] 2), (bo, .cells true (fl spc o) 2), (bs, .cells true [.slice (some ⟨bl, 0, none⟩) l.length l.length] 1), (bl, .cells true (fl spc l') 2)]) rfl (fun H12 s13 => ⟨?_, ?_⟩)
      · exact trivial
      refine ⟨_, Wk.refl _ _, ?_⟩
      show awp _ _ _ _ _ _ _
      refine awp_seq ?_
      refine awp_seq ?_
      refine awp_regs hF ?_
      refine dv (gyes_none rfl) (q_mv (v := .slice (some ⟨bo, 0, none⟩) m m) rfl) rfl (by decide) (cok1 trivial) ?_
      refine dv (gyes_none rfl) (q_len_slice Try.underlying24 rfl (s13.rd (j := 1) rfl)) rfl (by decide) (cok1 trivial) ?_
      refine dv (gyes_none rfl) (q_as (v := .int .i64 ((m : Nat) : Int)) rfl) rfl (by decide) (cok1 trivial) ?_
      refine ⟨_, Wk.refl _ _, ?_⟩
      show awp _ _ _ _ _ _ _
      refine awp_seq ?_
      refine awp_regt hF hM (by kernel_rfl) (by kernel_rfl) ?_
      refine dv (gyes_none rfl) (q_mv (v := .int .i64 ((m : Nat) : Int)) rfl) rfl (by decide) (cok1 trivial) ?_
      refine dvb (gyes_none rfl) (q_int rfl rfl rfl) rfl (by decide) (cok2 trivial (cconst rfl)) (fun c2 => ?_) (fun c2 => ?_)
      ·
        replace c2 := of_decide_eq_true c2
        refine dv (gyes_none rfl) (q_mv (v := .bool true) rfl) rfl (by decide) (cok1 trivial) ?_
        refine dv (gyes_some rfl rfl) (q_mv (v := .slice (some ⟨bo, 0, none⟩) m m) rfl) rfl (by decide) (cok1 trivial) ?_
        refine dv (gyes_some rfl rfl) (q_mv (v := .int .i64 ((m : Nat) : Int)) rfl) rfl (by decide) (cok1 trivial) ?_
        refine dv (gyes_some rfl rfl) (OpQ.cast (v' := .int .i64 ((m - 1 : Nat) : Int)) (q_int rfl rfl rfl) (congrArg _ ((i64_in (by omega)).trans (by omega)))) rfl (by decide) (cok2 trivial (cconst rfl)) ?_
        refine dv (gyes_some rfl rfl) (OpQ.cast (v' := .pointer (some ⟨bo, (m - 1) * 2, none⟩)) (q_index (u := 0) (i := (m - 1)) Try.underlying24 Try.sizeOf30 rfl rfl (by omega) (s13.rd (j := 1) rfl)) (by rw [Nat.zero_add])) rfl (by decide) (cok2 trivial trivial) ?_
        refine dv (gyes_some rfl rfl) (q_field Try.underlying30 rfl Try.sizeOf27 rfl (s13.rd (j := 1) rfl)) rfl (by decide) (cok1 trivial) ?_
        refine dv (gyes_some rfl rfl) (q_load (v := .int .u64 (((nth o (m - 1)).2 : Nat) : Int)) Try.isAgg27 rfl (s13.rd (j := 1) rfl) ((fl_get spc_w (by omega) (by decide)).trans rfl)) rfl (by decide) (cok1 trivial) ?_
        refine dv (gyes_some rfl rfl) (q_field Try.underlying30 rfl Try.sizeOf27 rfl (s13.rd (j := 0) rfl)) rfl (by decide) (cok1 trivial) ?_
        refine dv (gyes_some rfl rfl) (q_load (v := .int .u64 (((nth l' i).1 : Nat) : Int)) Try.isAgg27 rfl (s13.rd (j := 0) rfl) rfl) rfl (by decide) (cok1 trivial) ?_
        refine dvb (gyes_some rfl rfl) (q_int rfl rfl rfl) rfl (by decide) (cok2 trivial trivial) (fun c3 => ?_) (fun c3 => ?_)
        ·
          replace c3 := eq_of_beq c3
          refine dv (gyes_none rfl) (q_pt (v := .bool true) rfl rfl) rfl (by decide) (call_ok rfl) ?_
          refine ⟨_, Wk.refl _ _, ?_⟩
          show awp _ _ _ _ _ _ _
          refine awp_cond_t rfl ?_
          refine awp_seq ?_
          refine awp_regs hF ?_
          refine dv (gyes_none rfl) (q_mv (v := .slice (some ⟨bo, 0, none⟩) m m) rfl) rfl (by decide) (cok1 trivial) ?_
          refine dv (gyes_none rfl) (q_mv (v := .int .i64 ((m : Nat) : Int)) rfl) rfl (by decide) (cok1 trivial) ?_
          refine dv (gyes_none rfl) (OpQ.cast (v' := .int .i64 ((m - 1 : Nat) : Int)) (q_int rfl rfl rfl) (congrArg _ ((i64_in (by omega)).trans (by omega)))) rfl (by decide) (cok2 trivial (cconst rfl)) ?_
          refine dv (gyes_none rfl) (q_field Try.underlying30 rfl Try.sizeOf27 rfl (s13.rd (j := 0) rfl)) rfl (by decide) (cok1 trivial) ?_
          refine dv (gyes_none rfl) (q_load (v := .int .u64 (((nth l' i).2 : Nat) : Int)) Try.isAgg27 rfl (s13.rd (j := 0) rfl) rfl) rfl (by decide) (cok1 trivial) ?_
          refine dv (gyes_none rfl) (OpQ.cast (v' := .pointer (some ⟨bo, (m - 1) * 2, none⟩)) (q_index (u := 0) (i := (m - 1)) Try.underlying24 Try.sizeOf30 rfl rfl (by omega) (s13.rd (j := 1) rfl)) (by rw [Nat.zero_add])) rfl (by decide) (cok2 trivial trivial) ?_
          refine dv (gyes_none rfl) (q_field Try.underlying30 rfl Try.sizeOf27 rfl (s13.rd (j := 1) rfl)) rfl (by decide) (cok1 trivial) ?_
          refine x_store1 [] hF s13 (by kernel_rfl) (gyes_none rfl) (j := 1) (v := .int .u64 (((nth l' i).2 : Nat) : Int)) rfl Try.sizeOf27 rfl rfl rfl (lc_scalar rfl) (fl_lt spc_w (by omega) (by decide)) trivial trivial rfl rfl (F' := [(b8, .cells true [.int .u64 (((nth l' i).1 : Nat) : Int), .int .u64 (((nth l' i).2 : Nat) : Int)] 2), (bo, .cells true (fl spc (o.set (m - 1) ((nth o (m - 1)).1, (nth l' i).2))) 2), (bs, .cells true [.slice (some ⟨bl, 0, none⟩) l.length l.length] 1), (bl, .cells true (fl spc l') 2)]) (by rw [fl_set1 spc_w (by omega) (y := ((nth o (m - 1)).1, (nth l' i).2)) (by decide) rfl]; rfl) (fun H14 s15 => ⟨?_, ?_⟩)
          · exact trivial
          refine ⟨_, Wk.refl _ _, ?_⟩
          show awp _ _ _ _ _ _ _
          refine awp_exit_wk ?_
          refine ⟨_, Wk.refl _ _, ?_⟩
          show awp _ _ _ _ _ _ _
          refine awp_regs hF ?_
          refine dv (gyes_none rfl) (OpQ.cast (v' := .int .i64 ((i + 1 : Nat) : Int)) (q_int rfl rfl rfl) (congrArg _ ((i64_in (by omega)).trans (by first | rfl | omega | (push_cast; rfl))))) rfl (by decide) (cok2 trivial (cconst rfl)) ?_
          refine dv (gyes_none rfl) (q_mv (v := .int .i64 ((i + 1 : Nat) : Int)) rfl) rfl (by decide) (cok1 trivial) ?_
          refine ⟨_, Wk.U [(0, .pointer (some ⟨bs, 0, none⟩)), (2, .slice (some ⟨bo, 0, none⟩) m m), (14, .slice (some ⟨bl, 0, none⟩) l.length l.length), (15, .int .i64 ((l.length : Nat) : Int)), (16, .int .i64 (((i + 1) : Nat) : Int))] ⟨rfl, rfl, rfl, rfl, rfl, trivial⟩, ((i + 1), m, (o.set (m - 1) ((nth o (m - 1)).1, (nth l' i).2))), ⟨_, _, rfl, (s15.sub (.cons _ (.cons_cons _ (.cons_cons _ (.cons_cons _ (.refl _)))))), ⟨by rw [join_succ (by omega), ← ho.1]; exact (js_y' ho.2.1 (by omega) (by omega)).symm, by dsimp only; rw [List.length_set]; exact ho.2.1, by dsimp only; omega, by dsimp only; omega⟩⟩, (by omega)⟩
        ·
          replace c3 := ne_of_beq_false c3
          refine dv (gyes_none rfl) (q_pt (v := .bool false) rfl rfl) rfl (by decide) (call_ok rfl) ?_
          refine ⟨_, Wk.refl _ _, ?_⟩
          show awp _ _ _ _ _ _ _
          refine awp_cond_f rfl ?_
          refine awp_skip_wk ?_
          refine ⟨_, Wk.refl _ _, ?_⟩
          show awp _ _ _ _ _ _ _
          refine awp_regs hF ?_
          refine dv (gyes_none rfl) (q_mv (v := .slice (some ⟨bo, 0, none⟩) m m) rfl) rfl (by decide) (cok1 trivial) ?_
          refine dv (gyes_none rfl) (q_loadAgg Try.isAgg30 Try.sizeOf30 rfl (s13.rd (j := 0) rfl) (Nat.le_of_ble_eq_true rfl) rfl) rfl (by decide) (cok1 trivial) ?_
          refine x_new (fun b => .slice (some ⟨b, 0, none⟩) 1 1) s13 (gyes_none rfl) (q_buildSliceL (ds := [.int .u64 (((nth l' i).1 : Nat) : Int), .int .u64 (((nth l' i).2 : Nat) : Int)]) [.agg #[.int .u64 (((nth l' i).1 : Nat) : Int), .int .u64 (((nth l' i).2 : Nat) : Int)]] rfl Try.underlying24 Try.sizeOf30 Try.zeroValue30 rfl (by decide) (by decide) ⟨rfl, trivial⟩ (lvsC (by exact trivial) lvs0) rfl rfl) rfl (by decide) (cok1 trivial) (fun b16 H17 hb19 s18 => ?_)
          refine x_appendS (m := 2) (l := [((nth l' i).1, (nth l' i).2)]) (l0 := o) (l' := o ++ [nth l' i]) (f := spc) [] hF s18 (by kernel_rfl) (j := 2) (m + 1) rfl (gyes_none rfl) Try.underlying24 Try.underlying24 Try.type30 rfl rfl (by decide) rfl spc_w rfl rfl rfl (s18.slsj (l := [((nth l' i).1, (nth l' i).2)]) spc_w (j := 0) rfl rfl (Nat.le_refl _)) (fun x _ u hu => lc_scalar (spc_sc x u hu)) ho.2.1 (by show (2 * (m + 1) + 1000) * 16 ≤ _; omega) trivial trivial (by decide) rfl rfl rfl (fun b20 H21 hb23 s22 => ⟨?_, ?_⟩)
          · exact trivial
          refine dv (gyes_none rfl) (q_as (v := .slice (some ⟨b20, 0, none⟩) (m + 1) (m + 1)) rfl) rfl (by decide) (cok1 trivial) ?_
          refine ⟨_, Wk.refl _ _, ?_⟩
          show awp _ _ _ _ _ _ _
          refine awp_regs hF ?_
          refine dv (gyes_none rfl) (OpQ.cast (v' := .int .i64 ((i + 1 : Nat) : Int)) (q_int rfl rfl rfl) (congrArg _ ((i64_in (by omega)).trans (by first | rfl | omega | (push_cast; rfl))))) rfl (by decide) (cok2 trivial (cconst rfl)) ?_
          refine dv (gyes_none rfl) (q_mv (v := .int .i64 ((i + 1 : Nat) : Int)) rfl) rfl (by decide) (cok1 trivial) ?_
          refine ⟨_, Wk.U [(0, .pointer (some ⟨bs, 0, none⟩)), (2, .slice (some ⟨b20, 0, none⟩) (m + 1) (m + 1)), (14, .slice (some ⟨bl, 0, none⟩) l.length l.length), (15, .int .i64 ((l.length : Nat) : Int)), (16, .int .i64 (((i + 1) : Nat) : Int))] ⟨rfl, rfl, rfl, rfl, rfl, trivial⟩, ((i + 1), (m + 1), (o ++ [nth l' i])), ⟨_, _, rfl, (s22.sub (.cons _ (.cons _ (.cons_cons _ (.cons_cons _ (.cons_cons _ (.refl _))))))), ⟨by rw [join_succ (by omega), ← ho.1]; exact (js_n' ho.2.1 (by omega)).symm, by dsimp only; rw [List.length_append, ho.2.1]; rfl, by dsimp only; omega, by dsimp only; omega⟩⟩, (by omega)⟩
      ·
        replace c2 := of_decide_eq_false c2
        refine dv (gyes_none rfl) (q_mv (v := .bool false) rfl) rfl (by decide) (cok1 trivial) ?_
        refine dno rfl (.inl rfl) rfl (by decide) ?_
        refine dno rfl (.inl rfl) rfl (by decide) ?_
        refine dno rfl (.inl rfl) rfl (by decide) ?_
        refine dno rfl (.inl rfl) rfl (by decide) ?_
        refine dno rfl (.inl rfl) rfl (by decide) ?_
        refine dno rfl (.inl rfl) rfl (by decide) ?_
        refine dno rfl (.inl rfl) rfl (by decide) ?_
        refine dno rfl (.inl rfl) rfl (by decide) ?_
        refine dno rfl (.inl rfl) rfl (by decide) ?_
        refine dv (gyes_none rfl) (q_pf (v := .bool false) rfl rfl) rfl (by decide) (call_ok rfl) ?_
        refine ⟨_, Wk.refl _ _, ?_⟩
        show awp _ _ _ _ _ _ _
        refine awp_cond_f rfl ?_
        refine awp_skip_wk ?_
        refine ⟨_, Wk.refl _ _, ?_⟩
        show awp _ _ _ _ _ _ _
        refine awp_regs hF ?_
        refine dv (gyes_none rfl) (q_mv (v := .slice (some ⟨bo, 0, none⟩) m m) rfl) rfl (by decide) (cok1 trivial) ?_
        refine dv (gyes_none rfl) (q_loadAgg Try.isAgg30 Try.sizeOf30 rfl (s13.rd (j := 0) rfl) (Nat.le_of_ble_eq_true rfl) rfl) rfl (by decide) (cok1 trivial) ?_
        refine x_new (fun b => .slice (some ⟨b, 0, none⟩) 1 1) s13 (gyes_none rfl) (q_buildSliceL (ds := [.int .u64 (((nth l' i).1 : Nat) : Int), .int .u64 (((nth l' i).2 : Nat) : Int)]) [.agg #[.int .u64 (((nth l' i).1 : Nat) : Int), .int .u64 (((nth l' i).2 : Nat) : Int)]] rfl Try.underlying24 Try.sizeOf30 Try.zeroValue30 rfl (by decide) (by decide) ⟨rfl, trivial⟩ (lvsC (by exact trivial) lvs0) rfl rfl) rfl (by decide) (cok1 trivial) (fun b24 H25 hb27 s26 => ?_)
        refine x_appendS (m := 2) (l := [((nth l' i).1, (nth l' i).2)]) (l0 := o) (l' := o ++ [nth l' i]) (f := spc) [] hF s26 (by kernel_rfl) (j := 2) (m + 1) rfl (gyes_none rfl) Try.underlying24 Try.underlying24 Try.type30 rfl rfl (by decide) rfl spc_w rfl rfl rfl (s26.slsj (l := [((nth l' i).1, (nth l' i).2)]) spc_w (j := 0) rfl rfl (Nat.le_refl _)) (fun x _ u hu => lc_scalar (spc_sc x u hu)) ho.2.1 (by show (2 * (m + 1) + 1000) * 16 ≤ _; omega) trivial trivial (by decide) rfl rfl rfl (fun b28 H29 hb31 s30 => ⟨?_, ?_⟩)
        · exact trivial
        refine dv (gyes_none rfl) (q_as (v := .slice (some ⟨b28, 0, none⟩) (m + 1) (m + 1)) rfl) rfl (by decide) (cok1 trivial) ?_
        refine ⟨_, Wk.refl _ _, ?_⟩
        show awp _ _ _ _ _ _ _
        refine awp_regs hF ?_
        refine dv (gyes_none rfl) (OpQ.cast (v' := .int .i64 ((i + 1 : Nat) : Int)) (q_int rfl rfl rfl) (congrArg _ ((i64_in (by omega)).trans (by first | rfl | omega | (push_cast; rfl))))) rfl (by decide) (cok2 trivial (cconst rfl)) ?_
        refine dv (gyes_none rfl) (q_mv (v := .int .i64 ((i + 1 : Nat) : Int)) rfl) rfl (by decide) (cok1 trivial) ?_
        refine ⟨_, Wk.U [(0, .pointer (some ⟨bs, 0, none⟩)), (2, .slice (some ⟨b28, 0, none⟩) (m + 1) (m + 1)), (14, .slice (some ⟨bl, 0, none⟩) l.length l.length), (15, .int .i64 ((l.length : Nat) : Int)), (16, .int .i64 (((i + 1) : Nat) : Int))] ⟨rfl, rfl, rfl, rfl, rfl, trivial⟩, ((i + 1), (m + 1), (o ++ [nth l' i])), ⟨_, _, rfl, (s30.sub (.cons _ (.cons _ (.cons_cons _ (.cons_cons _ (.cons_cons _ (.refl _))))))), ⟨by rw [join_succ (by omega), ← ho.1]; exact (js_n' ho.2.1 (by omega)).symm, by dsimp only; rw [List.length_append, ho.2.1]; rfl, by dsimp only; omega, by dsimp only; omega⟩⟩, (by omega)⟩
    ·
      replace c1 := of_decide_eq_false c1
      refine ⟨_, Wk.refl _ _, ?_⟩
      show awp _ _ _ _ _ _ _
      refine awp_seq ?_
      refine awp_cond_f rfl ?_
      refine awp_exit_wk ?_
      refine ⟨_, Wk.refl _ _, ?_⟩
      show awp _ _ _ _ _ _ _
      refine awp_regs hF ?_
      refine dv (gyes_none rfl) (q_mv (v := .pointer (some ⟨bs, 0, none⟩)) rfl) rfl (by decide) (cok1 trivial) ?_
      refine dv (gyes_none rfl) (q_mv (v := .slice (some ⟨bo, 0, none⟩) m m) rfl) rfl (by decide) (cok1 trivial) ?_
      refine dv (gyes_none rfl) (q_nilCheck rfl (s7.live (j := 1) rfl)) rfl (by decide) (cok1 trivial) ?_
      refine dv (gyes_none rfl) (q_field Try.underlying26 rfl Try.sizeOf24 rfl (s7.rd (j := 1) rfl)) rfl (by decide) (cok1 trivial) ?_
      refine x_store1 [] hF s7 (by kernel_rfl) (gyes_none rfl) (j := 1) (v := .slice (some ⟨bo, 0, none⟩) m m) rfl Try.sizeOf24 rfl rfl rfl (lc_slice (s7.live (j := 0) rfl)) (Nat.le_of_ble_eq_true rfl) trivial trivial rfl rfl (F' := [(bo, .cells true (fl spc o) 2), (bs, .cells true [.slice (some ⟨bo, 0, none⟩) m m] 1), (bl, .cells true (fl spc l') 2)]) rfl (fun H32 s33 => ⟨?_, ?_⟩)
      · exact trivial
      have hoj : o = joinS l' := by rw [ho.1]; unfold joinS; rw [List.take_of_length_le (by omega)]
      refine ⟨_, Wk.refl _ _, ?_⟩
      repeat (with_reducible first | refine then_ret ?_ | refine blk_ret ?_ | refine then_exit ?_ | refine blk_exit ?_ | refine blk_exit' (by decide) ?_ | refine blk_normal ?_ | refine then_normal ?_ | refine retq_ret ?_ | refine retq_normal ?_ | refine ng_normal ?_ | refine ng_ret ?_ | refine ng_exit ?_)
      refine ret_is (v := .tuple #[]) rfl .nil rfl ?_
      exact ⟨l', _, rfl, hperm, hsort, s33.kp, s33.own _ (List.mem_of_getElem? (i := 0) rfl), s33.nej (i := 0) (j := 1) rfl rfl (by decide), by rw [← hoj, ← ho.2.1]; exact s33.getj (j := 1) rfl, by rw [← hoj]; exact s33.getj (j := 0) rfl⟩
set_option maxRecDepth 100000 in
set_option maxHeartbeats 4000000 in
theorem add_ok {H0 : AHeap} (bs bl : Nat) (l : List Sp) (hl : l.length ≤ 900) (hnd : [bs, bl].Nodup) (h1 : H0[bs]? = some (.cells true [.slice (some ⟨bl, 0, none⟩) l.length l.length] 1)) (h2 : H0[bl]? = some (.cells true (fl spc l) 2)) (x : Sp) : ACalls Try.prog 9 [.pointer (some ⟨bs, 0, none⟩), .agg #[.int .u64 ((x.1 : Nat) : Int), .int .u64 ((x.2 : Nat) : Int)]] H0 (fun v H' => ∃ (ok : Bool) (L : List Sp) (bn : Nat), v = .bool ok ∧ AddR l x ok L ∧ Kp (· ∈ [bs, bl]) H0 H' ∧ (H0.length ≤ bn ∨ bn ∈ [bs, bl]) ∧ bn ≠ bs ∧ H'[bs]? = some (.cells true [.slice (some ⟨bn, 0, none⟩) L.length L.length] 1) ∧ H'[bn]? = some (.cells true (fl spc L) 2)) := by
  have hF : Wd Fence.wide := .inl rfl
  have hM : Try.prog.follows .mixedOrders = true := by kernel_rfl
  have s0 : St H0 (· ∈ [bs, bl]) (Off H0 [bs, bl]) H0 [(bs, .cells true [.slice (some ⟨bl, 0, none⟩) l.length l.length] 1), (bl, .cells true (fl spc l) 2)] := St.beginL [(bs, .cells true [.slice (some ⟨bl, 0, none⟩) l.length l.length] 1), (bl, .cells true (fl spc l) 2)] hnd (allAt_mem ⟨h1, h2, trivial⟩)
  refine acalls_st Try.func9 rfl Try.ntmps9 rfl ?_
  refine awp_seq ?_
  refine awp_regs hF ?_
  refine x_new (fun b => .pointer (some ⟨b, 0, none⟩)) s0 (gyes_none rfl) (q_box (v := .agg #[.int .u64 ((x.1 : Nat) : Int), .int .u64 ((x.2 : Nat) : Int)]) (vs := [.int .u64 ((x.1 : Nat) : Int), .int .u64 ((x.2 : Nat) : Int)]) 2 rfl (by exact trivial) rfl) rfl (by decide) (cok1 trivial) (fun b1 H2 hb4 s3 => ?_)
  refine dv (gyes_none rfl) (q_as (v := .bool false) rfl) rfl (by decide) (cok1 (cconst rfl)) ?_
  refine ⟨_, Wk.refl _ _, ?_⟩
  show awp _ _ _ _ _ _ _
  refine awp_seq ?_
  refine awp_seq ?_
  refine awp_regs hF ?_
  refine dv (gyes_none rfl) (q_mv (v := .pointer (some ⟨bs, 0, none⟩)) rfl) rfl (by decide) (cok1 trivial) ?_
  refine dv (gyes_none rfl) (q_ptrnil_f Try.underlying49 rfl (s3.live (j := 1) rfl) rfl) rfl (by decide) (cok2 trivial (cconst rfl)) ?_
  refine dv (gyes_none rfl) (q_mv (v := .bool false) rfl) rfl (by decide) (cok1 trivial) ?_
  refine dv (gyes_some rfl rfl) (q_loadAgg Try.isAgg30 Try.sizeOf30 rfl (s3.rd (j := 0) rfl) (Nat.le_of_ble_eq_true rfl) rfl) rfl (by decide) (cok1 trivial) ?_
  refine dvb (gyes_some rfl rfl) (q_call0 Try.call27 rfl (empty_ok x)) rfl (by decide) (cok2 trivial trivial) (fun c1 => ?_) (fun c1 => ?_)
  ·
    replace c1 := of_decide_eq_true c1
    refine dv (gyes_none rfl) (q_pf (v := .bool true) rfl rfl) rfl (by decide) (call_ok rfl) ?_
    refine dv (gyes_none rfl) (q_mv (v := .bool true) rfl) rfl (by decide) (cok1 trivial) ?_
    refine dno rfl (.inl rfl) rfl (by decide) ?_
    refine dno rfl (.inl rfl) rfl (by decide) ?_
    refine dno rfl (.inl rfl) rfl (by decide) ?_
    refine dv (gyes_none rfl) (q_pt (v := .bool true) rfl rfl) rfl (by decide) (call_ok rfl) ?_
    refine ⟨_, Wk.refl _ _, ?_⟩
    show awp _ _ _ _ _ _ _
    refine awp_cond_t rfl ?_
    refine awp_seq ?_
    refine awp_regs hF ?_
    refine dv (gyes_none rfl) (q_as (v := .bool false) rfl) rfl (by decide) (cok1 (cconst rfl)) ?_
    refine ⟨_, Wk.refl _ _, ?_⟩
    show awp _ _ _ _ _ _ _
    refine awp_ret_wk ?_
    refine ⟨_, Wk.refl _ _, ?_⟩
    repeat (with_reducible first | refine then_ret ?_ | refine blk_ret ?_ | refine then_exit ?_ | refine blk_exit ?_ | refine blk_exit' (by decide) ?_ | refine blk_normal ?_ | refine then_normal ?_ | refine retq_ret ?_ | refine retq_normal ?_ | refine ng_normal ?_ | refine ng_ret ?_ | refine ng_exit ?_)
    refine ret_is (v := .bool false) rfl (.tmp rfl .nil) rfl ?_
    exact ⟨_, _, _, rfl, .inl ⟨rfl, by first | exact .inl (by assumption) | exact .inr (by assumption), rfl⟩, s3.kp, s3.own _ (List.mem_of_getElem? (i := 2) rfl), s3.nej (i := 2) (j := 1) rfl rfl (by decide), s3.getj (j := 1) rfl, s3.getj (j := 2) rfl⟩
  ·
    replace c1 := of_decide_eq_false c1
    refine dv (gyes_none rfl) (q_pf (v := .bool false) rfl rfl) rfl (by decide) (call_ok rfl) ?_
    refine dv (gyes_none rfl) (q_mv (v := .bool false) rfl) rfl (by decide) (cok1 trivial) ?_
    refine dv (gyes_some rfl rfl) (q_mv (v := .pointer (some ⟨bs, 0, none⟩)) rfl) rfl (by decide) (cok1 trivial) ?_
    refine dv (gyes_some rfl rfl) (q_loadAgg Try.isAgg30 Try.sizeOf30 rfl (s3.rd (j := 0) rfl) (Nat.le_of_ble_eq_true rfl) rfl) rfl (by decide) (cok1 trivial) ?_
    refine dvb (gyes_some rfl rfl) (q_call0 Try.call20 rfl (meets_ok bs _ l (s3.rd (j := 1) rfl) (s3.slsj (l := l) spc_w (j := 2) rfl rfl (Nat.le_refl _)) (by omega) x)) rfl (by decide) (call_ok rfl) (fun c2 => ?_) (fun c2 => ?_)
    ·
      refine dv (gyes_none rfl) (q_pf (v := .bool true) rfl rfl) rfl (by decide) (call_ok rfl) ?_
      refine ⟨_, Wk.refl _ _, ?_⟩
      show awp _ _ _ _ _ _ _
      refine awp_cond_t rfl ?_
      refine awp_seq ?_
      refine awp_regs hF ?_
      refine dv (gyes_none rfl) (q_as (v := .bool false) rfl) rfl (by decide) (cok1 (cconst rfl)) ?_
      refine ⟨_, Wk.refl _ _, ?_⟩
      show awp _ _ _ _ _ _ _
      refine awp_ret_wk ?_
      refine ⟨_, Wk.refl _ _, ?_⟩
      repeat (with_reducible first | refine then_ret ?_ | refine blk_ret ?_ | refine then_exit ?_ | refine blk_exit ?_ | refine blk_exit' (by decide) ?_ | refine blk_normal ?_ | refine then_normal ?_ | refine retq_ret ?_ | refine retq_normal ?_ | refine ng_normal ?_ | refine ng_ret ?_ | refine ng_exit ?_)
      refine ret_is (v := .bool false) rfl (.tmp rfl .nil) rfl ?_
      exact ⟨_, _, _, rfl, .inl ⟨rfl, by first | exact .inl (by assumption) | exact .inr (by assumption), rfl⟩, s3.kp, s3.own _ (List.mem_of_getElem? (i := 2) rfl), s3.nej (i := 2) (j := 1) rfl rfl (by decide), s3.getj (j := 1) rfl, s3.getj (j := 2) rfl⟩
    ·
      refine dv (gyes_none rfl) (q_pf (v := .bool false) rfl rfl) rfl (by decide) (call_ok rfl) ?_
      refine ⟨_, Wk.refl _ _, ?_⟩
      show awp _ _ _ _ _ _ _
      refine awp_cond_f rfl ?_
      refine awp_skip_wk ?_
      refine ⟨_, Wk.refl _ _, ?_⟩
      show awp _ _ _ _ _ _ _
      refine awp_seq ?_
      refine awp_regt hF hM (by kernel_rfl) (by kernel_rfl) ?_
      refine dv (gyes_none rfl) (q_mv (v := .pointer (some ⟨bs, 0, none⟩)) rfl) rfl (by decide) (cok1 trivial) ?_
      refine dv (gyes_none rfl) (q_mv (v := .pointer (some ⟨bs, 0, none⟩)) rfl) rfl (by decide) (cok1 trivial) ?_
      refine dv (gyes_none rfl) (q_nilCheck rfl (s3.live (j := 1) rfl)) rfl (by decide) (cok1 trivial) ?_
      refine dv (gyes_none rfl) (q_field Try.underlying26 rfl Try.sizeOf24 rfl (s3.rd (j := 1) rfl)) rfl (by decide) (cok1 trivial) ?_
      refine dv (gyes_none rfl) (q_load (v := .slice (some ⟨bl, 0, none⟩) l.length l.length) Try.isAgg24 rfl (s3.rd (j := 1) rfl) rfl) rfl (by decide) (cok1 trivial) ?_
      refine dv (gyes_none rfl) (q_loadAgg Try.isAgg30 Try.sizeOf30 rfl (s3.rd (j := 0) rfl) (Nat.le_of_ble_eq_true rfl) rfl) rfl (by decide) (cok1 trivial) ?_
      refine x_new (fun b => .slice (some ⟨b, 0, none⟩) 1 1) s3 (gyes_none rfl) (q_buildSliceL (ds := [.int .u64 ((x.1 : Nat) : Int), .int .u64 ((x.2 : Nat) : Int)]) [.agg #[.int .u64 ((x.1 : Nat) : Int), .int .u64 ((x.2 : Nat) : Int)]] rfl Try.underlying24 Try.sizeOf30 Try.zeroValue30 rfl (by decide) (by decide) ⟨rfl, trivial⟩ (lvsC (by exact trivial) lvs0) rfl rfl) rfl (by decide) (cok1 trivial) (fun b5 H6 hb8 s7 => ?_)
      refine x_appendS (m := 2) (l := [(x.1, x.2)]) (l0 := l) (l' := l ++ [x]) (f := spc) [0] hF s7 (by kernel_rfl) (j := 3) (l.length + 1) rfl (gyes_none rfl) Try.underlying24 Try.underlying24 Try.type30 rfl rfl (by decide) rfl spc_w rfl rfl rfl (s7.slsj (l := [(x.1, x.2)]) spc_w (j := 0) rfl rfl (Nat.le_refl _)) (fun x _ u hu => lc_scalar (spc_sc x u hu)) rfl (by show (2 * (l.length + 1) + 1000) * 16 ≤ _; omega) trivial trivial (by decide) rfl rfl rfl (fun b9 H10 hb12 s11 => ⟨?_, ?_⟩)
      · exact ⟨pend_yes rfl (gyes_none rfl) (q_mv (v := .pointer (some ⟨bs, 0, none⟩)) rfl) rfl (by decide) (cok1 trivial) rfl, trivial⟩
      refine dv (gyes_none rfl) (q_nilCheck rfl (s11.live (j := 2) rfl)) rfl (by decide) (cok1 trivial) ?_
      refine dv (gyes_none rfl) (q_field Try.underlying26 rfl Try.sizeOf24 rfl (s11.rd (j := 2) rfl)) rfl (by decide) (cok1 trivial) ?_
      refine x_store1 [] hF s11 (by kernel_rfl) (gyes_none rfl) (j := 2) (v := .slice (some ⟨b9, 0, none⟩) (l.length + 1) (l.length + 1)) rfl Try.sizeOf24 rfl rfl rfl (lc_slice (s11.live (j := 3) rfl)) (Nat.le_of_ble_eq_true rfl) trivial trivial rfl rfl (F' := [(b5, .cells true [.int .u64 ((x.1 : Nat) : Int), .int .u64 ((x.2 : Nat) : Int)] 2), (b1, .cells true [.int .u64 ((x.1 : Nat) : Int), .int .u64 ((x.2 : Nat) : Int)] 2), (bs, .cells true [.slice (some ⟨b9, 0, none⟩) (l.length + 1) (l.length + 1)] 1), (b9, .cells true (fl spc (l ++ [x])) 2)]) rfl (fun H13 s14 => ⟨?_, ?_⟩)
      · exact trivial
      refine ⟨_, Wk.refl _ _, ?_⟩
      show awp _ _ _ _ _ _ _
      refine awp_seq ?_
      refine awp_regs hF ?_
      refine dv (gyes_none rfl) (q_mv (v := .pointer (some ⟨bs, 0, none⟩)) rfl) rfl (by decide) (cok1 trivial) ?_
      refine x_call [] hF (by kernel_rfl) (gyes_none rfl) Try.call28 rfl (args := [.pointer (some ⟨bs, 0, none⟩)]) rfl (setSort_ok bs b9 (l ++ [x]) (by rw [List.length_append]; show _ + 1 ≤ _; omega) (nod2 (s14.nej (i := 2) (j := 3) rfl rfl (by decide))) (by rw [List.length_append]; exact s14.getj (j := 2) rfl) (s14.getj (j := 3) rfl) (by rw [List.length_append]; show 0 < _ + 1; omega)) (show _ < _ by decide) (call_ok rfl) rfl rfl (fun _ _ _ _ hd => by cases hd) ?_
      rintro _ H15 ⟨l', b16, rfl, hperm, hsort, hk17, ho18, hn19, h20, h21⟩
      have s22 := s14.turn2 (j9 := 2) (jl := 3) rfl rfl (by decide) hk17 ho18 hn19 h20 h21
      refine ⟨trivial, ?_⟩
      show dList _ _ _ _ _ _ _ _ _ _
      refine ⟨_, Wk.refl _ _, ?_⟩
      show awp _ _ _ _ _ _ _
      refine awp_seq ?_
      refine awp_regs hF ?_
      refine dv (gyes_none rfl) (q_as (v := .bool true) rfl) rfl (by decide) (cok1 (cconst rfl)) ?_
      refine ⟨_, Wk.refl _ _, ?_⟩
      show awp _ _ _ _ _ _ _
      refine awp_ret_wk ?_
      refine ⟨_, Wk.refl _ _, ?_⟩
      repeat (with_reducible first | refine then_ret ?_ | refine blk_ret ?_ | refine then_exit ?_ | refine blk_exit ?_ | refine blk_exit' (by decide) ?_ | refine blk_normal ?_ | refine then_normal ?_ | refine retq_ret ?_ | refine retq_normal ?_ | refine ng_normal ?_ | refine ng_ret ?_ | refine ng_exit ?_)
      refine ret_is (v := .bool true) rfl (.tmp rfl .nil) rfl ?_
      exact ⟨_, _, _, rfl, .inr ⟨rfl, by omega, by assumption, l', hperm, hsort, rfl⟩, s22.kp, s22.own _ (List.mem_of_getElem? (i := 3) rfl), s22.nej (i := 3) (j := 2) rfl rfl (by decide), s22.getj (j := 2) rfl, s22.getj (j := 3) rfl⟩
end Go.Proofs.YtjgeheookgogaaaA


/-
  Walks of functions of the given program, and what they compute.
-/
namespace Go.Proofs.YtjgeheookgogaaaA
set_option linter.unusedVariables false
open Go Go.RowKit Go.Shelf Go.Proofs
def sumS (l : List Sp) : Nat → Nat
  | 0 => 0
  | k + 1 => sumS l k + ((nth l k).2 - (nth l k).1)
def fitS (n al : Nat) (iv : Sp) (l : List Sp) : Nat → Nat × Bool
  | 0 => upV iv.1 al
  | k + 1 => if meetsB ((fitS n al iv l k).1, ((fitS n al iv l k).1 + n) % 18446744073709551616) (nth l k) = true then upV (nth l k).2 al else fitS n al iv l k
def stopS (n : Nat) (iv : Sp) (s : Nat × Bool) : Bool := !s.2 || decide (iv.2 ≤ s.1) || decide (iv.2 - s.1 < n)
def fitV (n al : Nat) (iv : Sp) (l : List Sp) : Nat × Bool := if n = 0 ∨ al = 0 then (0, false) else if (List.range (l.length + 1)).any (fun k => stopS n iv (fitS n al iv l k)) = true then (0, false) else ((fitS n al iv l l.length).1, true)
theorem fit_y {n al : Nat} {iv : Sp} {l : List Sp} {k a : Nat} {o : Bool} (h : (a, o) = fitS n al iv l k) (hm : meetsB (a, (a + n) % 18446744073709551616) (nth l k) = true) : upV (nth l k).2 al = fitS n al iv l (k + 1) := by
  show _ = if _ then _ else _
  rw [← h, if_pos hm]
theorem fit_n {n al : Nat} {iv : Sp} {l : List Sp} {k a : Nat} {o : Bool} (h : (a, o) = fitS n al iv l k) (hm : meetsB (a, (a + n) % 18446744073709551616) (nth l k) = false) : (a, o) = fitS n al iv l (k + 1) := by
  show _ = if _ then _ else _
  rw [← h, if_neg (by rw [hm]; exact fun h => nomatch h)]
theorem fitV_z {n al : Nat} {iv : Sp} {l : List Sp} (h : n = 0 ∨ al = 0) : fitV n al iv l = (0, false) := if_pos h
theorem fitV_s {n al : Nat} {iv : Sp} {l : List Sp} {k : Nat} (hk : k ≤ l.length) (h : stopS n iv (fitS n al iv l k) = true) : fitV n al iv l = (0, false) := by
  unfold fitV
  split
  · rfl
  · rw [if_pos (List.any_eq_true.2 ⟨k, List.mem_range.2 (by omega), h⟩)]
theorem fitV_t {n al : Nat} {iv : Sp} {l : List Sp} (h0 : ¬ (n = 0 ∨ al = 0)) (h : ∀ k, k < l.length + 1 → stopS n iv (fitS n al iv l k) = false) : fitV n al iv l = ((fitS n al iv l l.length).1, true) := by
  unfold fitV
  rw [if_neg h0, if_neg]
  intro h2
  obtain ⟨k, hk, h3⟩ := List.any_eq_true.1 h2
  rw [h k (List.mem_range.1 hk)] at h3
  exact nomatch h3
theorem stop_o {n : Nat} {iv : Sp} {a : Nat} {o : Bool} (h : o = false) : stopS n iv (a, o) = true := by subst h; rfl
theorem stop_a {n : Nat} {iv : Sp} {a : Nat} {o : Bool} (h : iv.2 ≤ a) : stopS n iv (a, o) = true := by unfold stopS; rw [decide_eq_true h]; simp
theorem stop_n {n : Nat} {iv : Sp} {a : Nat} {o : Bool} (h : iv.2 - a < n) : stopS n iv (a, o) = true := by unfold stopS; rw [decide_eq_true h]; simp
theorem stop_f {n : Nat} {iv : Sp} {a : Nat} {o : Bool} (h1 : o = true) (h2 : ¬ iv.2 ≤ a) (h3 : ¬ iv.2 - a < n) : stopS n iv (a, o) = false := by subst h1; unfold stopS; rw [decide_eq_false h2, decide_eq_false h3]; rfl
theorem upV_lt {a n : Nat} (ha : a < 18446744073709551616) : (upV a n).1 < 18446744073709551616 := by
  unfold upV; split
  · exact ha
  · exact Nat.mod_lt _ (by decide)
def p2 (x o : Sp) (i : Nat) : Sp := if i = 0 then (o.1, x.1) else (x.2, o.2)
def remP (x o : Sp) : Nat → List Sp
  | 0 => []
  | i + 1 => if (p2 x o i).2 ≤ (p2 x o i).1 then remP x o i else remP x o i ++ [p2 x o i]
def remA (x : Sp) (l : List Sp) : Nat → List Sp
  | 0 => []
  | k + 1 => if withinB x (nth l k) = true then remA x l k ++ remP x (nth l k) 2 else remA x l k ++ [nth l k]
def RemR (l : List Sp) (x : Sp) (ok : Bool) (L : List Sp) : Prop := (ok = false ∧ (x.2 ≤ x.1 ∨ (decide (x.2 ≤ x.1) || l.any (withinB x)) = false) ∧ L = l) ∨ (ok = true ∧ x.1 < x.2 ∧ (decide (x.2 ≤ x.1) || l.any (withinB x)) = true ∧ L = remA x l l.length)
set_option maxRecDepth 100000 in
set_option maxHeartbeats 4000000 in
theorem all_ok {H0 : AHeap} (bs : Nat) (vL : Value) (hs_ : Rd H0 bs [vL] 1) : ACalls Try.prog 11 [.pointer (some ⟨bs, 0, none⟩)] H0 (fun v H' => ∃ bc, v = .func (.func 29) #[] #[.pointer (some ⟨bc, 0, none⟩)] ∧ NewL H0 H' [(bc, .cells true [.pointer (some ⟨bs, 0, none⟩)] 1)]) := by
  have hF : Wd Fence.wide := .inl rfl
  have hM : Try.prog.follows .mixedOrders = true := by kernel_rfl
  have s0 := St.begin H0
  refine acalls_st Try.func11 rfl Try.ntmps11 rfl ?_
  refine awp_seq ?_
  refine awp_regs hF ?_
  refine x_new (fun b => .pointer (some ⟨b, 0, none⟩)) s0 (gyes_none rfl) (q_box (v := .pointer (some ⟨bs, 0, none⟩)) (vs := [.pointer (some ⟨bs, 0, none⟩)]) 1 rfl (Rd.live (s0.zrd hs_)) rfl) rfl (by decide) (cok1 trivial) (fun b1 H2 hb4 s3 => ?_)
  refine dv (gyes_none rfl) (q_as (v := .nilFunc) rfl) rfl (by decide) (cok1 (cconst rfl)) ?_
  refine ⟨_, Wk.refl _ _, ?_⟩
  show awp _ _ _ _ _ _ _
  refine awp_seq ?_
  refine awp_regs hF ?_
  refine dv (gyes_none rfl) (q_makeFuncL [.pointer (some ⟨b1, 0, none⟩)] ⟨rfl, trivial⟩) rfl (by decide) (cok1 trivial) ?_
  refine dv (gyes_none rfl) (q_as (v := .func (.func 29) #[] #[.pointer (some ⟨b1, 0, none⟩)]) rfl) rfl (by decide) (cok1 trivial) ?_
  refine ⟨_, Wk.refl _ _, ?_⟩
  show awp _ _ _ _ _ _ _
  refine awp_ret_wk ?_
  refine ⟨_, Wk.refl _ _, ?_⟩
  repeat (with_reducible first | refine then_ret ?_ | refine blk_ret ?_ | refine then_exit ?_ | refine blk_exit ?_ | refine blk_exit' (by decide) ?_ | refine blk_normal ?_ | refine then_normal ?_ | refine retq_ret ?_ | refine retq_normal ?_ | refine ng_normal ?_ | refine ng_ret ?_ | refine ng_exit ?_)
  refine ret_is (v := .func (.func 29) #[] #[.pointer (some ⟨b1, 0, none⟩)]) rfl (.tmp rfl .nil) rfl ?_
  exact ⟨_, rfl, s3.newL⟩
set_option maxRecDepth 100000 in
set_option maxHeartbeats 4000000 in
theorem alls1_ok {H0 : AHeap} (bc bs : Nat) (vL : Value) (l : List Sp) (hl : l.length ≤ 1000000) (y : Value) (Iv E' : Nat → AHeap → Prop) (h0 : Iv 0 H0) (hm : ∀ i H H', Iv i H → K0 H H' → Iv i H')
    (hb : ∀ i H, Iv i H → Rd H bc [.pointer (some ⟨bs, 0, none⟩)] 1 ∧ Rd H bs [vL] 1 ∧ SlS spc 2 H vL l)
    (hy : ∀ i H, Iv i H → i < l.length → Ylds Try.prog y [.agg (spc (nth l i)).toArray] H (fun b H' => (b = true → Iv (i + 1) H') ∧ (b = false → E' (i + 1) H'))) : ACalls Try.prog 29 [y, .pointer (some ⟨bc, 0, none⟩)] H0 (fun v H' => v = .tuple #[] ∧ (Iv l.length H' ∨ ∃ i, i < l.length ∧ E' (i + 1) H')) := by
  have hF : Wd Fence.wide := .inl rfl
  have hM : Try.prog.follows .mixedOrders = true := by kernel_rfl
  have s0 := St.begin H0
  obtain ⟨hc_, hs_, hL⟩ := hb _ _ h0
  refine acalls_st Try.func29 rfl Try.ntmps29 rfl ?_
  refine awp_seq ?_
  refine awp_seq ?_
  refine awp_regs hF ?_
  refine dv (gyes_none rfl) (q_load (v := .pointer (some ⟨bs, 0, none⟩)) Try.isAgg49 rfl (s0.zrd hc_) rfl) rfl (by decide) (cok1 trivial) ?_
  refine dv (gyes_none rfl) (q_ptrnil_f Try.underlying49 rfl (Rd.live (s0.zrd hs_)) rfl) rfl (by decide) (cok2 trivial (cconst rfl)) ?_
  refine ⟨_, Wk.refl _ _, ?_⟩
  show awp _ _ _ _ _ _ _
  refine awp_cond_f rfl ?_
  refine awp_skip_wk ?_
  refine ⟨_, Wk.refl _ _, ?_⟩
  show awp _ _ _ _ _ _ _
  refine awp_seq ?_
  refine awp_regs hF ?_
  refine dv (gyes_none rfl) (q_load (v := .pointer (some ⟨bs, 0, none⟩)) Try.isAgg49 rfl (s0.zrd hc_) rfl) rfl (by decide) (cok1 trivial) ?_
  refine dv (gyes_none rfl) (q_nilCheck rfl (Rd.live (s0.zrd hs_))) rfl (by decide) (cok1 trivial) ?_
  refine dv (gyes_none rfl) (q_field Try.underlying26 rfl Try.sizeOf24 rfl (s0.zrd hs_)) rfl (by decide) (cok1 trivial) ?_
  refine dv (gyes_none rfl) (q_load (v := vL) Try.isAgg24 rfl (s0.zrd hs_) rfl) rfl (by decide) (cok1 trivial) ?_
  refine dv (gyes_none rfl) (q_len_sls (l := l) Try.underlying24 (hL) rfl) rfl (by decide) (cok1 trivial) ?_
  refine dv (gyes_none rfl) (q_mv (v := .int .i64 0) rfl) rfl (by decide) (cok1 (cconst rfl)) ?_
  refine ⟨_, Wk.refl _ _, ?_⟩
  show awp _ _ _ _ _ _ _
  refine awp_block ?_
  refine awp_wk (Wk.U [(0, y), (1, .pointer (some ⟨bc, 0, none⟩)), (10, vL), (11, .int .i64 ((l.length : Nat) : Int)), (12, .int .i64 0)] ⟨rfl, rfl, rfl, rfl, rfl, trivial⟩) ?_
  refine awp_loop (fun (i : Nat) st => ∃ (H1 : AHeap), st = ⟨21, U [(0, y), (1, .pointer (some ⟨bc, 0, none⟩)), (10, vL), (11, .int .i64 ((l.length : Nat) : Int)), (12, .int .i64 ((i : Nat) : Int))], [], H1⟩ ∧ St H1 (none0) (Rd H1) H1 [] ∧ (i ≤ l.length ∧ Iv i H1)) (fun (i : Nat) => l.length - i) (x0 := (0)) ?h0 ?round
  case h0 =>
    exact ⟨_, rfl, s0, ⟨Nat.zero_le _, hm _ _ _ h0 s0.kp⟩⟩
  case round =>
    rintro i _ ⟨H1, rfl, s2, hI⟩
    obtain ⟨hc_, hs_, hL⟩ := hb _ _ hI.2
    refine awp_seq ?_
    refine awp_regs hF ?_
    refine dvb (gyes_none rfl) (q_int rfl rfl rfl) rfl (by decide) (cok2 trivial trivial) (fun c1 => ?_) (fun c1 => ?_)
    ·
      replace c1 := of_decide_eq_true c1
      refine ⟨_, Wk.refl _ _, ?_⟩
      show awp _ _ _ _ _ _ _
      refine awp_seq ?_
      refine awp_cond_t rfl ?_
      refine awp_skip_wk ?_
      refine ⟨_, Wk.refl _ _, ?_⟩
      show awp _ _ _ _ _ _ _
      refine awp_seq ?_
      refine awp_block ?_
      refine awp_seq ?_
      refine awp_regs hF ?_
      refine dv (gyes_none rfl) (q_index_sls (l := l) (i := i) Try.underlying24 Try.sizeOf30 (hL) spc_w rfl rfl (by omega)) rfl (by decide) (cok2 trivial trivial) ?_
      refine dv (gyes_none rfl) (q_loadA_sls (l := l) (i := i) Try.isAgg30 Try.sizeOf30 (hL) spc_w rfl (by omega)) rfl (by decide) (cok1 trivial) ?_
      refine x_new (fun b => .pointer (some ⟨b, 0, none⟩)) s2 (gyes_none rfl) (q_alloc (vs := [.int .u64 0, .int .u64 0]) 2 Try.zeroValue30 (by first | exact flat_scalar rfl | exact flat_agg rfl) rfl) rfl (by decide) (by simp [Op.operands, Call.operands]) (fun b3 H4 hb6 s5 => ?_)
      refine x_store [] hF s5 (by kernel_rfl) (gyes_none rfl) (j := 0) (v := .agg #[.int .u64 (((nth l i).1 : Nat) : Int), .int .u64 (((nth l i).2 : Nat) : Int)]) rfl Try.sizeOf30 rfl rfl rfl rfl rfl trivial (lcsA ⟨(lc_scalar rfl), (lc_scalar rfl), trivial⟩) (Nat.le_of_ble_eq_true rfl) trivial trivial rfl rfl (F' := [(b3, .cells true [.int .u64 (((nth l i).1 : Nat) : Int), .int .u64 (((nth l i).2 : Nat) : Int)] 2)]) rfl (fun H7 s8 => ⟨?_, ?_⟩)
      · exact trivial
      refine ⟨_, Wk.refl _ _, ?_⟩
      show awp _ _ _ _ _ _ _
      refine awp_seq ?_
      refine awp_regs hF ?_
      refine dv (gyes_none rfl) (q_mv (v := y) rfl) rfl (by decide) (cok1 trivial) ?_
      refine dv (gyes_none rfl) (q_loadAgg Try.isAgg30 Try.sizeOf30 rfl (s8.rd (j := 0) rfl) (Nat.le_of_ble_eq_true rfl) rfl) rfl (by decide) (cok1 trivial) ?_
      refine x_yield [] (by kernel_rfl) (gyes_none rfl) (y := y) (args := [.agg #[.int .u64 (((nth l i).1 : Nat) : Int), .int .u64 (((nth l i).2 : Nat) : Int)]]) rfl rfl (hy i _ (hm _ _ _ hI.2 s8.kp) (by omega)) (show _ < _ by decide) (cok1 trivial) rfl rfl (fun y9 H10 hy11 => ⟨trivial, ?_⟩)
      show dList _ _ _ _ _ _ _ _ _ _
      cases y9
      case false =>
        refine dv (gyes_none rfl) (q_not (b := false) rfl) rfl (by decide) (cok1 trivial) ?_
        refine ⟨_, Wk.refl _ _, ?_⟩
        show awp _ _ _ _ _ _ _
        refine awp_cond_t rfl ?_
        refine awp_ret_wk ?_
        refine ⟨_, Wk.refl _ _, ?_⟩
        repeat (with_reducible first | refine then_ret ?_ | refine blk_ret ?_ | refine then_exit ?_ | refine blk_exit ?_ | refine blk_exit' (by decide) ?_ | refine blk_normal ?_ | refine then_normal ?_ | refine retq_ret ?_ | refine retq_normal ?_ | refine ng_normal ?_ | refine ng_ret ?_ | refine ng_exit ?_)
        refine ret_is (v := .tuple #[]) rfl .nil rfl ?_
        exact ⟨rfl, .inr ⟨i, by omega, hy11.2 rfl⟩⟩
      case true =>
        have h12 := hy11.1 rfl
        have s13 := St.begin H10
        refine dv (gyes_none rfl) (q_not (b := true) rfl) rfl (by decide) (cok1 trivial) ?_
        refine ⟨_, Wk.refl _ _, ?_⟩
        show awp _ _ _ _ _ _ _
        refine awp_cond_f rfl ?_
        refine awp_skip_wk ?_
        refine ⟨_, Wk.refl _ _, ?_⟩
        show awp _ _ _ _ _ _ _
        refine awp_regs hF ?_
        refine dv (gyes_none rfl) (OpQ.cast (v' := .int .i64 ((i + 1 : Nat) : Int)) (q_int rfl rfl rfl) (congrArg _ ((i64_in (by omega)).trans (by first | rfl | omega | (push_cast; rfl))))) rfl (by decide) (cok2 trivial (cconst rfl)) ?_
        refine dv (gyes_none rfl) (q_mv (v := .int .i64 ((i + 1 : Nat) : Int)) rfl) rfl (by decide) (cok1 trivial) ?_
        refine ⟨_, Wk.U [(0, y), (1, .pointer (some ⟨bc, 0, none⟩)), (10, vL), (11, .int .i64 ((l.length : Nat) : Int)), (12, .int .i64 (((i + 1) : Nat) : Int))] ⟨rfl, rfl, rfl, rfl, rfl, trivial⟩, (i + 1), ⟨_, rfl, (St.begin _), ⟨by omega, h12⟩⟩, (by omega)⟩
    ·
      replace c1 := of_decide_eq_false c1
      refine ⟨_, Wk.refl _ _, ?_⟩
      show awp _ _ _ _ _ _ _
      refine awp_seq ?_
      refine awp_cond_f rfl ?_
      refine awp_exit_wk ?_
      refine ⟨_, Wk.refl _ _, ?_⟩
      repeat (with_reducible first | refine then_ret ?_ | refine blk_ret ?_ | refine then_exit ?_ | refine blk_exit ?_ | refine blk_exit' (by decide) ?_ | refine blk_normal ?_ | refine then_normal ?_ | refine retq_ret ?_ | refine retq_normal ?_ | refine ng_normal ?_ | refine ng_ret ?_ | refine ng_exit ?_)
      refine ret_is (v := .tuple #[]) rfl .nil rfl ?_
      obtain rfl : i = l.length := by omega
      exact ⟨rfl, .inl hI.2⟩
set_option maxRecDepth 100000 in
set_option maxHeartbeats 4000000 in
theorem slen_ok {H0 : AHeap} (bs : Nat) (vL : Value) (l : List Sp) (hs_ : Rd H0 bs [vL] 1) (hL : SlS spc 2 H0 vL l) (hl : l.length ≤ 1000000) (hlw : ∀ x ∈ l, SpW x) : ACalls Try.prog 15 [.pointer (some ⟨bs, 0, none⟩)] H0 (Rets (.int .u64 ((sumS l l.length % 18446744073709551616 : Nat) : Int)) H0) := by
  have hF : Wd Fence.wide := .inl rfl
  have hM : Try.prog.follows .mixedOrders = true := by kernel_rfl
  have s0 := St.begin H0
  refine acalls_st Try.func15 rfl Try.ntmps15 rfl ?_
  refine awp_seq ?_
  refine awp_regs hF ?_
  refine dv (gyes_none rfl) (q_as (v := .int .u64 0) rfl) rfl (by decide) (cok1 (cconst rfl)) ?_
  refine ⟨_, Wk.refl _ _, ?_⟩
  show awp _ _ _ _ _ _ _
  refine awp_seq ?_
  refine awp_regs hF ?_
  refine x_new (fun b => .pointer (some ⟨b, 0, none⟩)) s0 (gyes_none rfl) (q_alloc (vs := [.int .u64 0]) 1 Try.zeroValue27 (by first | exact flat_scalar rfl | exact flat_agg rfl) rfl) rfl (by decide) (by simp [Op.operands, Call.operands]) (fun b1 H2 hb4 s3 => ?_)
  refine x_store1 [] hF s3 (by kernel_rfl) (gyes_none rfl) (j := 0) (v := .int .u64 0) rfl Try.sizeOf27 rfl rfl rfl (lc_scalar rfl) (Nat.le_of_ble_eq_true rfl) trivial (cconst rfl) rfl rfl (F' := [(b1, .cells true [.int .u64 0] 1)]) rfl (fun H5 s6 => ⟨?_, ?_⟩)
  · exact trivial
  refine ⟨_, Wk.refl _ _, ?_⟩
  show awp _ _ _ _ _ _ _
  refine awp_seq ?_
  refine awp_seq ?_
  refine awp_regs hF ?_
  refine dv (gyes_none rfl) (q_mv (v := .pointer (some ⟨bs, 0, none⟩)) rfl) rfl (by decide) (cok1 trivial) ?_
  refine x_call [] hF (by kernel_rfl) (gyes_none rfl) Try.call11 rfl (args := [.pointer (some ⟨bs, 0, none⟩)]) rfl (all_ok bs _ (s6.zrd hs_)) (show _ < _ by decide) (call_ok rfl) rfl rfl (fun _ _ _ _ hd => by cases hd) ?_
  rintro _ H8 ⟨b7, rfl, hn9⟩
  have s10 := s6.callL hn9
  refine ⟨trivial, ?_⟩
  show dList _ _ _ _ _ _ _ _ _ _
  refine ⟨_, Wk.refl _ _, ?_⟩
  show awp _ _ _ _ _ _ _
  refine awp_block ?_
  refine range_st s10 rfl Try.call29 (fun fn11 lp12 d13 l14 H15 hlp16 hd17 s18 => ?_)
  refine (alls1_ok (H0 := H15) b7 bs vL l (by omega) _ (fun (k : Nat) (H19 : AHeap) => ∃ (e : Nat), St H0 (none0) (Rd H0) H19 [(l14, lp12 .ready none), (d13, .mark), (b7, .cells true [.pointer (some ⟨bs, 0, none⟩)] 1), (b1, .cells true [.int .u64 ((e : Nat) : Int)] 1)] ∧ (e = sumS l k % 18446744073709551616)) (fun _ _ => False) ?h00 (fun _ _ _ ⟨e, s_, he⟩ k_ => ⟨e, s_.call0 k_, he⟩) ?hb ?round).mono ?after
  case h00 => exact ⟨_, s18, rfl⟩
  case hb =>
    rintro k H19 ⟨e, s20, he⟩
    exact ⟨s20.rd (j := 2) rfl, (s20.zrd hs_), s20.sls hL⟩
  case round =>
    rintro k H19  ⟨e, s20, he⟩ hx
    refine ylds_roundB hlp16 (s20.getj (j := 0) rfl) rfl rfl (fun l21 hF => ?_)
    refine awp_regs hF ?_
    refine x_new (fun b => .pointer (some ⟨b, 0, none⟩)) s20 (gyes_none rfl) (q_alloc (vs := [.int .u64 0, .int .u64 0]) 2 Try.zeroValue30 (by first | exact flat_scalar rfl | exact flat_agg rfl) rfl) rfl (by decide) (by simp [Op.operands, Call.operands]) (fun b22 H23 hb25 s24 => ?_)
    refine x_store [] hF s24 (by kernel_rfl) (gyes_none rfl) (j := 0) (v := .agg #[.int .u64 (((nth l k).1 : Nat) : Int), .int .u64 (((nth l k).2 : Nat) : Int)]) rfl Try.sizeOf30 rfl rfl rfl rfl rfl trivial (lcsA ⟨(lc_scalar rfl), (lc_scalar rfl), trivial⟩) (Nat.le_of_ble_eq_true rfl) trivial trivial rfl rfl (F' := [(b22, .cells true [.int .u64 (((nth l k).1 : Nat) : Int), .int .u64 (((nth l k).2 : Nat) : Int)] 2), (l14, lp12 .ready none), (d13, .mark), (b7, .cells true [.pointer (some ⟨bs, 0, none⟩)] 1), (b1, .cells true [.int .u64 ((e : Nat) : Int)] 1)]) rfl (fun H26 s27 => ⟨?_, ?_⟩)
    · exact trivial
    refine ⟨_, Wk.refl _ _, ?_⟩
    refine then_normal ?_
    refine ⟨_, _, rfl, s27.getj (j := 1) rfl, ?body⟩
    case body =>
      have s28 := s27.setAt (j := 1) rfl (lp12 .busy none)
      show awp _ _ _ _ _ _ _
      refine awp_block ?_
      refine awp_regt hF hM (by kernel_rfl) (by kernel_rfl) ?_
      refine dv (gyes_none rfl) (q_load (v := .int .u64 ((e : Nat) : Int)) Try.isAgg27 rfl (s28.rd (j := 4) rfl) rfl) rfl (by decide) (cok1 trivial) ?_
      refine dv (gyes_none rfl) (q_loadAgg Try.isAgg30 Try.sizeOf30 rfl (s28.rd (j := 0) rfl) (Nat.le_of_ble_eq_true rfl) rfl) rfl (by decide) (cok1 trivial) ?_
      refine dv (gyes_none rfl) (q_call0 Try.call10 rfl (splen_ok (nth l k) (hlw _ (nthN_mem hx)))) rfl (by decide) (cok2 trivial trivial) ?_
      refine dv (gyes_none rfl) (OpQ.cast (v' := .int .u64 (((e + ((nth l k).2 - (nth l k).1)) % 18446744073709551616 : Nat) : Int)) (q_int rfl rfl rfl) (congrArg _ (wrapU64 (e + ((nth l k).2 - (nth l k).1))))) rfl (by decide) (cok2 trivial trivial) ?_
      refine x_store1 [] hF s28 (by kernel_rfl) (gyes_none rfl) (j := 4) (v := .int .u64 (((e + ((nth l k).2 - (nth l k).1)) % 18446744073709551616 : Nat) : Int)) rfl Try.sizeOf27 rfl rfl rfl (lc_scalar rfl) (Nat.le_of_ble_eq_true rfl) trivial trivial rfl rfl (F' := [(b22, .cells true [.int .u64 (((nth l k).1 : Nat) : Int), .int .u64 (((nth l k).2 : Nat) : Int)] 2), (l14, lp12 .busy none), (d13, .mark), (b7, .cells true [.pointer (some ⟨bs, 0, none⟩)] 1), (b1, .cells true [.int .u64 (((e + ((nth l k).2 - (nth l k).1)) % 18446744073709551616 : Nat) : Int)] 1)]) rfl (fun H29 s30 => ⟨?_, ?_⟩)
      · exact trivial
      refine ⟨_, Wk.refl _ _, ?_⟩
      repeat (with_reducible first | refine then_ret ?_ | refine blk_ret ?_ | refine then_exit ?_ | refine blk_exit ?_ | refine blk_exit' (by decide) ?_ | refine blk_normal ?_ | refine then_normal ?_ | refine retq_ret ?_ | refine retq_normal ?_ | refine ng_normal ?_ | refine ng_ret ?_ | refine ng_exit ?_)
      exact ⟨(s30.forget 0).getj (j := 0) rfl, (fun _ => ⟨_, ((s30.forget 0).setAt (j := 0) rfl (lp12 .ready none)), (by show _ = (sumS l k + ((nth l k).2 - (nth l k).1)) % _; omega)⟩), (fun h => nomatch h)⟩
  case after =>
    rintro v H' ⟨rfl, hpost⟩
    replace hpost := hpost.resolve_right (fun ⟨_, _, h⟩ => h)
    obtain ⟨e, s31, he⟩ := hpost
    refine ⟨(by
        intro e he
        rcases List.mem_cons.1 he with rfl | he
        · exact s31.getj (j := 1) rfl
        · cases he), .inl ⟨s31.getj (j := 0) rfl, ?_⟩⟩
    have s33 := (s31.setAt (j := 0) rfl .none).forget 0
    refine ⟨_, Wk.refl _ _, ?_⟩
    show awp _ _ _ _ _ _ _
    refine awp_seq ?_
    refine awp_regs hF ?_
    refine dv (gyes_none rfl) (q_load (v := .int .u64 ((e : Nat) : Int)) Try.isAgg27 rfl (s33.rd (j := 2) rfl) rfl) rfl (by decide) (cok1 trivial) ?_
    refine dv (gyes_none rfl) (q_as (v := .int .u64 ((e : Nat) : Int)) rfl) rfl (by decide) (cok1 trivial) ?_
    refine ⟨_, Wk.refl _ _, ?_⟩
    show awp _ _ _ _ _ _ _
    refine awp_ret_wk ?_
    refine ⟨_, Wk.refl _ _, ?_⟩
    repeat (with_reducible first | refine then_ret ?_ | refine blk_ret ?_ | refine then_exit ?_ | refine blk_exit ?_ | refine blk_exit' (by decide) ?_ | refine blk_normal ?_ | refine then_normal ?_ | refine retq_ret ?_ | refine retq_normal ?_ | refine ng_normal ?_ | refine ng_ret ?_ | refine ng_exit ?_)
    exact ret_noneD (v := .int .u64 ((e : Nat) : Int)) rfl (s33.setAt (j := 0) rfl .none).kp (.tmp rfl .nil) rfl rfl ⟨by rw [he], rfl⟩
set_option maxRecDepth 100000 in
set_option maxHeartbeats 4000000 in
theorem fit_ok {H0 : AHeap} (bs : Nat) (vL : Value) (l : List Sp) (hs_ : Rd H0 bs [vL] 1) (hL : SlS spc 2 H0 vL l) (hl : l.length ≤ 1000000) (hlw : ∀ x ∈ l, SpW x) (n al : Nat) (iv : Sp) (hn : n < 18446744073709551616) (hal : al < 18446744073709551616) (hiv : SpW iv) : ACalls Try.prog 23 [.pointer (some ⟨bs, 0, none⟩), .int .u64 ((n : Nat) : Int), .int .u64 ((al : Nat) : Int), .agg #[.int .u64 ((iv.1 : Nat) : Int), .int .u64 ((iv.2 : Nat) : Int)]] H0 (Rets (.tuple #[.int .u64 (((fitV n al iv l).1 : Nat) : Int), .bool (fitV n al iv l).2]) H0) := by
  have hF : Wd Fence.wide := .inl rfl
  have hM : Try.prog.follows .mixedOrders = true := by kernel_rfl
  obtain ⟨hiv1, hiv2⟩ := hiv
  have s0 := St.begin H0
  refine acalls_st Try.func23 rfl Try.ntmps23 rfl ?_
  refine awp_seq ?_
  refine awp_regs hF ?_
  refine x_new (fun b => .pointer (some ⟨b, 0, none⟩)) s0 (gyes_none rfl) (q_box (v := .int .u64 ((n : Nat) : Int)) (vs := [.int .u64 ((n : Nat) : Int)]) 1 rfl (by exact trivial) rfl) rfl (by decide) (cok1 trivial) (fun b1 H2 hb4 s3 => ?_)
  refine x_new (fun b => .pointer (some ⟨b, 0, none⟩)) s3 (gyes_none rfl) (q_box (v := .int .u64 ((al : Nat) : Int)) (vs := [.int .u64 ((al : Nat) : Int)]) 1 rfl (by exact trivial) rfl) rfl (by decide) (cok1 trivial) (fun b5 H6 hb8 s7 => ?_)
  refine x_new (fun b => .pointer (some ⟨b, 0, none⟩)) s7 (gyes_none rfl) (q_box (v := .agg #[.int .u64 ((iv.1 : Nat) : Int), .int .u64 ((iv.2 : Nat) : Int)]) (vs := [.int .u64 ((iv.1 : Nat) : Int), .int .u64 ((iv.2 : Nat) : Int)]) 2 rfl (by exact trivial) rfl) rfl (by decide) (cok1 trivial) (fun b9 H10 hb12 s11 => ?_)
  refine x_new (fun b => .pointer (some ⟨b, 0, none⟩)) s11 (gyes_none rfl) (q_alloc (vs := [.int .u64 0]) 1 Try.zeroValue27 (by first | exact flat_scalar rfl | exact flat_agg rfl) rfl) rfl (by decide) (by simp [Op.operands, Call.operands]) (fun b13 H14 hb16 s15 => ?_)
  refine x_new (fun b => .pointer (some ⟨b, 0, none⟩)) s15 (gyes_none rfl) (q_alloc (vs := [.bool false]) 1 Try.zeroValue4 (by first | exact flat_scalar rfl | exact flat_agg rfl) rfl) rfl (by decide) (by simp [Op.operands, Call.operands]) (fun b17 H18 hb20 s19 => ?_)
  refine ⟨_, Wk.refl _ _, ?_⟩
  show awp _ _ _ _ _ _ _
  refine awp_seq ?_
  refine awp_seq ?_
  refine awp_regs hF ?_
  refine dv (gyes_none rfl) (q_mv (v := .pointer (some ⟨bs, 0, none⟩)) rfl) rfl (by decide) (cok1 trivial) ?_
  refine dv (gyes_none rfl) (q_ptrnil_f Try.underlying49 rfl (Rd.live (s19.zrd hs_)) rfl) rfl (by decide) (cok2 trivial (cconst rfl)) ?_
  refine dv (gyes_none rfl) (q_mv (v := .bool false) rfl) rfl (by decide) (cok1 trivial) ?_
  refine dv (gyes_some rfl rfl) (q_load (v := .int .u64 ((n : Nat) : Int)) Try.isAgg27 rfl (s19.rd (j := 4) rfl) rfl) rfl (by decide) (cok1 trivial) ?_
  refine dvb (gyes_some rfl rfl) (q_int rfl rfl rfl) rfl (by decide) (cok2 trivial (cconst rfl)) (fun c1 => ?_) (fun c1 => ?_)
  ·
    replace c1 := eq_of_beq c1
    refine dv (gyes_none rfl) (q_pf (v := .bool true) rfl rfl) rfl (by decide) (call_ok rfl) ?_
    refine dv (gyes_none rfl) (q_mv (v := .bool true) rfl) rfl (by decide) (cok1 trivial) ?_
    refine dno rfl (.inl rfl) rfl (by decide) ?_
    refine dno rfl (.inl rfl) rfl (by decide) ?_
    refine dv (gyes_none rfl) (q_pt (v := .bool true) rfl rfl) rfl (by decide) (call_ok rfl) ?_
    refine ⟨_, Wk.refl _ _, ?_⟩
    show awp _ _ _ _ _ _ _
    refine awp_cond_t rfl ?_
    refine awp_seq ?_
    refine awp_regs hF ?_
    refine x_store1 [] hF s19 (by kernel_rfl) (gyes_none rfl) (j := 1) (v := .int .u64 0) rfl Try.sizeOf27 rfl rfl rfl (lc_scalar rfl) (Nat.le_of_ble_eq_true rfl) trivial (cconst rfl) rfl rfl (F' := [(b17, .cells true [.bool false] 1), (b13, .cells true [.int .u64 0] 1), (b9, .cells true [.int .u64 ((iv.1 : Nat) : Int), .int .u64 ((iv.2 : Nat) : Int)] 2), (b5, .cells true [.int .u64 ((al : Nat) : Int)] 1), (b1, .cells true [.int .u64 ((n : Nat) : Int)] 1)]) rfl (fun H21 s22 => ⟨?_, ?_⟩)
    · exact trivial
    refine x_store1 [] hF s22 (by kernel_rfl) (gyes_none rfl) (j := 0) (v := .bool false) rfl Try.sizeOf4 rfl rfl rfl (lc_scalar rfl) (Nat.le_of_ble_eq_true rfl) trivial (cconst rfl) rfl rfl (F' := [(b17, .cells true [.bool false] 1), (b13, .cells true [.int .u64 0] 1), (b9, .cells true [.int .u64 ((iv.1 : Nat) : Int), .int .u64 ((iv.2 : Nat) : Int)] 2), (b5, .cells true [.int .u64 ((al : Nat) : Int)] 1), (b1, .cells true [.int .u64 ((n : Nat) : Int)] 1)]) rfl (fun H23 s24 => ⟨?_, ?_⟩)
    · exact trivial
    refine ⟨_, Wk.refl _ _, ?_⟩
    show awp _ _ _ _ _ _ _
    refine awp_ret_wk ?_
    refine ⟨_, Wk.refl _ _, ?_⟩
    repeat (with_reducible first | refine then_ret ?_ | refine blk_ret ?_ | refine then_exit ?_ | refine blk_exit ?_ | refine blk_exit' (by decide) ?_ | refine blk_normal ?_ | refine then_normal ?_ | refine retq_ret ?_ | refine retq_normal ?_ | refine ng_normal ?_ | refine ng_ret ?_ | refine ng_exit ?_)
    exact ret_none (v := .tuple #[.int .u64 0, .bool false]) rfl s24.kp (.cell rfl Try.isAgg27 (s24.rd (j := 1) rfl) rfl (.cell rfl Try.isAgg4 (s24.rd (j := 0) rfl) rfl .nil)) rfl rfl ⟨by rw [fitV_z (by omega)]; first | done | rfl, rfl⟩
  ·
    replace c1 := ne_of_beq_false c1
    refine dv (gyes_none rfl) (q_pf (v := .bool false) rfl rfl) rfl (by decide) (call_ok rfl) ?_
    refine dv (gyes_none rfl) (q_mv (v := .bool false) rfl) rfl (by decide) (cok1 trivial) ?_
    refine dv (gyes_some rfl rfl) (q_load (v := .int .u64 ((al : Nat) : Int)) Try.isAgg27 rfl (s19.rd (j := 3) rfl) rfl) rfl (by decide) (cok1 trivial) ?_
    refine dvb (gyes_some rfl rfl) (q_int rfl rfl rfl) rfl (by decide) (cok2 trivial (cconst rfl)) (fun c2 => ?_) (fun c2 => ?_)
    ·
      replace c2 := eq_of_beq c2
      refine dv (gyes_none rfl) (q_pf (v := .bool true) rfl rfl) rfl (by decide) (call_ok rfl) ?_
      refine ⟨_, Wk.refl _ _, ?_⟩
      show awp _ _ _ _ _ _ _
      refine awp_cond_t rfl ?_
      refine awp_seq ?_
      refine awp_regs hF ?_
      refine x_store1 [] hF s19 (by kernel_rfl) (gyes_none rfl) (j := 1) (v := .int .u64 0) rfl Try.sizeOf27 rfl rfl rfl (lc_scalar rfl) (Nat.le_of_ble_eq_true rfl) trivial (cconst rfl) rfl rfl (F' := [(b17, .cells true [.bool false] 1), (b13, .cells true [.int .u64 0] 1), (b9, .cells true [.int .u64 ((iv.1 : Nat) : Int), .int .u64 ((iv.2 : Nat) : Int)] 2), (b5, .cells true [.int .u64 ((al : Nat) : Int)] 1), (b1, .cells true [.int .u64 ((n : Nat) : Int)] 1)]) rfl (fun H25 s26 => ⟨?_, ?_⟩)
      · exact trivial
      refine x_store1 [] hF s26 (by kernel_rfl) (gyes_none rfl) (j := 0) (v := .bool false) rfl Try.sizeOf4 rfl rfl rfl (lc_scalar rfl) (Nat.le_of_ble_eq_true rfl) trivial (cconst rfl) rfl rfl (F' := [(b17, .cells true [.bool false] 1), (b13, .cells true [.int .u64 0] 1), (b9, .cells true [.int .u64 ((iv.1 : Nat) : Int), .int .u64 ((iv.2 : Nat) : Int)] 2), (b5, .cells true [.int .u64 ((al : Nat) : Int)] 1), (b1, .cells true [.int .u64 ((n : Nat) : Int)] 1)]) rfl (fun H27 s28 => ⟨?_, ?_⟩)
      · exact trivial
      refine ⟨_, Wk.refl _ _, ?_⟩
      show awp _ _ _ _ _ _ _
      refine awp_ret_wk ?_
      refine ⟨_, Wk.refl _ _, ?_⟩
      repeat (with_reducible first | refine then_ret ?_ | refine blk_ret ?_ | refine then_exit ?_ | refine blk_exit ?_ | refine blk_exit' (by decide) ?_ | refine blk_normal ?_ | refine then_normal ?_ | refine retq_ret ?_ | refine retq_normal ?_ | refine ng_normal ?_ | refine ng_ret ?_ | refine ng_exit ?_)
      exact ret_none (v := .tuple #[.int .u64 0, .bool false]) rfl s28.kp (.cell rfl Try.isAgg27 (s28.rd (j := 1) rfl) rfl (.cell rfl Try.isAgg4 (s28.rd (j := 0) rfl) rfl .nil)) rfl rfl ⟨by rw [fitV_z (by omega)]; first | done | rfl, rfl⟩
    ·
      replace c2 := ne_of_beq_false c2
      refine dv (gyes_none rfl) (q_pf (v := .bool false) rfl rfl) rfl (by decide) (call_ok rfl) ?_
      refine ⟨_, Wk.refl _ _, ?_⟩
      show awp _ _ _ _ _ _ _
      refine awp_cond_f rfl ?_
      refine awp_skip_wk ?_
      refine ⟨_, Wk.refl _ _, ?_⟩
      show awp _ _ _ _ _ _ _
      refine awp_seq ?_
      refine awp_regs hF ?_
      refine dv (gyes_none rfl) (q_field Try.underlying30 rfl Try.sizeOf27 rfl (s19.rd (j := 2) rfl)) rfl (by decide) (cok1 trivial) ?_
      refine dv (gyes_none rfl) (q_load (v := .int .u64 ((iv.1 : Nat) : Int)) Try.isAgg27 rfl (s19.rd (j := 2) rfl) rfl) rfl (by decide) (cok1 trivial) ?_
      refine dv (gyes_none rfl) (q_load (v := .int .u64 ((al : Nat) : Int)) Try.isAgg27 rfl (s19.rd (j := 3) rfl) rfl) rfl (by decide) (cok1 trivial) ?_
      refine dv (gyes_none rfl) (q_call0 Try.call31 rfl (sup_ok iv.1 al (by first | exact hiv1 | exact (hlw _ (nthN_mem hx)).2) hal (by omega))) rfl (by decide) (call_ok rfl) ?_
      refine dv (gyes_none rfl) (q_mv (v := .tuple #[.int .u64 (((upV iv.1 al).1 : Nat) : Int), .bool ((upV iv.1 al).2)]) rfl) rfl (by decide) (cok1 trivial) ?_
      refine dv (gyes_none rfl) (q_extract (v := .int .u64 (((upV iv.1 al).1 : Nat) : Int)) rfl rfl) rfl (by decide) (cok1 trivial) ?_
      refine dv (gyes_none rfl) (q_extract (v := .bool ((upV iv.1 al).2)) rfl rfl) rfl (by decide) (cok1 trivial) ?_
      refine x_new (fun b => .pointer (some ⟨b, 0, none⟩)) s19 (gyes_none rfl) (q_alloc (vs := [.int .u64 0]) 1 Try.zeroValue27 (by first | exact flat_scalar rfl | exact flat_agg rfl) rfl) rfl (by decide) (by simp [Op.operands, Call.operands]) (fun b29 H30 hb32 s31 => ?_)
      refine x_new (fun b => .pointer (some ⟨b, 0, none⟩)) s31 (gyes_none rfl) (q_alloc (vs := [.bool false]) 1 Try.zeroValue4 (by first | exact flat_scalar rfl | exact flat_agg rfl) rfl) rfl (by decide) (by simp [Op.operands, Call.operands]) (fun b33 H34 hb36 s35 => ?_)
      refine x_store1 [] hF s35 (by kernel_rfl) (gyes_none rfl) (j := 1) (v := .int .u64 (((upV iv.1 al).1 : Nat) : Int)) rfl Try.sizeOf27 rfl rfl rfl (lc_scalar rfl) (Nat.le_of_ble_eq_true rfl) trivial trivial rfl rfl (F' := [(b33, .cells true [.bool false] 1), (b29, .cells true [.int .u64 (((upV iv.1 al).1 : Nat) : Int)] 1), (b17, .cells true [.bool false] 1), (b13, .cells true [.int .u64 0] 1), (b9, .cells true [.int .u64 ((iv.1 : Nat) : Int), .int .u64 ((iv.2 : Nat) : Int)] 2), (b5, .cells true [.int .u64 ((al : Nat) : Int)] 1), (b1, .cells true [.int .u64 ((n : Nat) : Int)] 1)]) rfl (fun H37 s38 => ⟨?_, ?_⟩)
      · exact trivial
      refine x_store1 [] hF s38 (by kernel_rfl) (gyes_none rfl) (j := 0) (v := .bool ((upV iv.1 al).2)) rfl Try.sizeOf4 rfl rfl rfl (lc_scalar rfl) (Nat.le_of_ble_eq_true rfl) trivial trivial rfl rfl (F' := [(b33, .cells true [.bool ((upV iv.1 al).2)] 1), (b29, .cells true [.int .u64 (((upV iv.1 al).1 : Nat) : Int)] 1), (b17, .cells true [.bool false] 1), (b13, .cells true [.int .u64 0] 1), (b9, .cells true [.int .u64 ((iv.1 : Nat) : Int), .int .u64 ((iv.2 : Nat) : Int)] 2), (b5, .cells true [.int .u64 ((al : Nat) : Int)] 1), (b1, .cells true [.int .u64 ((n : Nat) : Int)] 1)]) rfl (fun H39 s40 => ⟨?_, ?_⟩)
      · exact trivial
      refine ⟨_, Wk.refl _ _, ?_⟩
      show awp _ _ _ _ _ _ _
      refine awp_seq ?_
      refine awp_seq ?_
      refine awp_regs hF ?_
      refine dv (gyes_none rfl) (q_mv (v := .pointer (some ⟨bs, 0, none⟩)) rfl) rfl (by decide) (cok1 trivial) ?_
      refine x_call [] hF (by kernel_rfl) (gyes_none rfl) Try.call11 rfl (args := [.pointer (some ⟨bs, 0, none⟩)]) rfl (all_ok bs _ (s40.zrd hs_)) (show _ < _ by decide) (call_ok rfl) rfl rfl (fun _ _ _ _ hd => by cases hd) ?_
      rintro _ H42 ⟨b41, rfl, hn43⟩
      have s44 := s40.callL hn43
      refine ⟨trivial, ?_⟩
      show dList _ _ _ _ _ _ _ _ _ _
      refine ⟨_, Wk.refl _ _, ?_⟩
      show awp _ _ _ _ _ _ _
      refine awp_block ?_
      refine range_st s44 rfl Try.call29 (fun fn45 lp46 d47 l48 H49 hlp50 hd51 s52 => ?_)
      refine (alls1_ok (H0 := H49) b41 bs vL l (by omega) _ (fun (k : Nat) (H53 : AHeap) => ∃ (a : Nat) (o : Bool), St H0 (none0) (Rd H0) H53 [(l48, lp46 .ready none), (d47, .mark), (b41, .cells true [.pointer (some ⟨bs, 0, none⟩)] 1), (b33, .cells true [.bool o] 1), (b29, .cells true [.int .u64 ((a : Nat) : Int)] 1), (b17, .cells true [.bool false] 1), (b13, .cells true [.int .u64 0] 1), (b9, .cells true [.int .u64 ((iv.1 : Nat) : Int), .int .u64 ((iv.2 : Nat) : Int)] 2), (b5, .cells true [.int .u64 ((al : Nat) : Int)] 1), (b1, .cells true [.int .u64 ((n : Nat) : Int)] 1)] ∧ ((a, o) = fitS n al iv l k ∧ a < 18446744073709551616) ∧ (∀ j, j < k → stopS n iv (fitS n al iv l j) = false)) (fun (k' : Nat) (H53 : AHeap) => ∃ (a : Nat) (o : Bool), St H0 (none0) (Rd H0) H53 [(l48, lp46 (.done) (some .ret)), (d47, .mark), (b41, .cells true [.pointer (some ⟨bs, 0, none⟩)] 1), (b33, .cells true [.bool o] 1), (b29, .cells true [.int .u64 ((a : Nat) : Int)] 1), (b17, .cells true [.bool false] 1), (b13, .cells true [.int .u64 0] 1), (b9, .cells true [.int .u64 ((iv.1 : Nat) : Int), .int .u64 ((iv.2 : Nat) : Int)] 2), (b5, .cells true [.int .u64 ((al : Nat) : Int)] 1), (b1, .cells true [.int .u64 ((n : Nat) : Int)] 1)] ∧ (fitV n al iv l = (0, false))) ?h00 (fun _ _ _ ⟨a, o, s_, ha, hs⟩ k_ => ⟨a, o, s_.call0 k_, ha, hs⟩) ?hb ?round).mono ?after
      case h00 => exact ⟨(upV iv.1 al).1, (upV iv.1 al).2, s52, ⟨rfl, upV_lt hiv1⟩, fun j h => absurd h (Nat.not_lt_zero _)⟩
      case hb =>
        rintro k H53 ⟨a, o, s54, ha, hs⟩
        exact ⟨s54.rd (j := 2) rfl, (s54.zrd hs_), s54.sls hL⟩
      case round =>
        rintro k H53  ⟨a, o, s54, ha, hs⟩ hx
        refine ylds_roundB hlp50 (s54.getj (j := 0) rfl) rfl rfl (fun l55 hF => ?_)
        refine awp_regs hF ?_
        refine x_new (fun b => .pointer (some ⟨b, 0, none⟩)) s54 (gyes_none rfl) (q_alloc (vs := [.int .u64 0, .int .u64 0]) 2 Try.zeroValue30 (by first | exact flat_scalar rfl | exact flat_agg rfl) rfl) rfl (by decide) (by simp [Op.operands, Call.operands]) (fun b56 H57 hb59 s58 => ?_)
        refine x_store [] hF s58 (by kernel_rfl) (gyes_none rfl) (j := 0) (v := .agg #[.int .u64 (((nth l k).1 : Nat) : Int), .int .u64 (((nth l k).2 : Nat) : Int)]) rfl Try.sizeOf30 rfl rfl rfl rfl rfl trivial (lcsA ⟨(lc_scalar rfl), (lc_scalar rfl), trivial⟩) (Nat.le_of_ble_eq_true rfl) trivial trivial rfl rfl (F' := [(b56, .cells true [.int .u64 (((nth l k).1 : Nat) : Int), .int .u64 (((nth l k).2 : Nat) : Int)] 2), (l48, lp46 .ready none), (d47, .mark), (b41, .cells true [.pointer (some ⟨bs, 0, none⟩)] 1), (b33, .cells true [.bool o] 1), (b29, .cells true [.int .u64 ((a : Nat) : Int)] 1), (b17, .cells true [.bool false] 1), (b13, .cells true [.int .u64 0] 1), (b9, .cells true [.int .u64 ((iv.1 : Nat) : Int), .int .u64 ((iv.2 : Nat) : Int)] 2), (b5, .cells true [.int .u64 ((al : Nat) : Int)] 1), (b1, .cells true [.int .u64 ((n : Nat) : Int)] 1)]) rfl (fun H60 s61 => ⟨?_, ?_⟩)
        · exact trivial
        refine ⟨_, Wk.refl _ _, ?_⟩
        refine then_normal ?_
        refine ⟨_, _, rfl, s61.getj (j := 1) rfl, ?body⟩
        case body =>
          have s62 := s61.setAt (j := 1) rfl (lp46 .busy none)
          show awp _ _ _ _ _ _ _
          refine awp_block ?_
          refine awp_seq ?_
          refine awp_seq ?_
          refine awp_regs hF ?_
          refine dvb (gyes_none rfl) (q_load (v := .bool o) Try.isAgg4 rfl (s62.rd (j := 4) rfl) rfl) rfl (by decide) (cok1 trivial) (fun c3 => ?_) (fun c3 => ?_)
          ·
            refine dv (gyes_none rfl) (q_not (b := true) rfl) rfl (by decide) (cok1 trivial) ?_
            refine dv (gyes_none rfl) (q_mv (v := .bool false) rfl) rfl (by decide) (cok1 trivial) ?_
            refine dv (gyes_some rfl rfl) (q_load (v := .int .u64 ((a : Nat) : Int)) Try.isAgg27 rfl (s62.rd (j := 5) rfl) rfl) rfl (by decide) (cok1 trivial) ?_
            refine dv (gyes_some rfl rfl) (q_field Try.underlying30 rfl Try.sizeOf27 rfl (s62.rd (j := 8) rfl)) rfl (by decide) (cok1 trivial) ?_
            refine dv (gyes_some rfl rfl) (q_load (v := .int .u64 ((iv.2 : Nat) : Int)) Try.isAgg27 rfl (s62.rd (j := 8) rfl) rfl) rfl (by decide) (cok1 trivial) ?_
            refine dvb (gyes_some rfl rfl) (q_int rfl rfl rfl) rfl (by decide) (cok2 trivial trivial) (fun c4 => ?_) (fun c4 => ?_)
            ·
              replace c4 := of_decide_eq_true c4
              refine dv (gyes_none rfl) (q_pf (v := .bool true) rfl rfl) rfl (by decide) (call_ok rfl) ?_
              refine dv (gyes_none rfl) (q_mv (v := .bool true) rfl) rfl (by decide) (cok1 trivial) ?_
              refine dno rfl (.inl rfl) rfl (by decide) ?_
              refine dno rfl (.inl rfl) rfl (by decide) ?_
              refine dno rfl (.inl rfl) rfl (by decide) ?_
              refine dno rfl (.inl rfl) rfl (by decide) ?_
              refine dno rfl (.inl rfl) rfl (by decide) ?_
              refine dno rfl (.inl rfl) rfl (by decide) ?_
              refine dv (gyes_none rfl) (q_pt (v := .bool true) rfl rfl) rfl (by decide) (call_ok rfl) ?_
              refine ⟨_, Wk.refl _ _, ?_⟩
              show awp _ _ _ _ _ _ _
              refine awp_cond_t rfl ?_
              refine awp_seq ?_
              refine awp_regs hF ?_
              refine x_store1 [] hF s62 (by kernel_rfl) (gyes_none rfl) (j := 7) (v := .int .u64 0) rfl Try.sizeOf27 rfl rfl rfl (lc_scalar rfl) (Nat.le_of_ble_eq_true rfl) trivial (cconst rfl) rfl rfl (F' := [(b56, .cells true [.int .u64 (((nth l k).1 : Nat) : Int), .int .u64 (((nth l k).2 : Nat) : Int)] 2), (l48, lp46 .busy none), (d47, .mark), (b41, .cells true [.pointer (some ⟨bs, 0, none⟩)] 1), (b33, .cells true [.bool o] 1), (b29, .cells true [.int .u64 ((a : Nat) : Int)] 1), (b17, .cells true [.bool false] 1), (b13, .cells true [.int .u64 0] 1), (b9, .cells true [.int .u64 ((iv.1 : Nat) : Int), .int .u64 ((iv.2 : Nat) : Int)] 2), (b5, .cells true [.int .u64 ((al : Nat) : Int)] 1), (b1, .cells true [.int .u64 ((n : Nat) : Int)] 1)]) rfl (fun H63 s64 => ⟨?_, ?_⟩)
              · exact trivial
              refine x_store1 [] hF s64 (by kernel_rfl) (gyes_none rfl) (j := 6) (v := .bool false) rfl Try.sizeOf4 rfl rfl rfl (lc_scalar rfl) (Nat.le_of_ble_eq_true rfl) trivial (cconst rfl) rfl rfl (F' := [(b56, .cells true [.int .u64 (((nth l k).1 : Nat) : Int), .int .u64 (((nth l k).2 : Nat) : Int)] 2), (l48, lp46 .busy none), (d47, .mark), (b41, .cells true [.pointer (some ⟨bs, 0, none⟩)] 1), (b33, .cells true [.bool o] 1), (b29, .cells true [.int .u64 ((a : Nat) : Int)] 1), (b17, .cells true [.bool false] 1), (b13, .cells true [.int .u64 0] 1), (b9, .cells true [.int .u64 ((iv.1 : Nat) : Int), .int .u64 ((iv.2 : Nat) : Int)] 2), (b5, .cells true [.int .u64 ((al : Nat) : Int)] 1), (b1, .cells true [.int .u64 ((n : Nat) : Int)] 1)]) rfl (fun H65 s66 => ⟨?_, ?_⟩)
              · exact trivial
              refine ⟨_, Wk.refl _ _, ?_⟩
              show awp _ _ _ _ _ _ _
              refine awp_ret_wk ?_
              refine ⟨_, Wk.refl _ _, ?_⟩
              repeat (with_reducible first | refine then_ret ?_ | refine blk_ret ?_ | refine then_exit ?_ | refine blk_exit ?_ | refine blk_exit' (by decide) ?_ | refine blk_normal ?_ | refine then_normal ?_ | refine retq_ret ?_ | refine retq_normal ?_ | refine ng_normal ?_ | refine ng_ret ?_ | refine ng_exit ?_)
              exact ⟨(s66.forget 0).getj (j := 0) rfl, (fun h => nomatch h), (fun _ => ⟨_, _, ((s66.forget 0).setAt (j := 0) rfl (lp46 .done (some .ret))), (fitV_s (Nat.le_of_lt hx) (by rw [← ha.1]; first | exact stop_o (by assumption) | exact stop_a (by omega) | exact stop_n (by omega)))⟩)⟩
            ·
              replace c4 := of_decide_eq_false c4
              refine dv (gyes_none rfl) (q_pf (v := .bool false) rfl rfl) rfl (by decide) (call_ok rfl) ?_
              refine dv (gyes_none rfl) (q_mv (v := .bool false) rfl) rfl (by decide) (cok1 trivial) ?_
              refine dv (gyes_some rfl rfl) (q_field Try.underlying30 rfl Try.sizeOf27 rfl (s62.rd (j := 8) rfl)) rfl (by decide) (cok1 trivial) ?_
              refine dv (gyes_some rfl rfl) (q_load (v := .int .u64 ((iv.2 : Nat) : Int)) Try.isAgg27 rfl (s62.rd (j := 8) rfl) rfl) rfl (by decide) (cok1 trivial) ?_
              refine dv (gyes_some rfl rfl) (q_load (v := .int .u64 ((a : Nat) : Int)) Try.isAgg27 rfl (s62.rd (j := 5) rfl) rfl) rfl (by decide) (cok1 trivial) ?_
              refine dv (gyes_some rfl rfl) (OpQ.cast (v' := .int .u64 ((iv.2 - a : Nat) : Int)) (q_int rfl rfl rfl) (congrArg _ ((u64_in (by omega)).trans (by omega)))) rfl (by decide) (cok2 trivial trivial) ?_
              refine dv (gyes_some rfl rfl) (q_load (v := .int .u64 ((n : Nat) : Int)) Try.isAgg27 rfl (s62.rd (j := 10) rfl) rfl) rfl (by decide) (cok1 trivial) ?_
              refine dvb (gyes_some rfl rfl) (q_int rfl rfl rfl) rfl (by decide) (cok2 trivial trivial) (fun c5 => ?_) (fun c5 => ?_)
              ·
                replace c5 := of_decide_eq_true c5
                refine dv (gyes_none rfl) (q_pf (v := .bool true) rfl rfl) rfl (by decide) (call_ok rfl) ?_
                refine ⟨_, Wk.refl _ _, ?_⟩
                show awp _ _ _ _ _ _ _
                refine awp_cond_t rfl ?_
                refine awp_seq ?_
                refine awp_regs hF ?_
                refine x_store1 [] hF s62 (by kernel_rfl) (gyes_none rfl) (j := 7) (v := .int .u64 0) rfl Try.sizeOf27 rfl rfl rfl (lc_scalar rfl) (Nat.le_of_ble_eq_true rfl) trivial (cconst rfl) rfl rfl (F' := [(b56, .cells true [.int .u64 (((nth l k).1 : Nat) : Int), .int .u64 (((nth l k).2 : Nat) : Int)] 2), (l48, lp46 .busy none), (d47, .mark), (b41, .cells true [.pointer (some ⟨bs, 0, none⟩)] 1), (b33, .cells true [.bool o] 1), (b29, .cells true [.int .u64 ((a : Nat) : Int)] 1), (b17, .cells true [.bool false] 1), (b13, .cells true [.int .u64 0] 1), (b9, .cells true [.int .u64 ((iv.1 : Nat) : Int), .int .u64 ((iv.2 : Nat) : Int)] 2), (b5, .cells true [.int .u64 ((al : Nat) : Int)] 1), (b1, .cells true [.int .u64 ((n : Nat) : Int)] 1)]) rfl (fun H67 s68 => ⟨?_, ?_⟩)
                · exact trivial
                refine x_store1 [] hF s68 (by kernel_rfl) (gyes_none rfl) (j := 6) (v := .bool false) rfl Try.sizeOf4 rfl rfl rfl (lc_scalar rfl) (Nat.le_of_ble_eq_true rfl) trivial (cconst rfl) rfl rfl (F' := [(b56, .cells true [.int .u64 (((nth l k).1 : Nat) : Int), .int .u64 (((nth l k).2 : Nat) : Int)] 2), (l48, lp46 .busy none), (d47, .mark), (b41, .cells true [.pointer (some ⟨bs, 0, none⟩)] 1), (b33, .cells true [.bool o] 1), (b29, .cells true [.int .u64 ((a : Nat) : Int)] 1), (b17, .cells true [.bool false] 1), (b13, .cells true [.int .u64 0] 1), (b9, .cells true [.int .u64 ((iv.1 : Nat) : Int), .int .u64 ((iv.2 : Nat) : Int)] 2), (b5, .cells true [.int .u64 ((al : Nat) : Int)] 1), (b1, .cells true [.int .u64 ((n : Nat) : Int)] 1)]) rfl (fun H69 s70 => ⟨?_, ?_⟩)
                · exact trivial
                refine ⟨_, Wk.refl _ _, ?_⟩
                show awp _ _ _ _ _ _ _
                refine awp_ret_wk ?_
                refine ⟨_, Wk.refl _ _, ?_⟩
                repeat (with_reducible first | refine then_ret ?_ | refine blk_ret ?_ | refine then_exit ?_ | refine blk_exit ?_ | refine blk_exit' (by decide) ?_ | refine blk_normal ?_ | refine then_normal ?_ | refine retq_ret ?_ | refine retq_normal ?_ | refine ng_normal ?_ | refine ng_ret ?_ | refine ng_exit ?_)
                exact ⟨(s70.forget 0).getj (j := 0) rfl, (fun h => nomatch h), (fun _ => ⟨_, _, ((s70.forget 0).setAt (j := 0) rfl (lp46 .done (some .ret))), (fitV_s (Nat.le_of_lt hx) (by rw [← ha.1]; first | exact stop_o (by assumption) | exact stop_a (by omega) | exact stop_n (by omega)))⟩)⟩
              ·
                replace c5 := of_decide_eq_false c5
                refine dv (gyes_none rfl) (q_pf (v := .bool false) rfl rfl) rfl (by decide) (call_ok rfl) ?_
                refine ⟨_, Wk.refl _ _, ?_⟩
                show awp _ _ _ _ _ _ _
                refine awp_cond_f rfl ?_
                refine awp_skip_wk ?_
                refine ⟨_, Wk.refl _ _, ?_⟩
                show awp _ _ _ _ _ _ _
                refine awp_seq ?_
                have hsf : stopS n iv (fitS n al iv l k) = false := by rw [← ha.1]; exact stop_f (by assumption) (by omega) (by omega)
                refine awp_regs hF ?_
                refine dv (gyes_none rfl) (q_load (v := .int .u64 ((a : Nat) : Int)) Try.isAgg27 rfl (s62.rd (j := 5) rfl) rfl) rfl (by decide) (cok1 trivial) ?_
                refine dv (gyes_none rfl) (q_load (v := .int .u64 ((a : Nat) : Int)) Try.isAgg27 rfl (s62.rd (j := 5) rfl) rfl) rfl (by decide) (cok1 trivial) ?_
                refine dv (gyes_none rfl) (q_load (v := .int .u64 ((n : Nat) : Int)) Try.isAgg27 rfl (s62.rd (j := 10) rfl) rfl) rfl (by decide) (cok1 trivial) ?_
                refine dv (gyes_none rfl) (OpQ.cast (v' := .int .u64 (((a + n) % 18446744073709551616 : Nat) : Int)) (q_int rfl rfl rfl) (congrArg _ (wrapU64 (a + n)))) rfl (by decide) (cok2 trivial trivial) ?_
                refine dv (gyes_none rfl) (q_buildL (ds := [.int .u64 ((a : Nat) : Int), .int .u64 (((a + n) % 18446744073709551616 : Nat) : Int)]) [(0, 1), (1, 1)] [.int .u64 ((a : Nat) : Int), .int .u64 (((a + n) % 18446744073709551616 : Nat) : Int)] Try.underlying30 Try.zeroValue30 (by first | exact flat_agg rfl | exact flat_scalar rfl) (by kernel_rfl) ⟨rfl, rfl, trivial⟩ (lvsC (by exact trivial) (lvsC (by exact trivial) lvs0)) rfl) rfl (by decide) (cok2 trivial trivial) ?_
                refine dv (gyes_none rfl) (q_loadAgg Try.isAgg30 Try.sizeOf30 rfl (s62.rd (j := 0) rfl) (Nat.le_of_ble_eq_true rfl) rfl) rfl (by decide) (cok1 trivial) ?_
                refine dvb (gyes_none rfl) (q_call0 Try.call17 rfl (spmeets_ok (a, (a + n) % 18446744073709551616) (nth l k))) rfl (by decide) (call_ok rfl) (fun c6 => ?_) (fun c6 => ?_)
                ·
                  refine ⟨_, Wk.refl _ _, ?_⟩
                  show awp _ _ _ _ _ _ _
                  refine awp_cond_t rfl ?_
                  refine awp_regs hF ?_
                  refine dv (gyes_none rfl) (q_field Try.underlying30 rfl Try.sizeOf27 rfl (s62.rd (j := 0) rfl)) rfl (by decide) (cok1 trivial) ?_
                  refine dv (gyes_none rfl) (q_load (v := .int .u64 (((nth l k).2 : Nat) : Int)) Try.isAgg27 rfl (s62.rd (j := 0) rfl) rfl) rfl (by decide) (cok1 trivial) ?_
                  refine dv (gyes_none rfl) (q_load (v := .int .u64 ((al : Nat) : Int)) Try.isAgg27 rfl (s62.rd (j := 9) rfl) rfl) rfl (by decide) (cok1 trivial) ?_
                  refine dv (gyes_none rfl) (q_call0 Try.call31 rfl (sup_ok ((nth l k).2) al (by first | exact hiv1 | exact (hlw _ (nthN_mem hx)).2) hal (by omega))) rfl (by decide) (call_ok rfl) ?_
                  refine dv (gyes_none rfl) (q_mv (v := .tuple #[.int .u64 (((upV ((nth l k).2) al).1 : Nat) : Int), .bool ((upV ((nth l k).2) al).2)]) rfl) rfl (by decide) (cok1 trivial) ?_
                  refine dv (gyes_none rfl) (q_extract (v := .int .u64 (((upV ((nth l k).2) al).1 : Nat) : Int)) rfl rfl) rfl (by decide) (cok1 trivial) ?_
                  refine dv (gyes_none rfl) (q_extract (v := .bool ((upV ((nth l k).2) al).2)) rfl rfl) rfl (by decide) (cok1 trivial) ?_
                  refine x_store1 [] hF s62 (by kernel_rfl) (gyes_none rfl) (j := 5) (v := .int .u64 (((upV ((nth l k).2) al).1 : Nat) : Int)) rfl Try.sizeOf27 rfl rfl rfl (lc_scalar rfl) (Nat.le_of_ble_eq_true rfl) trivial trivial rfl rfl (F' := [(b56, .cells true [.int .u64 (((nth l k).1 : Nat) : Int), .int .u64 (((nth l k).2 : Nat) : Int)] 2), (l48, lp46 .busy none), (d47, .mark), (b41, .cells true [.pointer (some ⟨bs, 0, none⟩)] 1), (b33, .cells true [.bool o] 1), (b29, .cells true [.int .u64 (((upV ((nth l k).2) al).1 : Nat) : Int)] 1), (b17, .cells true [.bool false] 1), (b13, .cells true [.int .u64 0] 1), (b9, .cells true [.int .u64 ((iv.1 : Nat) : Int), .int .u64 ((iv.2 : Nat) : Int)] 2), (b5, .cells true [.int .u64 ((al : Nat) : Int)] 1), (b1, .cells true [.int .u64 ((n : Nat) : Int)] 1)]) rfl (fun H71 s72 => ⟨?_, ?_⟩)
                  · exact trivial
                  refine x_store1 [] hF s72 (by kernel_rfl) (gyes_none rfl) (j := 4) (v := .bool ((upV ((nth l k).2) al).2)) rfl Try.sizeOf4 rfl rfl rfl (lc_scalar rfl) (Nat.le_of_ble_eq_true rfl) trivial trivial rfl rfl (F' := [(b56, .cells true [.int .u64 (((nth l k).1 : Nat) : Int), .int .u64 (((nth l k).2 : Nat) : Int)] 2), (l48, lp46 .busy none), (d47, .mark), (b41, .cells true [.pointer (some ⟨bs, 0, none⟩)] 1), (b33, .cells true [.bool ((upV ((nth l k).2) al).2)] 1), (b29, .cells true [.int .u64 (((upV ((nth l k).2) al).1 : Nat) : Int)] 1), (b17, .cells true [.bool false] 1), (b13, .cells true [.int .u64 0] 1), (b9, .cells true [.int .u64 ((iv.1 : Nat) : Int), .int .u64 ((iv.2 : Nat) : Int)] 2), (b5, .cells true [.int .u64 ((al : Nat) : Int)] 1), (b1, .cells true [.int .u64 ((n : Nat) : Int)] 1)]) rfl (fun H73 s74 => ⟨?_, ?_⟩)
                  · exact trivial
                  refine ⟨_, Wk.refl _ _, ?_⟩
                  repeat (with_reducible first | refine then_ret ?_ | refine blk_ret ?_ | refine then_exit ?_ | refine blk_exit ?_ | refine blk_exit' (by decide) ?_ | refine blk_normal ?_ | refine then_normal ?_ | refine retq_ret ?_ | refine retq_normal ?_ | refine ng_normal ?_ | refine ng_ret ?_ | refine ng_exit ?_)
                  exact ⟨(s74.forget 0).getj (j := 0) rfl, (fun _ => ⟨_, _, ((s74.forget 0).setAt (j := 0) rfl (lp46 .ready none)), ⟨fit_y ha.1 (by assumption), upV_lt (hlw _ (nthN_mem hx)).2⟩, (lt_succ_casesN hs hsf)⟩), (fun h => nomatch h)⟩
                ·
                  refine ⟨_, Wk.refl _ _, ?_⟩
                  show awp _ _ _ _ _ _ _
                  refine awp_cond_f rfl ?_
                  refine awp_skip_wk ?_
                  refine ⟨_, Wk.refl _ _, ?_⟩
                  repeat (with_reducible first | refine then_ret ?_ | refine blk_ret ?_ | refine then_exit ?_ | refine blk_exit ?_ | refine blk_exit' (by decide) ?_ | refine blk_normal ?_ | refine then_normal ?_ | refine retq_ret ?_ | refine retq_normal ?_ | refine ng_normal ?_ | refine ng_ret ?_ | refine ng_exit ?_)
                  exact ⟨(s62.forget 0).getj (j := 0) rfl, (fun _ => ⟨_, _, ((s62.forget 0).setAt (j := 0) rfl (lp46 .ready none)), ⟨fit_n ha.1 (by assumption), ha.2⟩, (lt_succ_casesN hs hsf)⟩), (fun h => nomatch h)⟩
          ·
            refine dv (gyes_none rfl) (q_not (b := false) rfl) rfl (by decide) (cok1 trivial) ?_
            refine dv (gyes_none rfl) (q_mv (v := .bool true) rfl) rfl (by decide) (cok1 trivial) ?_
            refine dno rfl (.inl rfl) rfl (by decide) ?_
            refine dno rfl (.inl rfl) rfl (by decide) ?_
            refine dno rfl (.inl rfl) rfl (by decide) ?_
            refine dno rfl (.inl rfl) rfl (by decide) ?_
            refine dv (gyes_none rfl) (q_pt (v := .bool true) rfl rfl) rfl (by decide) (call_ok rfl) ?_
            refine dv (gyes_none rfl) (q_mv (v := .bool true) rfl) rfl (by decide) (cok1 trivial) ?_
            refine dno rfl (.inl rfl) rfl (by decide) ?_
            refine dno rfl (.inl rfl) rfl (by decide) ?_
            refine dno rfl (.inl rfl) rfl (by decide) ?_
            refine dno rfl (.inl rfl) rfl (by decide) ?_
            refine dno rfl (.inl rfl) rfl (by decide) ?_
            refine dno rfl (.inl rfl) rfl (by decide) ?_
            refine dv (gyes_none rfl) (q_pt (v := .bool true) rfl rfl) rfl (by decide) (call_ok rfl) ?_
            refine ⟨_, Wk.refl _ _, ?_⟩
            show awp _ _ _ _ _ _ _
            refine awp_cond_t rfl ?_
            refine awp_seq ?_
            refine awp_regs hF ?_
            refine x_store1 [] hF s62 (by kernel_rfl) (gyes_none rfl) (j := 7) (v := .int .u64 0) rfl Try.sizeOf27 rfl rfl rfl (lc_scalar rfl) (Nat.le_of_ble_eq_true rfl) trivial (cconst rfl) rfl rfl (F' := [(b56, .cells true [.int .u64 (((nth l k).1 : Nat) : Int), .int .u64 (((nth l k).2 : Nat) : Int)] 2), (l48, lp46 .busy none), (d47, .mark), (b41, .cells true [.pointer (some ⟨bs, 0, none⟩)] 1), (b33, .cells true [.bool o] 1), (b29, .cells true [.int .u64 ((a : Nat) : Int)] 1), (b17, .cells true [.bool false] 1), (b13, .cells true [.int .u64 0] 1), (b9, .cells true [.int .u64 ((iv.1 : Nat) : Int), .int .u64 ((iv.2 : Nat) : Int)] 2), (b5, .cells true [.int .u64 ((al : Nat) : Int)] 1), (b1, .cells true [.int .u64 ((n : Nat) : Int)] 1)]) rfl (fun H75 s76 => ⟨?_, ?_⟩)
            · exact trivial
            refine x_store1 [] hF s76 (by kernel_rfl) (gyes_none rfl) (j := 6) (v := .bool false) rfl Try.sizeOf4 rfl rfl rfl (lc_scalar rfl) (Nat.le_of_ble_eq_true rfl) trivial (cconst rfl) rfl rfl (F' := [(b56, .cells true [.int .u64 (((nth l k).1 : Nat) : Int), .int .u64 (((nth l k).2 : Nat) : Int)] 2), (l48, lp46 .busy none), (d47, .mark), (b41, .cells true [.pointer (some ⟨bs, 0, none⟩)] 1), (b33, .cells true [.bool o] 1), (b29, .cells true [.int .u64 ((a : Nat) : Int)] 1), (b17, .cells true [.bool false] 1), (b13, .cells true [.int .u64 0] 1), (b9, .cells true [.int .u64 ((iv.1 : Nat) : Int), .int .u64 ((iv.2 : Nat) : Int)] 2), (b5, .cells true [.int .u64 ((al : Nat) : Int)] 1), (b1, .cells true [.int .u64 ((n : Nat) : Int)] 1)]) rfl (fun H77 s78 => ⟨?_, ?_⟩)
            · exact trivial
            refine ⟨_, Wk.refl _ _, ?_⟩
            show awp _ _ _ _ _ _ _
            refine awp_ret_wk ?_
            refine ⟨_, Wk.refl _ _, ?_⟩
            repeat (with_reducible first | refine then_ret ?_ | refine blk_ret ?_ | refine then_exit ?_ | refine blk_exit ?_ | refine blk_exit' (by decide) ?_ | refine blk_normal ?_ | refine then_normal ?_ | refine retq_ret ?_ | refine retq_normal ?_ | refine ng_normal ?_ | refine ng_ret ?_ | refine ng_exit ?_)
            exact ⟨(s78.forget 0).getj (j := 0) rfl, (fun h => nomatch h), (fun _ => ⟨_, _, ((s78.forget 0).setAt (j := 0) rfl (lp46 .done (some .ret))), (fitV_s (Nat.le_of_lt hx) (by rw [← ha.1]; first | exact stop_o (by assumption) | exact stop_a (by omega) | exact stop_n (by omega)))⟩)⟩
      case after =>
        rintro v H' ⟨rfl, hpost⟩
        rcases hpost with ⟨a, o, s79, ha, hs⟩ | ⟨i_, hi_, ⟨a, o, s80, hf⟩⟩
        ·
          refine ⟨(by
              intro e he
              rcases List.mem_cons.1 he with rfl | he
              · exact s79.getj (j := 1) rfl
              · cases he), .inl ⟨s79.getj (j := 0) rfl, ?_⟩⟩
          have s81 := (s79.setAt (j := 0) rfl .none).forget 0
          refine ⟨_, Wk.refl _ _, ?_⟩
          show awp _ _ _ _ _ _ _
          refine awp_seq ?_
          refine awp_seq ?_
          refine awp_regs hF ?_
          refine dvb (gyes_none rfl) (q_load (v := .bool o) Try.isAgg4 rfl (s81.rd (j := 2) rfl) rfl) rfl (by decide) (cok1 trivial) (fun c7 => ?_) (fun c7 => ?_)
          ·
            refine dv (gyes_none rfl) (q_not (b := true) rfl) rfl (by decide) (cok1 trivial) ?_
            refine dv (gyes_none rfl) (q_mv (v := .bool false) rfl) rfl (by decide) (cok1 trivial) ?_
            refine dv (gyes_some rfl rfl) (q_load (v := .int .u64 ((a : Nat) : Int)) Try.isAgg27 rfl (s81.rd (j := 3) rfl) rfl) rfl (by decide) (cok1 trivial) ?_
            refine dv (gyes_some rfl rfl) (q_field Try.underlying30 rfl Try.sizeOf27 rfl (s81.rd (j := 6) rfl)) rfl (by decide) (cok1 trivial) ?_
            refine dv (gyes_some rfl rfl) (q_load (v := .int .u64 ((iv.2 : Nat) : Int)) Try.isAgg27 rfl (s81.rd (j := 6) rfl) rfl) rfl (by decide) (cok1 trivial) ?_
            refine dvb (gyes_some rfl rfl) (q_int rfl rfl rfl) rfl (by decide) (cok2 trivial trivial) (fun c8 => ?_) (fun c8 => ?_)
            ·
              replace c8 := of_decide_eq_true c8
              refine dv (gyes_none rfl) (q_pf (v := .bool true) rfl rfl) rfl (by decide) (call_ok rfl) ?_
              refine dv (gyes_none rfl) (q_mv (v := .bool true) rfl) rfl (by decide) (cok1 trivial) ?_
              refine dno rfl (.inl rfl) rfl (by decide) ?_
              refine dno rfl (.inl rfl) rfl (by decide) ?_
              refine dno rfl (.inl rfl) rfl (by decide) ?_
              refine dno rfl (.inl rfl) rfl (by decide) ?_
              refine dno rfl (.inl rfl) rfl (by decide) ?_
              refine dno rfl (.inl rfl) rfl (by decide) ?_
              refine dv (gyes_none rfl) (q_pt (v := .bool true) rfl rfl) rfl (by decide) (call_ok rfl) ?_
              refine ⟨_, Wk.refl _ _, ?_⟩
              show awp _ _ _ _ _ _ _
              refine awp_cond_t rfl ?_
              refine awp_seq ?_
              refine awp_regs hF ?_
              refine x_store1 [] hF s81 (by kernel_rfl) (gyes_none rfl) (j := 5) (v := .int .u64 0) rfl Try.sizeOf27 rfl rfl rfl (lc_scalar rfl) (Nat.le_of_ble_eq_true rfl) trivial (cconst rfl) rfl rfl (F' := [(d47, .mark), (b41, .cells true [.pointer (some ⟨bs, 0, none⟩)] 1), (b33, .cells true [.bool o] 1), (b29, .cells true [.int .u64 ((a : Nat) : Int)] 1), (b17, .cells true [.bool false] 1), (b13, .cells true [.int .u64 0] 1), (b9, .cells true [.int .u64 ((iv.1 : Nat) : Int), .int .u64 ((iv.2 : Nat) : Int)] 2), (b5, .cells true [.int .u64 ((al : Nat) : Int)] 1), (b1, .cells true [.int .u64 ((n : Nat) : Int)] 1)]) rfl (fun H82 s83 => ⟨?_, ?_⟩)
              · exact trivial
              refine x_store1 [] hF s83 (by kernel_rfl) (gyes_none rfl) (j := 4) (v := .bool false) rfl Try.sizeOf4 rfl rfl rfl (lc_scalar rfl) (Nat.le_of_ble_eq_true rfl) trivial (cconst rfl) rfl rfl (F' := [(d47, .mark), (b41, .cells true [.pointer (some ⟨bs, 0, none⟩)] 1), (b33, .cells true [.bool o] 1), (b29, .cells true [.int .u64 ((a : Nat) : Int)] 1), (b17, .cells true [.bool false] 1), (b13, .cells true [.int .u64 0] 1), (b9, .cells true [.int .u64 ((iv.1 : Nat) : Int), .int .u64 ((iv.2 : Nat) : Int)] 2), (b5, .cells true [.int .u64 ((al : Nat) : Int)] 1), (b1, .cells true [.int .u64 ((n : Nat) : Int)] 1)]) rfl (fun H84 s85 => ⟨?_, ?_⟩)
              · exact trivial
              refine ⟨_, Wk.refl _ _, ?_⟩
              show awp _ _ _ _ _ _ _
              refine awp_ret_wk ?_
              refine ⟨_, Wk.refl _ _, ?_⟩
              repeat (with_reducible first | refine then_ret ?_ | refine blk_ret ?_ | refine then_exit ?_ | refine blk_exit ?_ | refine blk_exit' (by decide) ?_ | refine blk_normal ?_ | refine then_normal ?_ | refine retq_ret ?_ | refine retq_normal ?_ | refine ng_normal ?_ | refine ng_ret ?_ | refine ng_exit ?_)
              exact ret_noneD (v := .tuple #[.int .u64 0, .bool false]) rfl (s85.setAt (j := 0) rfl .none).kp (.cell rfl Try.isAgg27 ((s85.setAt (j := 0) rfl .none).rd (j := 5) rfl) rfl (.cell rfl Try.isAgg4 ((s85.setAt (j := 0) rfl .none).rd (j := 4) rfl) rfl .nil)) rfl rfl ⟨by rw [fitV_s (Nat.le_refl _) (by rw [← ha.1]; first | exact stop_o (by assumption) | exact stop_a (by omega) | exact stop_n (by omega))]; first | done | rfl, rfl⟩
            ·
              replace c8 := of_decide_eq_false c8
              refine dv (gyes_none rfl) (q_pf (v := .bool false) rfl rfl) rfl (by decide) (call_ok rfl) ?_
              refine dv (gyes_none rfl) (q_mv (v := .bool false) rfl) rfl (by decide) (cok1 trivial) ?_
              refine dv (gyes_some rfl rfl) (q_field Try.underlying30 rfl Try.sizeOf27 rfl (s81.rd (j := 6) rfl)) rfl (by decide) (cok1 trivial) ?_
              refine dv (gyes_some rfl rfl) (q_load (v := .int .u64 ((iv.2 : Nat) : Int)) Try.isAgg27 rfl (s81.rd (j := 6) rfl) rfl) rfl (by decide) (cok1 trivial) ?_
              refine dv (gyes_some rfl rfl) (q_load (v := .int .u64 ((a : Nat) : Int)) Try.isAgg27 rfl (s81.rd (j := 3) rfl) rfl) rfl (by decide) (cok1 trivial) ?_
              refine dv (gyes_some rfl rfl) (OpQ.cast (v' := .int .u64 ((iv.2 - a : Nat) : Int)) (q_int rfl rfl rfl) (congrArg _ ((u64_in (by omega)).trans (by omega)))) rfl (by decide) (cok2 trivial trivial) ?_
              refine dv (gyes_some rfl rfl) (q_load (v := .int .u64 ((n : Nat) : Int)) Try.isAgg27 rfl (s81.rd (j := 8) rfl) rfl) rfl (by decide) (cok1 trivial) ?_
              refine dvb (gyes_some rfl rfl) (q_int rfl rfl rfl) rfl (by decide) (cok2 trivial trivial) (fun c9 => ?_) (fun c9 => ?_)
              ·
                replace c9 := of_decide_eq_true c9
                refine dv (gyes_none rfl) (q_pf (v := .bool true) rfl rfl) rfl (by decide) (call_ok rfl) ?_
                refine ⟨_, Wk.refl _ _, ?_⟩
                show awp _ _ _ _ _ _ _
                refine awp_cond_t rfl ?_
                refine awp_seq ?_
                refine awp_regs hF ?_
                refine x_store1 [] hF s81 (by kernel_rfl) (gyes_none rfl) (j := 5) (v := .int .u64 0) rfl Try.sizeOf27 rfl rfl rfl (lc_scalar rfl) (Nat.le_of_ble_eq_true rfl) trivial (cconst rfl) rfl rfl (F' := [(d47, .mark), (b41, .cells true [.pointer (some ⟨bs, 0, none⟩)] 1), (b33, .cells true [.bool o] 1), (b29, .cells true [.int .u64 ((a : Nat) : Int)] 1), (b17, .cells true [.bool false] 1), (b13, .cells true [.int .u64 0] 1), (b9, .cells true [.int .u64 ((iv.1 : Nat) : Int), .int .u64 ((iv.2 : Nat) : Int)] 2), (b5, .cells true [.int .u64 ((al : Nat) : Int)] 1), (b1, .cells true [.int .u64 ((n : Nat) : Int)] 1)]) rfl (fun H86 s87 => ⟨?_, ?_⟩)
                · exact trivial
                refine x_store1 [] hF s87 (by kernel_rfl) (gyes_none rfl) (j := 4) (v := .bool false) rfl Try.sizeOf4 rfl rfl rfl (lc_scalar rfl) (Nat.le_of_ble_eq_true rfl) trivial (cconst rfl) rfl rfl (F' := [(d47, .mark), (b41, .cells true [.pointer (some ⟨bs, 0, none⟩)] 1), (b33, .cells true [.bool o] 1), (b29, .cells true [.int .u64 ((a : Nat) : Int)] 1), (b17, .cells true [.bool false] 1), (b13, .cells true [.int .u64 0] 1), (b9, .cells true [.int .u64 ((iv.1 : Nat) : Int), .int .u64 ((iv.2 : Nat) : Int)] 2), (b5, .cells true [.int .u64 ((al : Nat) : Int)] 1), (b1, .cells true [.int .u64 ((n : Nat) : Int)] 1)]) rfl (fun H88 s89 => ⟨?_, ?_⟩)
                · exact trivial
                refine ⟨_, Wk.refl _ _, ?_⟩
                show awp _ _ _ _ _ _ _
                refine awp_ret_wk ?_
                refine ⟨_, Wk.refl _ _, ?_⟩
                repeat (with_reducible first | refine then_ret ?_ | refine blk_ret ?_ | refine then_exit ?_ | refine blk_exit ?_ | refine blk_exit' (by decide) ?_ | refine blk_normal ?_ | refine then_normal ?_ | refine retq_ret ?_ | refine retq_normal ?_ | refine ng_normal ?_ | refine ng_ret ?_ | refine ng_exit ?_)
                exact ret_noneD (v := .tuple #[.int .u64 0, .bool false]) rfl (s89.setAt (j := 0) rfl .none).kp (.cell rfl Try.isAgg27 ((s89.setAt (j := 0) rfl .none).rd (j := 5) rfl) rfl (.cell rfl Try.isAgg4 ((s89.setAt (j := 0) rfl .none).rd (j := 4) rfl) rfl .nil)) rfl rfl ⟨by rw [fitV_s (Nat.le_refl _) (by rw [← ha.1]; first | exact stop_o (by assumption) | exact stop_a (by omega) | exact stop_n (by omega))]; first | done | rfl, rfl⟩
              ·
                replace c9 := of_decide_eq_false c9
                refine dv (gyes_none rfl) (q_pf (v := .bool false) rfl rfl) rfl (by decide) (call_ok rfl) ?_
                refine ⟨_, Wk.refl _ _, ?_⟩
                show awp _ _ _ _ _ _ _
                refine awp_cond_f rfl ?_
                refine awp_skip_wk ?_
                refine ⟨_, Wk.refl _ _, ?_⟩
                show awp _ _ _ _ _ _ _
                refine awp_seq ?_
                refine awp_regs hF ?_
                refine dv (gyes_none rfl) (q_load (v := .int .u64 ((a : Nat) : Int)) Try.isAgg27 rfl (s81.rd (j := 3) rfl) rfl) rfl (by decide) (cok1 trivial) ?_
                refine x_store1 [] hF s81 (by kernel_rfl) (gyes_none rfl) (j := 5) (v := .int .u64 ((a : Nat) : Int)) rfl Try.sizeOf27 rfl rfl rfl (lc_scalar rfl) (Nat.le_of_ble_eq_true rfl) trivial trivial rfl rfl (F' := [(d47, .mark), (b41, .cells true [.pointer (some ⟨bs, 0, none⟩)] 1), (b33, .cells true [.bool o] 1), (b29, .cells true [.int .u64 ((a : Nat) : Int)] 1), (b17, .cells true [.bool false] 1), (b13, .cells true [.int .u64 ((a : Nat) : Int)] 1), (b9, .cells true [.int .u64 ((iv.1 : Nat) : Int), .int .u64 ((iv.2 : Nat) : Int)] 2), (b5, .cells true [.int .u64 ((al : Nat) : Int)] 1), (b1, .cells true [.int .u64 ((n : Nat) : Int)] 1)]) rfl (fun H90 s91 => ⟨?_, ?_⟩)
                · exact trivial
                refine x_store1 [] hF s91 (by kernel_rfl) (gyes_none rfl) (j := 4) (v := .bool true) rfl Try.sizeOf4 rfl rfl rfl (lc_scalar rfl) (Nat.le_of_ble_eq_true rfl) trivial (cconst rfl) rfl rfl (F' := [(d47, .mark), (b41, .cells true [.pointer (some ⟨bs, 0, none⟩)] 1), (b33, .cells true [.bool o] 1), (b29, .cells true [.int .u64 ((a : Nat) : Int)] 1), (b17, .cells true [.bool true] 1), (b13, .cells true [.int .u64 ((a : Nat) : Int)] 1), (b9, .cells true [.int .u64 ((iv.1 : Nat) : Int), .int .u64 ((iv.2 : Nat) : Int)] 2), (b5, .cells true [.int .u64 ((al : Nat) : Int)] 1), (b1, .cells true [.int .u64 ((n : Nat) : Int)] 1)]) rfl (fun H92 s93 => ⟨?_, ?_⟩)
                · exact trivial
                refine ⟨_, Wk.refl _ _, ?_⟩
                show awp _ _ _ _ _ _ _
                refine awp_ret_wk ?_
                refine ⟨_, Wk.refl _ _, ?_⟩
                repeat (with_reducible first | refine then_ret ?_ | refine blk_ret ?_ | refine then_exit ?_ | refine blk_exit ?_ | refine blk_exit' (by decide) ?_ | refine blk_normal ?_ | refine then_normal ?_ | refine retq_ret ?_ | refine retq_normal ?_ | refine ng_normal ?_ | refine ng_ret ?_ | refine ng_exit ?_)
                exact ret_noneD (v := .tuple #[.int .u64 ((a : Nat) : Int), .bool true]) rfl (s93.setAt (j := 0) rfl .none).kp (.cell rfl Try.isAgg27 ((s93.setAt (j := 0) rfl .none).rd (j := 5) rfl) rfl (.cell rfl Try.isAgg4 ((s93.setAt (j := 0) rfl .none).rd (j := 4) rfl) rfl .nil)) rfl rfl ⟨by rw [fitV_t (by omega) (lt_succ_casesN hs (by rw [← ha.1]; exact stop_f (by assumption) (by omega) (by omega))), ← ha.1]; first | done | rfl, rfl⟩
          ·
            refine dv (gyes_none rfl) (q_not (b := false) rfl) rfl (by decide) (cok1 trivial) ?_
            refine dv (gyes_none rfl) (q_mv (v := .bool true) rfl) rfl (by decide) (cok1 trivial) ?_
            refine dno rfl (.inl rfl) rfl (by decide) ?_
            refine dno rfl (.inl rfl) rfl (by decide) ?_
            refine dno rfl (.inl rfl) rfl (by decide) ?_
            refine dno rfl (.inl rfl) rfl (by decide) ?_
            refine dv (gyes_none rfl) (q_pt (v := .bool true) rfl rfl) rfl (by decide) (call_ok rfl) ?_
            refine dv (gyes_none rfl) (q_mv (v := .bool true) rfl) rfl (by decide) (cok1 trivial) ?_
            refine dno rfl (.inl rfl) rfl (by decide) ?_
            refine dno rfl (.inl rfl) rfl (by decide) ?_
            refine dno rfl (.inl rfl) rfl (by decide) ?_
            refine dno rfl (.inl rfl) rfl (by decide) ?_
            refine dno rfl (.inl rfl) rfl (by decide) ?_
            refine dno rfl (.inl rfl) rfl (by decide) ?_
            refine dv (gyes_none rfl) (q_pt (v := .bool true) rfl rfl) rfl (by decide) (call_ok rfl) ?_
            refine ⟨_, Wk.refl _ _, ?_⟩
            show awp _ _ _ _ _ _ _
            refine awp_cond_t rfl ?_
            refine awp_seq ?_
            refine awp_regs hF ?_
            refine x_store1 [] hF s81 (by kernel_rfl) (gyes_none rfl) (j := 5) (v := .int .u64 0) rfl Try.sizeOf27 rfl rfl rfl (lc_scalar rfl) (Nat.le_of_ble_eq_true rfl) trivial (cconst rfl) rfl rfl (F' := [(d47, .mark), (b41, .cells true [.pointer (some ⟨bs, 0, none⟩)] 1), (b33, .cells true [.bool o] 1), (b29, .cells true [.int .u64 ((a : Nat) : Int)] 1), (b17, .cells true [.bool false] 1), (b13, .cells true [.int .u64 0] 1), (b9, .cells true [.int .u64 ((iv.1 : Nat) : Int), .int .u64 ((iv.2 : Nat) : Int)] 2), (b5, .cells true [.int .u64 ((al : Nat) : Int)] 1), (b1, .cells true [.int .u64 ((n : Nat) : Int)] 1)]) rfl (fun H94 s95 => ⟨?_, ?_⟩)
            · exact trivial
            refine x_store1 [] hF s95 (by kernel_rfl) (gyes_none rfl) (j := 4) (v := .bool false) rfl Try.sizeOf4 rfl rfl rfl (lc_scalar rfl) (Nat.le_of_ble_eq_true rfl) trivial (cconst rfl) rfl rfl (F' := [(d47, .mark), (b41, .cells true [.pointer (some ⟨bs, 0, none⟩)] 1), (b33, .cells true [.bool o] 1), (b29, .cells true [.int .u64 ((a : Nat) : Int)] 1), (b17, .cells true [.bool false] 1), (b13, .cells true [.int .u64 0] 1), (b9, .cells true [.int .u64 ((iv.1 : Nat) : Int), .int .u64 ((iv.2 : Nat) : Int)] 2), (b5, .cells true [.int .u64 ((al : Nat) : Int)] 1), (b1, .cells true [.int .u64 ((n : Nat) : Int)] 1)]) rfl (fun H96 s97 => ⟨?_, ?_⟩)
            · exact trivial
            refine ⟨_, Wk.refl _ _, ?_⟩
            show awp _ _ _ _ _ _ _
            refine awp_ret_wk ?_
            refine ⟨_, Wk.refl _ _, ?_⟩
            repeat (with_reducible first | refine then_ret ?_ | refine blk_ret ?_ | refine then_exit ?_ | refine blk_exit ?_ | refine blk_exit' (by decide) ?_ | refine blk_normal ?_ | refine then_normal ?_ | refine retq_ret ?_ | refine retq_normal ?_ | refine ng_normal ?_ | refine ng_ret ?_ | refine ng_exit ?_)
            exact ret_noneD (v := .tuple #[.int .u64 0, .bool false]) rfl (s97.setAt (j := 0) rfl .none).kp (.cell rfl Try.isAgg27 ((s97.setAt (j := 0) rfl .none).rd (j := 5) rfl) rfl (.cell rfl Try.isAgg4 ((s97.setAt (j := 0) rfl .none).rd (j := 4) rfl) rfl .nil)) rfl rfl ⟨by rw [fitV_s (Nat.le_refl _) (by rw [← ha.1]; first | exact stop_o (by assumption) | exact stop_a (by omega) | exact stop_n (by omega))]; first | done | rfl, rfl⟩
        ·
          refine ⟨(by
              intro e he
              rcases List.mem_cons.1 he with rfl | he
              · exact s80.getj (j := 1) rfl
              · cases he), .inr ⟨_, s80.getj (j := 0) rfl, ?_⟩⟩
          have s98 := (s80.setAt (j := 0) rfl .none).forget 0
          refine awp_ret_wk ?_
          refine ⟨_, Wk.refl _ _, ?_⟩
          repeat (with_reducible first | refine then_ret ?_ | refine blk_ret ?_ | refine then_exit ?_ | refine blk_exit ?_ | refine blk_exit' (by decide) ?_ | refine blk_normal ?_ | refine then_normal ?_ | refine retq_ret ?_ | refine retq_normal ?_ | refine ng_normal ?_ | refine ng_ret ?_ | refine ng_exit ?_)
          exact ret_noneD (v := .tuple #[.int .u64 0, .bool false]) rfl (s98.setAt (j := 0) rfl .none).kp (.cell rfl Try.isAgg27 ((s98.setAt (j := 0) rfl .none).rd (j := 5) rfl) rfl (.cell rfl Try.isAgg4 ((s98.setAt (j := 0) rfl .none).rd (j := 4) rfl) rfl .nil)) rfl rfl ⟨by rw [hf]; first | done | rfl, rfl⟩
end Go.Proofs.YtjgeheookgogaaaA


/-
  Walks of functions of the given program, and what they compute.
-/
namespace Go.Proofs.YtjgeheookgogaaaA
set_option linter.unusedVariables false
open Go Go.RowKit Go.Shelf Go.Proofs
end Go.Proofs.YtjgeheookgogaaaA


/-
  Walks of functions of the given program, and what they compute.
-/
namespace Go.Proofs.YtjgeheookgogaaaA
set_option linter.unusedVariables false
open Go Go.RowKit Go.Shelf Go.Proofs
theorem ACalls.castV {P : Program} {f : FuncId} {a : List Value} {H : AHeap} {H' : AHeap} {v v' : Value} (h : ACalls P f a H (Rets v H')) (e : v = v') : ACalls P f a H (Rets v' H') := e ▸ h
theorem perm_sorted_eq : ∀ {m l : List Sp}, l.Perm m → l.Pairwise (fun a b => a.1 ≤ b.1) → m.Pairwise (fun a b => a.1 < b.1) → l = m
  | [], l, h, _, _ => h.eq_nil
  | b :: m, [], h, _, _ => by have := h.length_eq; simp at this
  | b :: m, a :: l, h, h1, h2 => by
    have ha : a ∈ b :: m := h.subset List.mem_cons_self
    have hb : b ∈ a :: l := h.symm.subset List.mem_cons_self
    have e : a = b := by
      rcases List.mem_cons.1 ha with e | ha
      · exact e
      · rcases List.mem_cons.1 hb with e | hb
        · exact e.symm
        · have q1 := (List.pairwise_cons.1 h2).1 a ha
          have q2 := (List.pairwise_cons.1 h1).1 b hb
          omega
    subst e
    rw [perm_sorted_eq (h.cons_inv) (List.pairwise_cons.1 h1).2 (List.pairwise_cons.1 h2).2]
theorem sortedLo_pw {l : List Sp} (h : SortedLo l) : l.Pairwise (fun a b => a.1 ≤ b.1) := by
  rw [List.pairwise_iff_getElem]
  intro i j hi hj hij
  have := h i j hij hj
  rwa [nth_eq hi, nth_eq hj] at this
theorem addR_eq {l m : List Sp} {x : Sp} {ok : Bool} {L : List Sp} (h : AddR l x ok L) (hx : x.1 < x.2) (hm : l.any (meetsB x) = false) (hp : m.Perm (l ++ [x])) (hs : m.Pairwise (fun a b => a.1 < b.1)) : ok = true ∧ L = joinS m := by
  rcases h with ⟨_, h | h, _⟩ | ⟨h1, _, _, l', h2, h3, h4⟩
  · omega
  · rw [hm] at h; exact nomatch h
  · rw [h4, perm_sorted_eq (h2.trans hp.symm) (sortedLo_pw h3) hs]
    exact ⟨h1, rfl⟩
theorem addR_no {l : List Sp} {x : Sp} {ok : Bool} {L : List Sp} (h : AddR l x ok L) (hx : x.2 ≤ x.1 ∨ l.any (meetsB x) = true) : ok = false ∧ L = l := by
  rcases h with ⟨h1, _, h2⟩ | ⟨h1, h2, h3, _⟩
  · exact ⟨h1, h2⟩
  · rcases hx with h | h
    · omega
    · rw [h3] at h; exact nomatch h
theorem fit_c : fitV 5 8 (8, 100) [(10, 30)] = (32, true) := by decide +kernel
theorem sp_1 {ok : Bool} {L : List Sp} (h : AddR [] (10, 20) ok L) : ok = true ∧ L = [(10, 20)] := addR_eq (m := [(10, 20)]) h (by decide) (by decide) (List.Perm.refl _) (by decide)
theorem sp_2 {ok : Bool} {L : List Sp} (h : AddR [(10, 20)] (20, 30) ok L) : ok = true ∧ L = [(10, 30)] := addR_eq (m := [(10, 20), (20, 30)]) h (by decide) (by decide) (List.Perm.refl _) (by decide)
theorem sp_3 {ok : Bool} {L : List Sp} (h : AddR [(10, 30)] (29, 31) ok L) : ok = false ∧ L = [(10, 30)] := addR_no h (.inr (by decide))
set_option maxRecDepth 100000 in
set_option maxHeartbeats 4000000 in
theorem speaks_ok {H0 : AHeap}  : ACalls Try.prog 8 [] H0 (Rets (.bool true) H0) := by
  have hF : Wd Fence.wide := .inl rfl
  have hM : Try.prog.follows .mixedOrders = true := by kernel_rfl
  have s0 := St.begin H0
  refine acalls_st Try.func8 rfl Try.ntmps8 rfl ?_
  refine awp_seq ?_
  refine awp_regs hF ?_
  refine dv (gyes_none rfl) (q_as (v := .bool false) rfl) rfl (by decide) (cok1 (cconst rfl)) ?_
  refine ⟨_, Wk.refl _ _, ?_⟩
  show awp _ _ _ _ _ _ _
  refine awp_seq ?_
  refine awp_regs hF ?_
  refine x_new (fun b => .pointer (some ⟨b, 0, none⟩)) s0 (gyes_none rfl) (q_alloc (vs := [.slice none 0 0]) 1 Try.zeroValue26 (by first | exact flat_scalar rfl | exact flat_agg rfl) rfl) rfl (by decide) (by simp [Op.operands, Call.operands]) (fun b1 H2 hb4 s3 => ?_)
  refine ⟨_, Wk.refl _ _, ?_⟩
  show awp _ _ _ _ _ _ _
  refine awp_seq ?_
  refine awp_seq ?_
  refine awp_nilc s3 (j := 0) (o := 0) (sz' := 2) rfl rfl (fun b5 H6 hb8 s7 => ?_)
  refine awp_regs hF ?_
  refine dv (gyes_none rfl) (q_buildL (ds := [.int .u64 10, .int .u64 20]) [(0, 1), (1, 1)] [.int .u64 10, .int .u64 20] Try.underlying30 Try.zeroValue30 (by first | exact flat_agg rfl | exact flat_scalar rfl) (by kernel_rfl) ⟨rfl, rfl, trivial⟩ (lvsC (by exact trivial) (lvsC (by exact trivial) lvs0)) rfl) rfl (by decide) (cok2 (cconst rfl) (cconst rfl)) ?_
  refine x_call [] hF (by kernel_rfl) (gyes_none rfl) Try.call9 rfl (args := [.pointer (some ⟨b1, 0, none⟩), .agg #[.int .u64 10, .int .u64 20]]) rfl (add_ok b1 b5 ([] : List Sp) (by first | decide | omega) (nod2 (s7.nej (i := 1) (j := 0) rfl rfl (by decide))) (s7.getj (j := 1) rfl) (s7.getj (j := 0) rfl) (10, 20)) (show _ < _ by decide) (call_ok rfl) rfl rfl (fun _ _ _ _ hd => by cases hd) ?_
  rintro _ H9 ⟨ok18, L19, b10, rfl, hr11, hk12, ho13, hn14, h15, h16⟩
  have s17 := s7.turn2 (j9 := 1) (jl := 0) rfl rfl (by decide) hk12 ho13 hn14 h15 h16
  obtain ⟨rfl, rfl⟩ := sp_1 hr11
  refine ⟨trivial, ?_⟩
  show dList _ _ _ _ _ _ _ _ _ _
  refine dv (gyes_none rfl) (q_not (b := true) rfl) rfl (by decide) (cok1 trivial) ?_
  refine dv (gyes_none rfl) (q_mv (v := .bool false) rfl) rfl (by decide) (cok1 trivial) ?_
  refine dv (gyes_some rfl rfl) (q_buildL (ds := [.int .u64 20, .int .u64 30]) [(0, 1), (1, 1)] [.int .u64 20, .int .u64 30] Try.underlying30 Try.zeroValue30 (by first | exact flat_agg rfl | exact flat_scalar rfl) (by kernel_rfl) ⟨rfl, rfl, trivial⟩ (lvsC (by exact trivial) (lvsC (by exact trivial) lvs0)) rfl) rfl (by decide) (cok2 (cconst rfl) (cconst rfl)) ?_
  refine x_call [] hF (by kernel_rfl) (gyes_some rfl rfl) Try.call9 rfl (args := [.pointer (some ⟨b1, 0, none⟩), .agg #[.int .u64 20, .int .u64 30]]) rfl (add_ok b1 b10 ([(10, 20)]) (by first | decide | omega) (nod2 (s17.nej (i := 1) (j := 0) rfl rfl (by decide))) (s17.getj (j := 1) rfl) (s17.getj (j := 0) rfl) (20, 30)) (show _ < _ by decide) (call_ok rfl) rfl rfl (fun _ _ _ _ hd => by cases hd) ?_
  rintro _ H20 ⟨ok29, L30, b21, rfl, hr22, hk23, ho24, hn25, h26, h27⟩
  have s28 := s17.turn2 (j9 := 1) (jl := 0) rfl rfl (by decide) hk23 ho24 hn25 h26 h27
  obtain ⟨rfl, rfl⟩ := sp_2 hr22
  refine ⟨trivial, ?_⟩
  show dList _ _ _ _ _ _ _ _ _ _
  refine dv (gyes_some rfl rfl) (q_not (b := true) rfl) rfl (by decide) (cok1 trivial) ?_
  refine dv (gyes_none rfl) (q_pf (v := .bool false) rfl rfl) rfl (by decide) (call_ok rfl) ?_
  refine dv (gyes_none rfl) (q_mv (v := .bool false) rfl) rfl (by decide) (cok1 trivial) ?_
  refine dv (gyes_some rfl rfl) (q_buildL (ds := [.int .u64 29, .int .u64 31]) [(0, 1), (1, 1)] [.int .u64 29, .int .u64 31] Try.underlying30 Try.zeroValue30 (by first | exact flat_agg rfl | exact flat_scalar rfl) (by kernel_rfl) ⟨rfl, rfl, trivial⟩ (lvsC (by exact trivial) (lvsC (by exact trivial) lvs0)) rfl) rfl (by decide) (cok2 (cconst rfl) (cconst rfl)) ?_
  refine x_call [] hF (by kernel_rfl) (gyes_some rfl rfl) Try.call9 rfl (args := [.pointer (some ⟨b1, 0, none⟩), .agg #[.int .u64 29, .int .u64 31]]) rfl (add_ok b1 b21 ([(10, 30)]) (by first | decide | omega) (nod2 (s28.nej (i := 1) (j := 0) rfl rfl (by decide))) (s28.getj (j := 1) rfl) (s28.getj (j := 0) rfl) (29, 31)) (show _ < _ by decide) (call_ok rfl) rfl rfl (fun _ _ _ _ hd => by cases hd) ?_
  rintro _ H31 ⟨ok40, L41, b32, rfl, hr33, hk34, ho35, hn36, h37, h38⟩
  have s39 := s28.turn2 (j9 := 1) (jl := 0) rfl rfl (by decide) hk34 ho35 hn36 h37 h38
  obtain ⟨rfl, rfl⟩ := sp_3 hr33
  refine ⟨trivial, ?_⟩
  show dList _ _ _ _ _ _ _ _ _ _
  refine dv (gyes_none rfl) (q_pf (v := .bool false) rfl rfl) rfl (by decide) (call_ok rfl) ?_
  refine ⟨_, Wk.refl _ _, ?_⟩
  show awp _ _ _ _ _ _ _
  refine awp_cond_f rfl ?_
  refine awp_skip_wk ?_
  refine ⟨_, Wk.refl _ _, ?_⟩
  show awp _ _ _ _ _ _ _
  refine awp_seq ?_
  refine awp_regs hF ?_
  refine dv (gyes_none rfl) (q_buildL (ds := [.int .u64 8, .int .u64 100]) [(0, 1), (1, 1)] [.int .u64 8, .int .u64 100] Try.underlying30 Try.zeroValue30 (by first | exact flat_agg rfl | exact flat_scalar rfl) (by kernel_rfl) ⟨rfl, rfl, trivial⟩ (lvsC (by exact trivial) (lvsC (by exact trivial) lvs0)) rfl) rfl (by decide) (cok2 (cconst rfl) (cconst rfl)) ?_
  refine dv (gyes_none rfl) (q_call0 Try.call23 rfl (ACalls.castV (v' := .tuple #[.int .u64 32, .bool true]) (fit_ok b1 _ ([(10, 30)]) (s39.rd (j := 1) rfl) (s39.slsj (l := [(10, 30)]) spc_w (j := 0) rfl rfl (Nat.le_refl _)) (by first | decide | omega) (by unfold SpW; decide) 5 8 (8, 100) (by decide) (by decide) (by unfold SpW; decide)) (congrArg (fun p : Nat × Bool => Value.tuple #[.int .u64 (p.1 : Int), .bool p.2]) fit_c))) rfl (by decide) (call_ok rfl) ?_
  refine dv (gyes_none rfl) (q_mv (v := .tuple #[.int .u64 32, .bool true]) rfl) rfl (by decide) (cok1 trivial) ?_
  refine dv (gyes_none rfl) (q_extract (v := .int .u64 32) rfl rfl) rfl (by decide) (cok1 trivial) ?_
  refine dv (gyes_none rfl) (q_extract (v := .bool true) rfl rfl) rfl (by decide) (cok1 trivial) ?_
  refine dv (gyes_none rfl) (q_as (v := .int .u64 32) rfl) rfl (by decide) (cok1 trivial) ?_
  refine dv (gyes_none rfl) (q_as (v := .bool true) rfl) rfl (by decide) (cok1 trivial) ?_
  refine ⟨_, Wk.refl _ _, ?_⟩
  show awp _ _ _ _ _ _ _
  refine awp_seq ?_
  refine awp_regs hF ?_
  refine dv (gyes_none rfl) (q_mv (v := .bool true) rfl) rfl (by decide) (cok1 trivial) ?_
  refine dv (gyes_none rfl) (q_mv (v := .bool true) rfl) rfl (by decide) (cok1 trivial) ?_
  refine dv (gyes_some rfl rfl) (q_mv (v := .int .u64 32) rfl) rfl (by decide) (cok1 trivial) ?_
  refine dv (gyes_some rfl rfl) (OpQ.cast (v' := .bool true) (q_int rfl rfl rfl) (congrArg Value.bool (beq_self_eq_true _))) rfl (by decide) (cok2 trivial (cconst rfl)) ?_
  refine dv (gyes_none rfl) (q_pt (v := .bool true) rfl rfl) rfl (by decide) (call_ok rfl) ?_
  refine dv (gyes_none rfl) (q_mv (v := .bool true) rfl) rfl (by decide) (cok1 trivial) ?_
  refine dv (gyes_some rfl rfl) (q_call0 Try.call15 rfl (ACalls.castV (v' := .int .u64 20) (slen_ok b1 _ ([(10, 30)]) (s39.rd (j := 1) rfl) (s39.slsj (l := [(10, 30)]) spc_w (j := 0) rfl rfl (Nat.le_refl _)) (by first | decide | omega) (by unfold SpW; decide)) rfl)) rfl (by decide) (cok2 trivial trivial) ?_
  refine dv (gyes_some rfl rfl) (OpQ.cast (v' := .bool true) (q_int rfl rfl rfl) (congrArg Value.bool (beq_self_eq_true _))) rfl (by decide) (cok2 trivial (cconst rfl)) ?_
  refine dv (gyes_none rfl) (q_pt (v := .bool true) rfl rfl) rfl (by decide) (call_ok rfl) ?_
  refine dv (gyes_none rfl) (q_mv (v := .bool true) rfl) rfl (by decide) (cok1 trivial) ?_
  refine dv (gyes_some rfl rfl) (q_buildL (ds := [.int .u64 15, .int .u64 25]) [(0, 1), (1, 1)] [.int .u64 15, .int .u64 25] Try.underlying30 Try.zeroValue30 (by first | exact flat_agg rfl | exact flat_scalar rfl) (by kernel_rfl) ⟨rfl, rfl, trivial⟩ (lvsC (by exact trivial) (lvsC (by exact trivial) lvs0)) rfl) rfl (by decide) (cok2 (cconst rfl) (cconst rfl)) ?_
  refine dv (gyes_some rfl rfl) (q_call0 Try.call14 rfl (ACalls.castV (v' := .bool true) (covers_ok b1 _ ([(10, 30)]) (s39.rd (j := 1) rfl) (s39.slsj (l := [(10, 30)]) spc_w (j := 0) rfl rfl (Nat.le_refl _)) (by first | decide | omega) (15, 25)) rfl)) rfl (by decide) (call_ok rfl) ?_
  refine dv (gyes_none rfl) (q_pt (v := .bool true) rfl rfl) rfl (by decide) (call_ok rfl) ?_
  refine dv (gyes_none rfl) (q_as (v := .bool true) rfl) rfl (by decide) (cok1 trivial) ?_
  refine ⟨_, Wk.refl _ _, ?_⟩
  show awp _ _ _ _ _ _ _
  refine awp_ret_wk ?_
  refine ⟨_, Wk.refl _ _, ?_⟩
  repeat (with_reducible first | refine then_ret ?_ | refine blk_ret ?_ | refine then_exit ?_ | refine blk_exit ?_ | refine blk_exit' (by decide) ?_ | refine blk_normal ?_ | refine then_normal ?_ | refine retq_ret ?_ | refine retq_normal ?_ | refine ng_normal ?_ | refine ng_ret ?_ | refine ng_exit ?_)
  exact ret_none (v := .bool true) rfl s39.kp (.tmp rfl .nil) rfl rfl ⟨rfl, rfl⟩
end Go.Proofs.YtjgeheookgogaaaA


/-
  From a law's arguments, slices among them, to abstract states.
-/
namespace Go.Proofs.YtjgeheookgogaaaA
set_option linter.unusedVariables false
open Go Go.RowKit Go.Shelf
/-- The places of the arguments' blocks. -/
def rhoOf (ls : List (Option Loc)) : Ren := fun b => match ls[b]? with | some (some l) => .at l | _ => .none
/-- A block of an argument, or none. -/
def ArgO (W : World) (ol : Option Loc) (o : AObj) : Prop :=
  (ol = none ∧ o = .none) ∨ ∃ lc vs, ol = some lc ∧ o = .cells false vs 1 ∧ lc.blk < W.heap.size ∧ ∀ ρ, ORel ρ lc W (.cells false vs 1)
def ArgOs (W : World) : List (Option Loc) → AHeap → Prop
  | [], [] => True
  | ol :: ls, o :: H => ArgO W ol o ∧ ArgOs W ls H
  | _, _ => False
theorem ArgOs.at {W : World} : ∀ {ls : List (Option Loc)} {H : AHeap}, ArgOs W ls H → ∀ (b : Nat) (ol : Option Loc), ls[b]? = some ol → ∃ o : AObj, H[b]? = some o ∧ ArgO W ol o
  | [], [], _, b, ol, h => by simp at h
  | [], _ :: _, h, _, _, _ => h.elim
  | _ :: _, [], h, _, _, _ => h.elim
  | x :: ls, o :: H, ⟨h1, h2⟩, b, ol, h => by
    cases b with
    | zero => simp at h; subst h; exact ⟨o, by simp, h1⟩
    | succ b => simpa using ArgOs.at h2 b ol (by simpa using h)
theorem ArgOs.at' {W : World} : ∀ {ls : List (Option Loc)} {H : AHeap}, ArgOs W ls H → ∀ (b : Nat) (o : AObj), H[b]? = some o → ∃ ol : Option Loc, ls[b]? = some ol ∧ ArgO W ol o
  | [], [], _, b, o, h => by simp at h
  | [], _ :: _, h, _, _, _ => h.elim
  | _ :: _, [], h, _, _, _ => h.elim
  | x :: ls, o' :: H, ⟨h1, h2⟩, b, o, h => by
    cases b with
    | zero => simp at h; subst h; exact ⟨x, by simp, h1⟩
    | succ b => simpa using ArgOs.at' h2 b o (by simpa using h)
theorem ArgOs.len {W : World} : ∀ {ls : List (Option Loc)} {H : AHeap}, ArgOs W ls H → ls.length = H.length
  | [], [], _ => rfl
  | [], _ :: _, h => h.elim
  | _ :: _, [], h => h.elim
  | x :: ls, o' :: H, ⟨h1, h2⟩ => by simp [ArgOs.len h2]
/-- A slice that came as an argument: its block, its value. -/
structure SArg {α : Type} (f : α → Value) (w : World) (v : Value) (l : List α) (b : Nat) (ol : Option Loc) (o : AObj) (va : Value) : Prop where
  obj : ArgO w ol o
  val : ∀ ρ : Ren, (∀ lc, ol = some lc → ρ b = .at lc) → VRel ρ va v
  sl : ∀ H : AHeap, H[b]? = some o → Sl f H va l
end Go.Proofs.YtjgeheookgogaaaA


/-
  Slices among a law's arguments, as the row's facts tell of them.
-/
namespace Go.Proofs.YtjgeheookgogaaaA
set_option linter.unusedVariables false
open Go Go.RowKit Go.Shelf Go.ChangeShapes
def RowF {α : Type} (f : α → Value) (w : World) (a : Option Addr) (len cap : Nat) (zs : List α) : Prop :=
  (a = none ∧ len = 0 ∧ cap = 0) ∨ ∃ x, a = some x ∧ x.spot = none ∧ len ≤ cap ∧ zs.length = cap ∧ (∃ cs T fr, w.heap[x.block]? = some (.cells cs T fr)) ∧ ∀ i (h : i < zs.length), w.cell? (x.add i) = some (f zs[i])
end Go.Proofs.YtjgeheookgogaaaA


/-
  A law's arguments, slices and slices of slices among them, as blocks.
-/
namespace Go.Proofs.YtjgeheookgogaaaA
set_option linter.unusedVariables false
open Go Go.RowKit Go.Shelf Go.ChangeShapes
def rhoP (ls : List Plc) : Ren := fun b => ls.getD b .none
def AtOff (ρ : Ren) (off : Nat) (ls : List Plc) : Prop := ∀ (i : Nat) (p : Plc), ls[i]? = some p → ρ (off + i) = p
def InH (H : AHeap) (off : Nat) (L : AHeap) : Prop := ∀ (i : Nat) (o : AObj), L[i]? = some o → H[off + i]? = some o
theorem AtOff.app {ρ : Ren} {off : Nat} {a b : List Plc} (h : AtOff ρ off (a ++ b)) : AtOff ρ off a ∧ AtOff ρ (off + a.length) b := by
  refine ⟨fun i p hi => h i p ?_, fun i p hi => ?_⟩
  · rw [List.getElem?_append_left (List.getElem?_eq_some_iff.1 hi).1]; exact hi
  · have := h (a.length + i) p (by rw [List.getElem?_append_right (by omega)]; simpa using hi)
    rw [Nat.add_assoc]; exact this
theorem InH.app {H : AHeap} {off : Nat} {a b : AHeap} (h : InH H off (a ++ b)) : InH H off a ∧ InH H (off + a.length) b := by
  refine ⟨fun i p hi => h i p ?_, fun i p hi => ?_⟩
  · rw [List.getElem?_append_left (List.getElem?_eq_some_iff.1 hi).1]; exact hi
  · have := h (a.length + i) p (by rw [List.getElem?_append_right (by omega)]; simpa using hi)
    rw [Nat.add_assoc]; exact this
theorem InH.refl (H : AHeap) : InH H 0 H := fun i o h => by rw [Nat.zero_add]; exact h
def ArgP (ρ : Ren) (w : World) (p : Plc) (o : AObj) : Prop :=
  (p = .none ∧ o = .none) ∨ (p = .null ∧ o = .null) ∨ ∃ lc vs sz, p = .at lc ∧ o = .cells false vs sz ∧ lc.blk < w.heap.size ∧ ORel ρ lc w (.cells false vs sz)
structure PArg (w : World) (v : Value) (off : Nat) (ls : List Plc) (L : AHeap) (va : Value) : Prop where
  len : ls.length = L.length
  obj : ∀ ρ : Ren, AtOff ρ off ls → ∀ (i : Nat) (p : Plc), ls[i]? = some p → ∃ o : AObj, L[i]? = some o ∧ ArgP ρ w p o
  val : ∀ ρ, AtOff ρ off ls → VRel ρ va v
inductive PAll (w : World) : Nat → List Value → List Plc → AHeap → List Value → Prop
  | nil (off : Nat) : PAll w off [] [] [] []
  | cons {off : Nat} {v va : Value} {vs vas : List Value} {ls ls' : List Plc} {L L' : AHeap} (h : PArg w v off ls L va) (k : PAll w (off + ls.length) vs ls' L' vas) : PAll w off (v :: vs) (ls ++ ls') (L ++ L') (va :: vas)
theorem PArg.scalar {w : World} {v : Value} (off : Nat) (h : Scalar v = true) : PArg w v off [] [] v := ⟨rfl, fun ρ _ i p h => by simp at h, fun ρ _ => .scalar h ρ⟩
theorem PAll.sum {w : World} : ∀ {off : Nat} {vs vas : List Value} {ls : List Plc} {L : AHeap}, PAll w off vs ls L vas → ls.length = L.length ∧ (∀ ρ : Ren, AtOff ρ off ls → (∀ (i : Nat) (p : Plc), ls[i]? = some p → ∃ o : AObj, L[i]? = some o ∧ ArgP ρ w p o) ∧ LRel ρ vas vs) := by
  intro off vs vas ls L h
  induction h with
  | nil off => exact ⟨rfl, fun ρ _ => ⟨fun i p h => by simp at h, .nil ρ⟩⟩
  | @cons off v va vs vas ls ls' L L' h k ih =>
    refine ⟨by rw [List.length_append, List.length_append, h.len, ih.1], fun ρ hρ => ?_⟩
    obtain ⟨h1, h2⟩ := hρ.app
    obtain ⟨h3, h4⟩ := ih.2 ρ h2
    refine ⟨fun i p hi => ?_, .cons (h.val ρ h1) h4⟩
    by_cases e : i < ls.length
    · rw [List.getElem?_append_left e] at hi
      obtain ⟨o, k1, k2⟩ := h.obj ρ h1 i p hi
      exact ⟨o, by rw [List.getElem?_append_left (by rw [← h.len]; exact e)]; exact k1, k2⟩
    · rw [List.getElem?_append_right (by omega)] at hi
      obtain ⟨o, k1, k2⟩ := h3 _ p hi
      exact ⟨o, by rw [List.getElem?_append_right (by rw [← h.len]; omega), ← h.len]; exact k1, k2⟩
theorem world_of_acallsP {P : Program} {f : FuncId} {args : List Value} {args' : Array Value} {H : AHeap} {ls : List Plc} {v : Value} {w : World} (hA : PAll w 0 args'.toList ls H args) (hv : Scalar v = true) (h : ACalls P f args H (Rets v H)) :
    Calls P f args' w fun e w' => e = .returned v ∧ Below w.heap.size w w' := by
  obtain ⟨hlen, hs⟩ := hA.sum
  have hat : AtOff (rhoP ls) 0 ls := fun i p hi => by
    rw [Nat.zero_add]; unfold rhoP; rw [List.getD_eq_getElem?_getD, hi]; rfl
  obtain ⟨hob, hval⟩ := hs _ hat
  have hrev : ∀ (b : Nat) (o : AObj), H[b]? = some o → ∃ p, ls[b]? = some p ∧ ArgP (rhoP ls) w p o := fun b o hb => by
    have hbl := (List.getElem?_eq_some_iff.1 hb).1
    obtain ⟨o', h1, h2⟩ := hob b _ (List.getElem?_eq_getElem (by rw [hlen]; exact hbl))
    rw [hb] at h1; cases h1
    exact ⟨_, List.getElem?_eq_getElem (by rw [hlen]; exact hbl), h2⟩
  have hget : ∀ b p, rhoP ls b = p → p ≠ .none → ls[b]? = some p := fun b p hb hn => by
    unfold rhoP at hb
    rw [List.getD_eq_getElem?_getD] at hb
    cases e : ls[b]? with
    | none => rw [e] at hb; exact absurd hb.symm hn
    | some q => rw [e] at hb; exact congrArg some hb
  have hnw : ∀ b l, rhoP ls b = .at l → ¬ wr H b := fun b l hb ⟨o, h1, h2⟩ => by
    obtain ⟨o', h3, h4⟩ := hob b _ (hget b _ hb (by simp))
    rw [h1] at h3; cases h3
    rcases h4 with ⟨h3, _⟩ | ⟨h3, _⟩ | ⟨lc, vs, sz, h3, rfl, _⟩
    · cases h3
    · cases h3
    · cases h2
  have hh : HRel (rhoP ls) H w := by
    refine ⟨fun b hb => ?_, fun b l hb => ?_, fun b c l m _ hb _ hw => absurd hw (hnw b l hb), fun g vs sz hg => ?_, fun b hb => ?_⟩
    · unfold rhoP
      rw [List.getD_eq_getElem?_getD, List.getElem?_eq_none (by rw [hlen]; exact hb)]; rfl
    · obtain ⟨o, h1, h2⟩ := hob b _ (hget b _ hb (by simp))
      rcases h2 with ⟨h3, _⟩ | ⟨h3, _⟩ | ⟨lc, vs, sz, h3, rfl, h4, h5⟩
      · cases h3
      · cases h3
      · cases h3; exact ⟨_, h1, h4, h5⟩
    · obtain ⟨p, _, h3⟩ := hrev g _ hg
      rcases h3 with ⟨_, h3⟩ | ⟨_, h3⟩ | ⟨lc, vs, sz, _, h3, _⟩ <;> cases h3
    · obtain ⟨o, h1, h2⟩ := hob b _ (hget b _ hb (by simp))
      rcases h2 with ⟨h3, _⟩ | ⟨h3, _⟩ | ⟨lc, vs, sz, h3, _⟩ <;> cases h3
  refine (h _ w args' hh hval).mono ?_
  rintro e w' ⟨v1, v', H', ρ', rfl, ⟨rfl, rfl⟩, k1, k2, k3, k4⟩
  rw [k1.scalar_eq hv]
  exact ⟨rfl, k3.os, k3.tape, k3.output, k3.size, fun k hk => k3.keep k hk fun ⟨b, l, hb, _, hw⟩ => hnw b l hb hw⟩
/-! ### Slices that came in -/
/-- A slice in the world: its elements, of one cell each. -/
def SlC {α : Type} (f : α → Value) (w : World) (u : Value) (r : List α) : Prop :=
  (u = .slice none 0 0 ∧ r = []) ∨ ∃ x l c, u = .slice (some x) l c ∧ l ≤ c ∧ r.length = l ∧ (c = 0 ∨ (x.spot = none ∧ ∃ cs T fr, w.heap[x.block]? = some (.cells cs T fr) ∧ x.off + c ≤ cs.size ∧ ∀ i (h : i < r.length), cs[x.off + i]? = some (f r[i])))
theorem AtOff.one {ρ : Ren} {off : Nat} {p : Plc} (h : AtOff ρ off [p]) : ρ off = p := h 0 p rfl
/-- A slice of slices. -/
structure Sl2C {α : Type} (f : α → Value) (w : World) (u : Value) (us : List Value) (rs : List (List α)) : Prop where
  out : SlC (fun v : Value => v) w u us
  len : us.length = rs.length
  row : ∀ i (h : i < us.length), SlC f w us[i] (nth rs i)
/-! ### From the row's facts -/
/-! ### Arrays that came in -/
theorem okWide_array {P : Program} {w : World} {r : Reach} {base : Nat} {t e : TypeId} {n : Nat} {v : Value} (ht : P.underlying t = some (.array n e)) (h : Value.okWide P w r base t v) : ∃ cs, v = .agg cs ∧ cs.size = P.cellsOf t := by
  simp only [Value.okWide, ht] at h
  obtain ⟨cs, h1, h2, _⟩ := h
  exact ⟨cs, h1, h2⟩
theorem arr_two {cs : Array Value} (h : cs.size = 2) : ∃ a b, cs = #[a, b] := by
  obtain ⟨l⟩ := cs
  match l, h with
  | [a, b], _ => exact ⟨a, b, rfl⟩
end Go.Proofs.YtjgeheookgogaaaA


/-
  A law's arguments: slices whose elements are structs or arrays, and arrays of numbers.
-/
namespace Go.Proofs.YtjgeheookgogaaaA
set_option linter.unusedVariables false
open Go Go.RowKit Go.Shelf Go.ChangeShapes Go.WideShapes
section
variable {α : Type} [Inhabited α] {f : α → List Value} {m : Nat}
def SlCm (f : α → List Value) (m : Nat) (w : World) (u : Value) (r : List α) : Prop :=
  (u = .slice none 0 0 ∧ r = []) ∨ ∃ x l c, u = .slice (some x) l c ∧ l ≤ c ∧ r.length = l ∧ (c = 0 ∨ (x.spot = none ∧ ∃ cs T fr, w.heap[x.block]? = some (.cells cs T fr) ∧ x.off + c * m ≤ cs.size ∧ ∀ i (h : i < r.length), ∀ j, j < m → cs[x.off + i * m + j]? = (f (nth r i))[j]?))
def ElemOk (P : Program) (e : TypeId) (f : α → List Value) (ok : α → Prop) : Prop := ∀ (H : Type) (enc : TypeId × Value → H) (w : World) (base fuel : Nat) (cs : List Value) (x : DataW H × List MemPlace), DataW.trod enc P w base (fun _ => true) true fuel e cs = some x → ∃ a, cs = f a ∧ ok a
end
section
variable {H : Type} {enc : TypeId × Value → H} {P : Program} {w : World} {base fuel : Nat} {t e : TypeId} {cs : List Value} {x : DataW H × List MemPlace}
theorem take1 {o : Nat} {v : Value} (h : (cs.drop o).take 1 = [v]) : cs[o]? = some v := by
  have h1 : ((cs.drop o).take 1)[0]? = some v := by rw [h]; rfl
  rw [List.getElem?_take, if_pos (by decide), List.getElem?_drop] at h1
  exact h1
theorem nat_of_u64 {n : Int} (hw : (Lit.int .u64 n).wf = true) : ∃ k : Nat, n = (k : Int) ∧ k < 18446744073709551616 := by
  simp [Lit.wf, IntKind.min, IntKind.max, IntKind.signed, IntKind.bits] at hw
  exact ⟨n.toNat, by omega, by omega⟩
/-- An array of whole numbers. -/
theorem arr_u64 {n : Nat} {el : TypeId} (hs : P.underlying e = some (.array n el)) (hc : P.cellsOf el = 1) (hu : P.underlying el = some (.int .u64)) (h : DataW.trod enc P w base (fun _ => true) true fuel e cs = some x) {i : Nat} (hi : i < n) : ∃ k : Nat, cs[i]? = some (.int .u64 ((k : Nat) : Int)) ∧ k < 18446744073709551616 := by
  obtain ⟨xs, m, _, _, _, hl, hx⟩ := DataW.trod_array hs h
  have h1 := hx i hi
  rw [hc, Nat.mul_one, List.getElem?_eq_getElem (by omega)] at h1
  obtain ⟨z, e1, _, hw⟩ := DataW.trod_int hu h1
  obtain ⟨k, rfl, hk⟩ := nat_of_u64 hw
  exact ⟨k, take1 e1, hk⟩
end
theorem parg_sc {w : World} {vs : List Value} (h : ∀ v ∈ vs, Scalar v = true) (off : Nat) : PArg w (.agg vs.toArray) off [] [] (.agg vs.toArray) := by
  refine ⟨rfl, fun ρ _ i p h => by simp at h, fun ρ _ => .agg rfl fun i hi => ?_⟩
  have hi' : i < vs.length := by simpa using hi
  have : (vs.toArray.getD i undef) = vs[i] := by rw [Array.getD_eq_getD_getElem?]; simp [hi']
  rw [this]
  exact .scalar (h _ (List.getElem_mem hi')) ρ
end Go.Proofs.YtjgeheookgogaaaA


/-
  Walks of functions of the given program, and what they compute.
-/
namespace Go.Proofs.YtjgeheookgogaaaA
set_option linter.unusedVariables false
open Go Go.RowKit Go.Shelf Go.Proofs
set_option maxRecDepth 100000 in
set_option maxHeartbeats 4000000 in
theorem spanTwo_ok {H0 : AHeap} (xa xb ya yb q : Nat) (hxa : xa < 18446744073709551616) (hxb : xb < 18446744073709551616) (hya : ya < 18446744073709551616) (hyb : yb < 18446744073709551616) (hq : q < 18446744073709551616) : ACalls Try.prog 4 [.agg #[.int .u64 ((xa : Nat) : Int), .int .u64 ((xb : Nat) : Int)], .agg #[.int .u64 ((ya : Nat) : Int), .int .u64 ((yb : Nat) : Int)], .int .u64 ((q : Nat) : Int)] H0 (Rets (.bool true) H0) := by
  have hF : Wd Fence.wide := .inl rfl
  have hM : Try.prog.follows .mixedOrders = true := by kernel_rfl
  have s0 := St.begin H0
  refine acalls_st Try.func4 rfl Try.ntmps4 rfl ?_
  refine awp_seq ?_
  refine awp_regs hF ?_
  refine x_new (fun b => .pointer (some ⟨b, 0, none⟩)) s0 (gyes_none rfl) (q_box (v := .agg #[.int .u64 ((xa : Nat) : Int), .int .u64 ((xb : Nat) : Int)]) (vs := [.int .u64 ((xa : Nat) : Int), .int .u64 ((xb : Nat) : Int)]) 2 rfl (by exact trivial) rfl) rfl (by decide) (cok1 trivial) (fun b1 H2 hb4 s3 => ?_)
  refine x_new (fun b => .pointer (some ⟨b, 0, none⟩)) s3 (gyes_none rfl) (q_box (v := .agg #[.int .u64 ((ya : Nat) : Int), .int .u64 ((yb : Nat) : Int)]) (vs := [.int .u64 ((ya : Nat) : Int), .int .u64 ((yb : Nat) : Int)]) 2 rfl (by exact trivial) rfl) rfl (by decide) (cok1 trivial) (fun b5 H6 hb8 s7 => ?_)
  refine dv (gyes_none rfl) (q_as (v := .bool false) rfl) rfl (by decide) (cok1 (cconst rfl)) ?_
  refine ⟨_, Wk.refl _ _, ?_⟩
  show awp _ _ _ _ _ _ _
  refine awp_seq ?_
  refine awp_seq ?_
  refine awp_regs hF ?_
  refine dv (gyes_none rfl) (q_call0 Try.call8 rfl (speaks_ok)) rfl (by decide) (cok1 trivial) ?_
  refine dv (gyes_none rfl) (q_not (b := true) rfl) rfl (by decide) (cok1 trivial) ?_
  refine ⟨_, Wk.refl _ _, ?_⟩
  show awp _ _ _ _ _ _ _
  refine awp_cond_f rfl ?_
  refine awp_skip_wk ?_
  refine ⟨_, Wk.refl _ _, ?_⟩
  show awp _ _ _ _ _ _ _
  refine awp_seq ?_
  refine awp_regt hF hM (by kernel_rfl) (by kernel_rfl) ?_
  refine dv (gyes_none rfl) (q_indexArr (i := 0) Try.underlying28 Try.sizeOf27 rfl rfl (by first | decide | omega) (s7.rd (j := 1) rfl)) rfl (by decide) (cok2 trivial (cconst rfl)) ?_
  refine dv (gyes_none rfl) (q_load (v := .int .u64 ((xa : Nat) : Int)) Try.isAgg27 rfl (s7.rd (j := 1) rfl) rfl) rfl (by decide) (cok1 trivial) ?_
  refine dv (gyes_none rfl) (q_indexArr (i := 1) Try.underlying28 Try.sizeOf27 rfl rfl (by first | decide | omega) (s7.rd (j := 1) rfl)) rfl (by decide) (cok2 trivial (cconst rfl)) ?_
  refine dv (gyes_none rfl) (q_load (v := .int .u64 ((xb : Nat) : Int)) Try.isAgg27 rfl (s7.rd (j := 1) rfl) rfl) rfl (by decide) (cok1 trivial) ?_
  refine dv (gyes_none rfl) (q_buildL (ds := [.int .u64 ((xa : Nat) : Int), .int .u64 ((xb : Nat) : Int)]) [(0, 1), (1, 1)] [.int .u64 ((xa : Nat) : Int), .int .u64 ((xb : Nat) : Int)] Try.underlying30 Try.zeroValue30 (by first | exact flat_agg rfl | exact flat_scalar rfl) (by kernel_rfl) ⟨rfl, rfl, trivial⟩ (lvsC (by exact trivial) (lvsC (by exact trivial) lvs0)) rfl) rfl (by decide) (cok2 trivial trivial) ?_
  refine dv (gyes_none rfl) (q_indexArr (i := 0) Try.underlying28 Try.sizeOf27 rfl rfl (by first | decide | omega) (s7.rd (j := 0) rfl)) rfl (by decide) (cok2 trivial (cconst rfl)) ?_
  refine dv (gyes_none rfl) (q_load (v := .int .u64 ((ya : Nat) : Int)) Try.isAgg27 rfl (s7.rd (j := 0) rfl) rfl) rfl (by decide) (cok1 trivial) ?_
  refine dv (gyes_none rfl) (q_indexArr (i := 1) Try.underlying28 Try.sizeOf27 rfl rfl (by first | decide | omega) (s7.rd (j := 0) rfl)) rfl (by decide) (cok2 trivial (cconst rfl)) ?_
  refine dv (gyes_none rfl) (q_load (v := .int .u64 ((yb : Nat) : Int)) Try.isAgg27 rfl (s7.rd (j := 0) rfl) rfl) rfl (by decide) (cok1 trivial) ?_
  refine dv (gyes_none rfl) (q_buildL (ds := [.int .u64 ((ya : Nat) : Int), .int .u64 ((yb : Nat) : Int)]) [(0, 1), (1, 1)] [.int .u64 ((ya : Nat) : Int), .int .u64 ((yb : Nat) : Int)] Try.underlying30 Try.zeroValue30 (by first | exact flat_agg rfl | exact flat_scalar rfl) (by kernel_rfl) ⟨rfl, rfl, trivial⟩ (lvsC (by exact trivial) (lvsC (by exact trivial) lvs0)) rfl) rfl (by decide) (cok2 trivial trivial) ?_
  refine x_new (fun b => .pointer (some ⟨b, 0, none⟩)) s7 (gyes_none rfl) (q_alloc (vs := [.int .u64 0, .int .u64 0]) 2 Try.zeroValue30 (by first | exact flat_scalar rfl | exact flat_agg rfl) rfl) rfl (by decide) (by simp [Op.operands, Call.operands]) (fun b9 H10 hb12 s11 => ?_)
  refine x_new (fun b => .pointer (some ⟨b, 0, none⟩)) s11 (gyes_none rfl) (q_alloc (vs := [.int .u64 0, .int .u64 0]) 2 Try.zeroValue30 (by first | exact flat_scalar rfl | exact flat_agg rfl) rfl) rfl (by decide) (by simp [Op.operands, Call.operands]) (fun b13 H14 hb16 s15 => ?_)
  refine x_store [5, 6, 7, 8, 9] hF s15 (by kernel_rfl) (gyes_none rfl) (j := 1) (v := .agg #[.int .u64 ((xa : Nat) : Int), .int .u64 ((xb : Nat) : Int)]) rfl Try.sizeOf30 rfl rfl rfl rfl rfl trivial (lcsA ⟨(lc_scalar rfl), (lc_scalar rfl), trivial⟩) (Nat.le_of_ble_eq_true rfl) trivial trivial rfl rfl (F' := [(b13, .cells true [.int .u64 0, .int .u64 0] 2), (b9, .cells true [.int .u64 ((xa : Nat) : Int), .int .u64 ((xb : Nat) : Int)] 2), (b5, .cells true [.int .u64 ((ya : Nat) : Int), .int .u64 ((yb : Nat) : Int)] 2), (b1, .cells true [.int .u64 ((xa : Nat) : Int), .int .u64 ((xb : Nat) : Int)] 2)]) rfl (fun H17 s18 => ⟨?_, ?_⟩)
  · exact ⟨pend_yes rfl (gyes_none rfl) (q_indexArr (i := 0) Try.underlying28 Try.sizeOf27 rfl rfl (by first | decide | omega) (s18.rd (j := 2) rfl)) rfl (by decide) (cok2 trivial (cconst rfl)) rfl, pend_yes rfl (gyes_none rfl) (q_load (v := .int .u64 ((ya : Nat) : Int)) Try.isAgg27 rfl (s18.rd (j := 2) rfl) rfl) rfl (by decide) (cok1 trivial) rfl, pend_yes rfl (gyes_none rfl) (q_indexArr (i := 1) Try.underlying28 Try.sizeOf27 rfl rfl (by first | decide | omega) (s18.rd (j := 2) rfl)) rfl (by decide) (cok2 trivial (cconst rfl)) rfl, pend_yes rfl (gyes_none rfl) (q_load (v := .int .u64 ((yb : Nat) : Int)) Try.isAgg27 rfl (s18.rd (j := 2) rfl) rfl) rfl (by decide) (cok1 trivial) rfl, pend_yes rfl (gyes_none rfl) (q_buildL (ds := [.int .u64 ((ya : Nat) : Int), .int .u64 ((yb : Nat) : Int)]) [(0, 1), (1, 1)] [.int .u64 ((ya : Nat) : Int), .int .u64 ((yb : Nat) : Int)] Try.underlying30 Try.zeroValue30 (by first | exact flat_agg rfl | exact flat_scalar rfl) (by kernel_rfl) ⟨rfl, rfl, trivial⟩ (lvsC (by exact trivial) (lvsC (by exact trivial) lvs0)) rfl) rfl (by decide) (cok2 trivial trivial) rfl, trivial⟩
  refine x_store [] hF s18 (by kernel_rfl) (gyes_none rfl) (j := 0) (v := .agg #[.int .u64 ((ya : Nat) : Int), .int .u64 ((yb : Nat) : Int)]) rfl Try.sizeOf30 rfl rfl rfl rfl rfl trivial (lcsA ⟨(lc_scalar rfl), (lc_scalar rfl), trivial⟩) (Nat.le_of_ble_eq_true rfl) trivial trivial rfl rfl (F' := [(b13, .cells true [.int .u64 ((ya : Nat) : Int), .int .u64 ((yb : Nat) : Int)] 2), (b9, .cells true [.int .u64 ((xa : Nat) : Int), .int .u64 ((xb : Nat) : Int)] 2), (b5, .cells true [.int .u64 ((ya : Nat) : Int), .int .u64 ((yb : Nat) : Int)] 2), (b1, .cells true [.int .u64 ((xa : Nat) : Int), .int .u64 ((xb : Nat) : Int)] 2)]) rfl (fun H19 s20 => ⟨?_, ?_⟩)
  · exact trivial
  refine ⟨_, Wk.refl _ _, ?_⟩
  show awp _ _ _ _ _ _ _
  refine awp_seq ?_
  refine awp_regs hF ?_
  refine dv (gyes_none rfl) (q_as (v := .int .u64 0) rfl) rfl (by decide) (cok1 (cconst rfl)) ?_
  refine ⟨_, Wk.refl _ _, ?_⟩
  show awp _ _ _ _ _ _ _
  refine awp_join (fun st => ∃ (H21 : AHeap) (n : Nat), st = ⟨144, U [(0, .agg #[.int .u64 ((xa : Nat) : Int), .int .u64 ((xb : Nat) : Int)]), (1, .agg #[.int .u64 ((ya : Nat) : Int), .int .u64 ((yb : Nat) : Int)]), (2, .int .u64 ((q : Nat) : Int)), (3, .pointer (some ⟨b1, 0, none⟩)), (4, .pointer (some ⟨b5, 0, none⟩)), (6, .bool false), (7, .pointer (some ⟨b9, 0, none⟩)), (8, .pointer (some ⟨b13, 0, none⟩)), (9, .int .u64 ((n : Nat) : Int))], [], H21⟩ ∧ St H0 (none0) (Rd H0) H21 [(b13, .cells true [.int .u64 ((ya : Nat) : Int), .int .u64 ((yb : Nat) : Int)] 2), (b9, .cells true [.int .u64 ((xa : Nat) : Int), .int .u64 ((xb : Nat) : Int)] 2), (b5, .cells true [.int .u64 ((ya : Nat) : Int), .int .u64 ((yb : Nat) : Int)] 2), (b1, .cells true [.int .u64 ((xa : Nat) : Int), .int .u64 ((xb : Nat) : Int)] 2)] ∧ (n = xb - xa)) ?j1 ?j2
  case j1 =>
    refine awp_seq ?_
    refine awp_regs hF ?_
    refine dv (gyes_none rfl) (q_indexArr (i := 1) Try.underlying28 Try.sizeOf27 rfl rfl (by first | decide | omega) (s20.rd (j := 3) rfl)) rfl (by decide) (cok2 trivial (cconst rfl)) ?_
    refine dv (gyes_none rfl) (q_load (v := .int .u64 ((xb : Nat) : Int)) Try.isAgg27 rfl (s20.rd (j := 3) rfl) rfl) rfl (by decide) (cok1 trivial) ?_
    refine dv (gyes_none rfl) (q_indexArr (i := 0) Try.underlying28 Try.sizeOf27 rfl rfl (by first | decide | omega) (s20.rd (j := 3) rfl)) rfl (by decide) (cok2 trivial (cconst rfl)) ?_
    refine dv (gyes_none rfl) (q_load (v := .int .u64 ((xa : Nat) : Int)) Try.isAgg27 rfl (s20.rd (j := 3) rfl) rfl) rfl (by decide) (cok1 trivial) ?_
    refine dvb (gyes_none rfl) (q_int rfl rfl rfl) rfl (by decide) (cok2 trivial trivial) (fun c1 => ?_) (fun c1 => ?_)
    ·
      replace c1 := of_decide_eq_true c1
      refine ⟨_, Wk.refl _ _, ?_⟩
      show awp _ _ _ _ _ _ _
      refine awp_cond_t rfl ?_
      refine awp_regs hF ?_
      refine dv (gyes_none rfl) (q_indexArr (i := 1) Try.underlying28 Try.sizeOf27 rfl rfl (by first | decide | omega) (s20.rd (j := 3) rfl)) rfl (by decide) (cok2 trivial (cconst rfl)) ?_
      refine dv (gyes_none rfl) (q_load (v := .int .u64 ((xb : Nat) : Int)) Try.isAgg27 rfl (s20.rd (j := 3) rfl) rfl) rfl (by decide) (cok1 trivial) ?_
      refine dv (gyes_none rfl) (q_indexArr (i := 0) Try.underlying28 Try.sizeOf27 rfl rfl (by first | decide | omega) (s20.rd (j := 3) rfl)) rfl (by decide) (cok2 trivial (cconst rfl)) ?_
      refine dv (gyes_none rfl) (q_load (v := .int .u64 ((xa : Nat) : Int)) Try.isAgg27 rfl (s20.rd (j := 3) rfl) rfl) rfl (by decide) (cok1 trivial) ?_
      refine dv (gyes_none rfl) (OpQ.cast (v' := .int .u64 ((xb - xa : Nat) : Int)) (q_int rfl rfl rfl) (congrArg _ ((u64_in (by omega)).trans (by omega)))) rfl (by decide) (cok2 trivial trivial) ?_
      refine dv (gyes_none rfl) (q_as (v := .int .u64 ((xb - xa : Nat) : Int)) rfl) rfl (by decide) (cok1 trivial) ?_
      exact ⟨_, Wk.U [(0, .agg #[.int .u64 ((xa : Nat) : Int), .int .u64 ((xb : Nat) : Int)]), (1, .agg #[.int .u64 ((ya : Nat) : Int), .int .u64 ((yb : Nat) : Int)]), (2, .int .u64 ((q : Nat) : Int)), (3, .pointer (some ⟨b1, 0, none⟩)), (4, .pointer (some ⟨b5, 0, none⟩)), (6, .bool false), (7, .pointer (some ⟨b9, 0, none⟩)), (8, .pointer (some ⟨b13, 0, none⟩)), (9, .int .u64 (((xb - xa) : Nat) : Int))] ⟨rfl, rfl, rfl, rfl, rfl, rfl, rfl, rfl, rfl, trivial⟩, ⟨_, (xb - xa), rfl, s20, (by first | rfl | omega)⟩⟩
    ·
      replace c1 := of_decide_eq_false c1
      refine ⟨_, Wk.refl _ _, ?_⟩
      show awp _ _ _ _ _ _ _
      refine awp_cond_f rfl ?_
      refine awp_skip_wk ?_
      exact ⟨_, Wk.U [(0, .agg #[.int .u64 ((xa : Nat) : Int), .int .u64 ((xb : Nat) : Int)]), (1, .agg #[.int .u64 ((ya : Nat) : Int), .int .u64 ((yb : Nat) : Int)]), (2, .int .u64 ((q : Nat) : Int)), (3, .pointer (some ⟨b1, 0, none⟩)), (4, .pointer (some ⟨b5, 0, none⟩)), (6, .bool false), (7, .pointer (some ⟨b9, 0, none⟩)), (8, .pointer (some ⟨b13, 0, none⟩)), (9, .int .u64 0)] ⟨rfl, rfl, rfl, rfl, rfl, rfl, rfl, rfl, rfl, trivial⟩, ⟨_, 0, rfl, s20, (by first | rfl | omega)⟩⟩
  case j2 =>
    rintro _ ⟨H21, n, rfl, s22, hn⟩
    refine awp_join (fun st => ∃ (H23 : AHeap) (z : Nat), st = ⟨144, U [(0, .agg #[.int .u64 ((xa : Nat) : Int), .int .u64 ((xb : Nat) : Int)]), (1, .agg #[.int .u64 ((ya : Nat) : Int), .int .u64 ((yb : Nat) : Int)]), (2, .int .u64 ((q : Nat) : Int)), (3, .pointer (some ⟨b1, 0, none⟩)), (4, .pointer (some ⟨b5, 0, none⟩)), (6, .bool false), (7, .pointer (some ⟨b9, 0, none⟩)), (8, .pointer (some ⟨b13, 0, none⟩))], [], H23⟩ ∧ St H0 (none0) (Rd H0) H23 [(b13, .cells true [.int .u64 ((ya : Nat) : Int), .int .u64 ((yb : Nat) : Int)] 2), (b9, .cells true [.int .u64 ((xa : Nat) : Int), .int .u64 ((xb : Nat) : Int)] 2), (b5, .cells true [.int .u64 ((ya : Nat) : Int), .int .u64 ((yb : Nat) : Int)] 2), (b1, .cells true [.int .u64 ((xa : Nat) : Int), .int .u64 ((xb : Nat) : Int)] 2)]) ?j1 ?j2
    case j1 =>
      refine awp_seq ?_
      subst hn
      refine awp_regt hF hM (by kernel_rfl) (by kernel_rfl) ?_
      refine dv (gyes_none rfl) (q_loadAgg Try.isAgg30 Try.sizeOf30 rfl (s22.rd (j := 1) rfl) (Nat.le_of_ble_eq_true rfl) rfl) rfl (by decide) (cok1 trivial) ?_
      refine dv (gyes_none rfl) (q_call0 Try.call10 rfl (splen_ok (xa, xb) ⟨hxa, hxb⟩)) rfl (by decide) (cok2 trivial trivial) ?_
      refine dv (gyes_none rfl) (q_mv (v := .int .u64 (((xb - xa) : Nat) : Int)) rfl) rfl (by decide) (cok1 trivial) ?_
      refine dvb (gyes_none rfl) (q_int rfl rfl rfl) rfl (by decide) (cok2 trivial trivial) (fun c2 => ?_) (fun c2 => ?_)
      ·
        replace c2 := bne_iff_ne.1 c2
        refine dv (gyes_none rfl) (q_mv (v := .bool true) rfl) rfl (by decide) (cok1 trivial) ?_
        refine dno rfl (.inl rfl) rfl (by decide) ?_
        refine dno rfl (.inl rfl) rfl (by decide) ?_
        refine dno rfl (.inl rfl) rfl (by decide) ?_
        refine dno rfl (.inl rfl) rfl (by decide) ?_
        refine dno rfl (.inl rfl) rfl (by decide) ?_
        refine dno rfl (.inl rfl) rfl (by decide) ?_
        refine dno rfl (.inl rfl) rfl (by decide) ?_
        refine dno rfl (.inl rfl) rfl (by decide) ?_
        refine dno rfl (.inr rfl) rfl (by decide) ?_
        refine dno rfl (.inr rfl) rfl (by decide) ?_
        refine dno rfl (.inr rfl) rfl (by decide) ?_
        refine dno rfl (.inr rfl) rfl (by decide) ?_
        refine dno rfl (.inl rfl) rfl (by decide) ?_
        refine dno rfl (.inl rfl) rfl (by decide) ?_
        refine dv (gyes_none rfl) (q_pt (v := .bool true) rfl rfl) rfl (by decide) (call_ok rfl) ?_
        refine dv (gyes_none rfl) (q_mv (v := .bool true) rfl) rfl (by decide) (cok1 trivial) ?_
        refine dno rfl (.inl rfl) rfl (by decide) ?_
        refine dno rfl (.inl rfl) rfl (by decide) ?_
        refine dno rfl (.inl rfl) rfl (by decide) ?_
        refine dno rfl (.inl rfl) rfl (by decide) ?_
        refine dno rfl (.inl rfl) rfl (by decide) ?_
        refine dno rfl (.inl rfl) rfl (by decide) ?_
        refine dno rfl (.inl rfl) rfl (by decide) ?_
        refine dv (gyes_none rfl) (q_pt (v := .bool true) rfl rfl) rfl (by decide) (call_ok rfl) ?_
        refine dv (gyes_none rfl) (q_mv (v := .bool true) rfl) rfl (by decide) (cok1 trivial) ?_
        refine dno rfl (.inl rfl) rfl (by decide) ?_
        refine dno rfl (.inl rfl) rfl (by decide) ?_
        refine dno rfl (.inl rfl) rfl (by decide) ?_
        refine dno rfl (.inl rfl) rfl (by decide) ?_
        refine dv (gyes_none rfl) (q_pt (v := .bool true) rfl rfl) rfl (by decide) (call_ok rfl) ?_
        refine ⟨_, Wk.refl _ _, ?_⟩
        show awp _ _ _ _ _ _ _
        refine awp_cond_t rfl ?_
        refine awp_seq ?_
        refine awp_regs hF ?_
        refine dv (gyes_none rfl) (q_as (v := .bool false) rfl) rfl (by decide) (cok1 (cconst rfl)) ?_
        refine ⟨_, Wk.refl _ _, ?_⟩
        show awp _ _ _ _ _ _ _
        refine awp_ret_wk ?_
        exfalso; omega
      ·
        replace c2 := bne_eq_false_iff_eq.1 c2
        refine dv (gyes_none rfl) (q_mv (v := .bool false) rfl) rfl (by decide) (cok1 trivial) ?_
        refine dv (gyes_some rfl rfl) (q_loadAgg Try.isAgg30 Try.sizeOf30 rfl (s22.rd (j := 1) rfl) (Nat.le_of_ble_eq_true rfl) rfl) rfl (by decide) (cok1 trivial) ?_
        refine dv (gyes_some rfl rfl) (q_mv (v := .int .u64 ((q : Nat) : Int)) rfl) rfl (by decide) (cok1 trivial) ?_
        refine dv (gyes_some rfl rfl) (q_call0 Try.call16 rfl (sphas_ok (xa, xb) q)) rfl (by decide) (call_ok rfl) ?_
        refine dv (gyes_some rfl rfl) (q_mv (v := .int .u64 ((q : Nat) : Int)) rfl) rfl (by decide) (cok1 trivial) ?_
        refine dv (gyes_some rfl rfl) (q_indexArr (i := 0) Try.underlying28 Try.sizeOf27 rfl rfl (by first | decide | omega) (s22.rd (j := 3) rfl)) rfl (by decide) (cok2 trivial (cconst rfl)) ?_
        refine dv (gyes_some rfl rfl) (q_load (v := .int .u64 ((xa : Nat) : Int)) Try.isAgg27 rfl (s22.rd (j := 3) rfl) rfl) rfl (by decide) (cok1 trivial) ?_
        refine dvb (gyes_some rfl rfl) (q_int rfl rfl rfl) rfl (by decide) (cok2 trivial trivial) (fun c3 => ?_) (fun c3 => ?_)
        ·
          replace c3 := of_decide_eq_true c3
          refine dv (gyes_some rfl rfl) (q_mv (v := .bool true) rfl) rfl (by decide) (cok1 trivial) ?_
          refine dv (gyes_some rfl rfl) (q_mv (v := .int .u64 ((q : Nat) : Int)) rfl) rfl (by decide) (cok1 trivial) ?_
          refine dv (gyes_some rfl rfl) (q_indexArr (i := 1) Try.underlying28 Try.sizeOf27 rfl rfl (by first | decide | omega) (s22.rd (j := 3) rfl)) rfl (by decide) (cok2 trivial (cconst rfl)) ?_
          refine dv (gyes_some rfl rfl) (q_load (v := .int .u64 ((xb : Nat) : Int)) Try.isAgg27 rfl (s22.rd (j := 3) rfl) rfl) rfl (by decide) (cok1 trivial) ?_
          refine dv (gyes_some rfl rfl) (q_int rfl rfl rfl) rfl (by decide) (cok2 trivial trivial) ?_
          refine dv (gyes_some rfl rfl) (q_pt (v := .bool (decide ((((q : Nat) : Int) : Int) < ((xb : Nat) : Int)))) rfl rfl) rfl (by decide) (call_ok rfl) ?_
          refine dv (gyes_some rfl rfl) (OpQ.cast (v' := .bool false) (q_boolne Try.underlying4 rfl rfl) (congrArg Value.bool (by first | exact bne_eq_false_iff_eq.2 (decide_eq_decide.2 (by omega)) | (rw [decide_eq_false (by omega)]; rfl)))) rfl (by decide) (cok2 trivial trivial) ?_
          refine dv (gyes_none rfl) (q_pf (v := .bool false) rfl rfl) rfl (by decide) (call_ok rfl) ?_
          refine dv (gyes_none rfl) (q_mv (v := .bool false) rfl) rfl (by decide) (cok1 trivial) ?_
          refine dv (gyes_some rfl rfl) (q_loadAgg Try.isAgg30 Try.sizeOf30 rfl (s22.rd (j := 1) rfl) (Nat.le_of_ble_eq_true rfl) rfl) rfl (by decide) (cok1 trivial) ?_
          refine dv (gyes_some rfl rfl) (q_loadAgg Try.isAgg30 Try.sizeOf30 rfl (s22.rd (j := 0) rfl) (Nat.le_of_ble_eq_true rfl) rfl) rfl (by decide) (cok1 trivial) ?_
          refine dv (gyes_some rfl rfl) (q_call0 Try.call17 rfl (spmeets_ok (xa, xb) (ya, yb))) rfl (by decide) (call_ok rfl) ?_
          refine dv (gyes_some rfl rfl) (q_loadAgg Try.isAgg30 Try.sizeOf30 rfl (s22.rd (j := 0) rfl) (Nat.le_of_ble_eq_true rfl) rfl) rfl (by decide) (cok1 trivial) ?_
          refine dv (gyes_some rfl rfl) (q_loadAgg Try.isAgg30 Try.sizeOf30 rfl (s22.rd (j := 1) rfl) (Nat.le_of_ble_eq_true rfl) rfl) rfl (by decide) (cok1 trivial) ?_
          refine dv (gyes_some rfl rfl) (q_call0 Try.call17 rfl (spmeets_ok (ya, yb) (xa, xb))) rfl (by decide) (call_ok rfl) ?_
          refine dv (gyes_some rfl rfl) (OpQ.cast (v' := .bool false) (q_boolne Try.underlying4 rfl rfl) (congrArg Value.bool (by first | exact bne_eq_false_iff_eq.2 (decide_eq_decide.2 (by omega)) | (rw [decide_eq_false (by omega)]; rfl)))) rfl (by decide) (cok2 trivial trivial) ?_
          refine dv (gyes_none rfl) (q_pf (v := .bool false) rfl rfl) rfl (by decide) (call_ok rfl) ?_
          refine dv (gyes_none rfl) (q_mv (v := .bool false) rfl) rfl (by decide) (cok1 trivial) ?_
          refine dv (gyes_some rfl rfl) (q_loadAgg Try.isAgg30 Try.sizeOf30 rfl (s22.rd (j := 1) rfl) (Nat.le_of_ble_eq_true rfl) rfl) rfl (by decide) (cok1 trivial) ?_
          refine dv (gyes_some rfl rfl) (q_loadAgg Try.isAgg30 Try.sizeOf30 rfl (s22.rd (j := 1) rfl) (Nat.le_of_ble_eq_true rfl) rfl) rfl (by decide) (cok1 trivial) ?_
          refine dvb (gyes_some rfl rfl) (q_call0 Try.call18 rfl (spwithin_ok (xa, xb) (xa, xb))) rfl (by decide) (call_ok rfl) (fun c4 => ?_) (fun c4 => ?_)
          ·
            replace c4 := of_decide_eq_true c4
            refine dv (gyes_some rfl rfl) (q_not (b := true) rfl) rfl (by decide) (cok1 trivial) ?_
            refine dv (gyes_none rfl) (q_pf (v := .bool false) rfl rfl) rfl (by decide) (call_ok rfl) ?_
            refine ⟨_, Wk.refl _ _, ?_⟩
            show awp _ _ _ _ _ _ _
            refine awp_cond_f rfl ?_
            refine awp_skip_wk ?_
            exact ⟨_, Wk.U [(0, .agg #[.int .u64 ((xa : Nat) : Int), .int .u64 ((xb : Nat) : Int)]), (1, .agg #[.int .u64 ((ya : Nat) : Int), .int .u64 ((yb : Nat) : Int)]), (2, .int .u64 ((q : Nat) : Int)), (3, .pointer (some ⟨b1, 0, none⟩)), (4, .pointer (some ⟨b5, 0, none⟩)), (6, .bool false), (7, .pointer (some ⟨b9, 0, none⟩)), (8, .pointer (some ⟨b13, 0, none⟩))] ⟨rfl, rfl, rfl, rfl, rfl, rfl, rfl, rfl, trivial⟩, ⟨_, 0, rfl, s22⟩⟩
          ·
            replace c4 := of_decide_eq_false c4
            refine dv (gyes_some rfl rfl) (q_not (b := false) rfl) rfl (by decide) (cok1 trivial) ?_
            refine dv (gyes_none rfl) (q_pf (v := .bool true) rfl rfl) rfl (by decide) (call_ok rfl) ?_
            refine ⟨_, Wk.refl _ _, ?_⟩
            show awp _ _ _ _ _ _ _
            refine awp_cond_t rfl ?_
            refine awp_seq ?_
            refine awp_regs hF ?_
            refine dv (gyes_none rfl) (q_as (v := .bool false) rfl) rfl (by decide) (cok1 (cconst rfl)) ?_
            refine ⟨_, Wk.refl _ _, ?_⟩
            show awp _ _ _ _ _ _ _
            refine awp_ret_wk ?_
            exfalso; omega
        ·
          replace c3 := of_decide_eq_false c3
          refine dv (gyes_some rfl rfl) (q_mv (v := .bool false) rfl) rfl (by decide) (cok1 trivial) ?_
          refine dno rfl (.inl rfl) rfl (by decide) ?_
          refine dno rfl (.inl rfl) rfl (by decide) ?_
          refine dno rfl (.inl rfl) rfl (by decide) ?_
          refine dno rfl (.inl rfl) rfl (by decide) ?_
          refine dv (gyes_some rfl rfl) (q_pf (v := .bool false) rfl rfl) rfl (by decide) (call_ok rfl) ?_
          refine dv (gyes_some rfl rfl) (OpQ.cast (v' := .bool false) (q_boolne Try.underlying4 rfl rfl) (congrArg Value.bool (by first | exact bne_eq_false_iff_eq.2 (decide_eq_decide.2 (by omega)) | (rw [decide_eq_false (by omega)]; rfl)))) rfl (by decide) (cok2 trivial trivial) ?_
          refine dv (gyes_none rfl) (q_pf (v := .bool false) rfl rfl) rfl (by decide) (call_ok rfl) ?_
          refine dv (gyes_none rfl) (q_mv (v := .bool false) rfl) rfl (by decide) (cok1 trivial) ?_
          refine dv (gyes_some rfl rfl) (q_loadAgg Try.isAgg30 Try.sizeOf30 rfl (s22.rd (j := 1) rfl) (Nat.le_of_ble_eq_true rfl) rfl) rfl (by decide) (cok1 trivial) ?_
          refine dv (gyes_some rfl rfl) (q_loadAgg Try.isAgg30 Try.sizeOf30 rfl (s22.rd (j := 0) rfl) (Nat.le_of_ble_eq_true rfl) rfl) rfl (by decide) (cok1 trivial) ?_
          refine dv (gyes_some rfl rfl) (q_call0 Try.call17 rfl (spmeets_ok (xa, xb) (ya, yb))) rfl (by decide) (call_ok rfl) ?_
          refine dv (gyes_some rfl rfl) (q_loadAgg Try.isAgg30 Try.sizeOf30 rfl (s22.rd (j := 0) rfl) (Nat.le_of_ble_eq_true rfl) rfl) rfl (by decide) (cok1 trivial) ?_
          refine dv (gyes_some rfl rfl) (q_loadAgg Try.isAgg30 Try.sizeOf30 rfl (s22.rd (j := 1) rfl) (Nat.le_of_ble_eq_true rfl) rfl) rfl (by decide) (cok1 trivial) ?_
          refine dv (gyes_some rfl rfl) (q_call0 Try.call17 rfl (spmeets_ok (ya, yb) (xa, xb))) rfl (by decide) (call_ok rfl) ?_
          refine dv (gyes_some rfl rfl) (OpQ.cast (v' := .bool false) (q_boolne Try.underlying4 rfl rfl) (congrArg Value.bool (by first | exact bne_eq_false_iff_eq.2 (decide_eq_decide.2 (by omega)) | (rw [decide_eq_false (by omega)]; rfl)))) rfl (by decide) (cok2 trivial trivial) ?_
          refine dv (gyes_none rfl) (q_pf (v := .bool false) rfl rfl) rfl (by decide) (call_ok rfl) ?_
          refine dv (gyes_none rfl) (q_mv (v := .bool false) rfl) rfl (by decide) (cok1 trivial) ?_
          refine dv (gyes_some rfl rfl) (q_loadAgg Try.isAgg30 Try.sizeOf30 rfl (s22.rd (j := 1) rfl) (Nat.le_of_ble_eq_true rfl) rfl) rfl (by decide) (cok1 trivial) ?_
          refine dv (gyes_some rfl rfl) (q_loadAgg Try.isAgg30 Try.sizeOf30 rfl (s22.rd (j := 1) rfl) (Nat.le_of_ble_eq_true rfl) rfl) rfl (by decide) (cok1 trivial) ?_
          refine dvb (gyes_some rfl rfl) (q_call0 Try.call18 rfl (spwithin_ok (xa, xb) (xa, xb))) rfl (by decide) (call_ok rfl) (fun c5 => ?_) (fun c5 => ?_)
          ·
            replace c5 := of_decide_eq_true c5
            refine dv (gyes_some rfl rfl) (q_not (b := true) rfl) rfl (by decide) (cok1 trivial) ?_
            refine dv (gyes_none rfl) (q_pf (v := .bool false) rfl rfl) rfl (by decide) (call_ok rfl) ?_
            refine ⟨_, Wk.refl _ _, ?_⟩
            show awp _ _ _ _ _ _ _
            refine awp_cond_f rfl ?_
            refine awp_skip_wk ?_
            exact ⟨_, Wk.U [(0, .agg #[.int .u64 ((xa : Nat) : Int), .int .u64 ((xb : Nat) : Int)]), (1, .agg #[.int .u64 ((ya : Nat) : Int), .int .u64 ((yb : Nat) : Int)]), (2, .int .u64 ((q : Nat) : Int)), (3, .pointer (some ⟨b1, 0, none⟩)), (4, .pointer (some ⟨b5, 0, none⟩)), (6, .bool false), (7, .pointer (some ⟨b9, 0, none⟩)), (8, .pointer (some ⟨b13, 0, none⟩))] ⟨rfl, rfl, rfl, rfl, rfl, rfl, rfl, rfl, trivial⟩, ⟨_, 0, rfl, s22⟩⟩
          ·
            replace c5 := of_decide_eq_false c5
            refine dv (gyes_some rfl rfl) (q_not (b := false) rfl) rfl (by decide) (cok1 trivial) ?_
            refine dv (gyes_none rfl) (q_pf (v := .bool true) rfl rfl) rfl (by decide) (call_ok rfl) ?_
            refine ⟨_, Wk.refl _ _, ?_⟩
            show awp _ _ _ _ _ _ _
            refine awp_cond_t rfl ?_
            refine awp_seq ?_
            refine awp_regs hF ?_
            refine dv (gyes_none rfl) (q_as (v := .bool false) rfl) rfl (by decide) (cok1 (cconst rfl)) ?_
            refine ⟨_, Wk.refl _ _, ?_⟩
            show awp _ _ _ _ _ _ _
            refine awp_ret_wk ?_
            exfalso; omega
    case j2 =>
      rintro _ ⟨H23, z, rfl, s24⟩
      refine awp_join (fun st => ∃ (H25 : AHeap) (z : Nat), st = ⟨144, U [(0, .agg #[.int .u64 ((xa : Nat) : Int), .int .u64 ((xb : Nat) : Int)]), (1, .agg #[.int .u64 ((ya : Nat) : Int), .int .u64 ((yb : Nat) : Int)]), (2, .int .u64 ((q : Nat) : Int)), (3, .pointer (some ⟨b1, 0, none⟩)), (4, .pointer (some ⟨b5, 0, none⟩)), (6, .bool false), (7, .pointer (some ⟨b9, 0, none⟩)), (8, .pointer (some ⟨b13, 0, none⟩))], [], H25⟩ ∧ St H0 (none0) (Rd H0) H25 [(b13, .cells true [.int .u64 ((ya : Nat) : Int), .int .u64 ((yb : Nat) : Int)] 2), (b9, .cells true [.int .u64 ((xa : Nat) : Int), .int .u64 ((xb : Nat) : Int)] 2), (b5, .cells true [.int .u64 ((ya : Nat) : Int), .int .u64 ((yb : Nat) : Int)] 2), (b1, .cells true [.int .u64 ((xa : Nat) : Int), .int .u64 ((xb : Nat) : Int)] 2)] ∧ (¬ (xa ≤ q ∧ q < xb ∧ xb ≤ xa))) ?j1 ?j2
      case j1 =>
        refine awp_seq ?_
        refine awp_regs hF ?_
        refine dv (gyes_none rfl) (q_loadAgg Try.isAgg30 Try.sizeOf30 rfl (s24.rd (j := 1) rfl) (Nat.le_of_ble_eq_true rfl) rfl) rfl (by decide) (cok1 trivial) ?_
        refine dv (gyes_none rfl) (q_mv (v := .int .u64 ((q : Nat) : Int)) rfl) rfl (by decide) (cok1 trivial) ?_
        refine dvb (gyes_none rfl) (q_call0 Try.call16 rfl (sphas_ok (xa, xb) q)) rfl (by decide) (call_ok rfl) (fun c6 => ?_) (fun c6 => ?_)
        ·
          replace c6 := of_decide_eq_true c6
          refine dv (gyes_none rfl) (q_mv (v := .bool true) rfl) rfl (by decide) (cok1 trivial) ?_
          refine dv (gyes_some rfl rfl) (q_loadAgg Try.isAgg30 Try.sizeOf30 rfl (s24.rd (j := 0) rfl) (Nat.le_of_ble_eq_true rfl) rfl) rfl (by decide) (cok1 trivial) ?_
          refine dv (gyes_some rfl rfl) (q_mv (v := .int .u64 ((q : Nat) : Int)) rfl) rfl (by decide) (cok1 trivial) ?_
          refine dvb (gyes_some rfl rfl) (q_call0 Try.call16 rfl (sphas_ok (ya, yb) q)) rfl (by decide) (call_ok rfl) (fun c7 => ?_) (fun c7 => ?_)
          ·
            replace c7 := of_decide_eq_true c7
            refine dv (gyes_none rfl) (q_pt (v := .bool true) rfl rfl) rfl (by decide) (call_ok rfl) ?_
            refine dv (gyes_none rfl) (q_mv (v := .bool true) rfl) rfl (by decide) (cok1 trivial) ?_
            refine dv (gyes_some rfl rfl) (q_loadAgg Try.isAgg30 Try.sizeOf30 rfl (s24.rd (j := 1) rfl) (Nat.le_of_ble_eq_true rfl) rfl) rfl (by decide) (cok1 trivial) ?_
            refine dv (gyes_some rfl rfl) (q_loadAgg Try.isAgg30 Try.sizeOf30 rfl (s24.rd (j := 0) rfl) (Nat.le_of_ble_eq_true rfl) rfl) rfl (by decide) (cok1 trivial) ?_
            refine dvb (gyes_some rfl rfl) (q_call0 Try.call17 rfl (spmeets_ok (xa, xb) (ya, yb))) rfl (by decide) (call_ok rfl) (fun c8 => ?_) (fun c8 => ?_)
            ·
              replace c8 := of_decide_eq_true c8
              refine dv (gyes_some rfl rfl) (q_not (b := true) rfl) rfl (by decide) (cok1 trivial) ?_
              refine dv (gyes_none rfl) (q_pt (v := .bool false) rfl rfl) rfl (by decide) (call_ok rfl) ?_
              refine dv (gyes_none rfl) (q_mv (v := .bool false) rfl) rfl (by decide) (cok1 trivial) ?_
              refine dv (gyes_some rfl rfl) (q_loadAgg Try.isAgg30 Try.sizeOf30 rfl (s24.rd (j := 1) rfl) (Nat.le_of_ble_eq_true rfl) rfl) rfl (by decide) (cok1 trivial) ?_
              refine dv (gyes_some rfl rfl) (q_loadAgg Try.isAgg30 Try.sizeOf30 rfl (s24.rd (j := 0) rfl) (Nat.le_of_ble_eq_true rfl) rfl) rfl (by decide) (cok1 trivial) ?_
              refine dvb (gyes_some rfl rfl) (q_call0 Try.call18 rfl (spwithin_ok (xa, xb) (ya, yb))) rfl (by decide) (call_ok rfl) (fun c9 => ?_) (fun c9 => ?_)
              ·
                replace c9 := of_decide_eq_true c9
                refine dv (gyes_some rfl rfl) (q_mv (v := .bool true) rfl) rfl (by decide) (cok1 trivial) ?_
                refine dv (gyes_some rfl rfl) (q_loadAgg Try.isAgg30 Try.sizeOf30 rfl (s24.rd (j := 1) rfl) (Nat.le_of_ble_eq_true rfl) rfl) rfl (by decide) (cok1 trivial) ?_
                refine dv (gyes_some rfl rfl) (q_mv (v := .int .u64 ((q : Nat) : Int)) rfl) rfl (by decide) (cok1 trivial) ?_
                refine dvb (gyes_some rfl rfl) (q_call0 Try.call16 rfl (sphas_ok (xa, xb) q)) rfl (by decide) (call_ok rfl) (fun c10 => ?_) (fun c10 => ?_)
                ·
                  replace c10 := of_decide_eq_true c10
                  refine dv (gyes_some rfl rfl) (q_pt (v := .bool true) rfl rfl) rfl (by decide) (call_ok rfl) ?_
                  refine dv (gyes_some rfl rfl) (q_mv (v := .bool true) rfl) rfl (by decide) (cok1 trivial) ?_
                  refine dv (gyes_some rfl rfl) (q_loadAgg Try.isAgg30 Try.sizeOf30 rfl (s24.rd (j := 0) rfl) (Nat.le_of_ble_eq_true rfl) rfl) rfl (by decide) (cok1 trivial) ?_
                  refine dv (gyes_some rfl rfl) (q_mv (v := .int .u64 ((q : Nat) : Int)) rfl) rfl (by decide) (cok1 trivial) ?_
                  refine dvb (gyes_some rfl rfl) (q_call0 Try.call16 rfl (sphas_ok (ya, yb) q)) rfl (by decide) (call_ok rfl) (fun c11 => ?_) (fun c11 => ?_)
                  ·
                    replace c11 := of_decide_eq_true c11
                    refine dv (gyes_some rfl rfl) (q_not (b := true) rfl) rfl (by decide) (cok1 trivial) ?_
                    refine dv (gyes_some rfl rfl) (q_pt (v := .bool false) rfl rfl) rfl (by decide) (call_ok rfl) ?_
                    refine dv (gyes_none rfl) (q_pf (v := .bool false) rfl rfl) rfl (by decide) (call_ok rfl) ?_
                    refine ⟨_, Wk.refl _ _, ?_⟩
                    show awp _ _ _ _ _ _ _
                    refine awp_cond_f rfl ?_
                    refine awp_skip_wk ?_
                    exact ⟨_, Wk.U [(0, .agg #[.int .u64 ((xa : Nat) : Int), .int .u64 ((xb : Nat) : Int)]), (1, .agg #[.int .u64 ((ya : Nat) : Int), .int .u64 ((yb : Nat) : Int)]), (2, .int .u64 ((q : Nat) : Int)), (3, .pointer (some ⟨b1, 0, none⟩)), (4, .pointer (some ⟨b5, 0, none⟩)), (6, .bool false), (7, .pointer (some ⟨b9, 0, none⟩)), (8, .pointer (some ⟨b13, 0, none⟩))] ⟨rfl, rfl, rfl, rfl, rfl, rfl, rfl, rfl, trivial⟩, ⟨_, 0, rfl, s24, (by omega)⟩⟩
                  ·
                    replace c11 := of_decide_eq_false c11
                    refine dv (gyes_some rfl rfl) (q_not (b := false) rfl) rfl (by decide) (cok1 trivial) ?_
                    refine dv (gyes_some rfl rfl) (q_pt (v := .bool true) rfl rfl) rfl (by decide) (call_ok rfl) ?_
                    refine dv (gyes_none rfl) (q_pf (v := .bool true) rfl rfl) rfl (by decide) (call_ok rfl) ?_
                    refine ⟨_, Wk.refl _ _, ?_⟩
                    show awp _ _ _ _ _ _ _
                    refine awp_cond_t rfl ?_
                    refine awp_seq ?_
                    refine awp_regs hF ?_
                    refine dv (gyes_none rfl) (q_as (v := .bool false) rfl) rfl (by decide) (cok1 (cconst rfl)) ?_
                    refine ⟨_, Wk.refl _ _, ?_⟩
                    show awp _ _ _ _ _ _ _
                    refine awp_ret_wk ?_
                    exfalso; omega
                ·
                  replace c10 := of_decide_eq_false c10
                  refine dv (gyes_some rfl rfl) (q_pt (v := .bool false) rfl rfl) rfl (by decide) (call_ok rfl) ?_
                  refine dv (gyes_some rfl rfl) (q_mv (v := .bool false) rfl) rfl (by decide) (cok1 trivial) ?_
                  refine dno rfl (.inl rfl) rfl (by decide) ?_
                  refine dno rfl (.inl rfl) rfl (by decide) ?_
                  refine dno rfl (.inl rfl) rfl (by decide) ?_
                  refine dno rfl (.inl rfl) rfl (by decide) ?_
                  refine dv (gyes_some rfl rfl) (q_pf (v := .bool false) rfl rfl) rfl (by decide) (call_ok rfl) ?_
                  refine dv (gyes_none rfl) (q_pf (v := .bool false) rfl rfl) rfl (by decide) (call_ok rfl) ?_
                  refine ⟨_, Wk.refl _ _, ?_⟩
                  show awp _ _ _ _ _ _ _
                  refine awp_cond_f rfl ?_
                  refine awp_skip_wk ?_
                  exact ⟨_, Wk.U [(0, .agg #[.int .u64 ((xa : Nat) : Int), .int .u64 ((xb : Nat) : Int)]), (1, .agg #[.int .u64 ((ya : Nat) : Int), .int .u64 ((yb : Nat) : Int)]), (2, .int .u64 ((q : Nat) : Int)), (3, .pointer (some ⟨b1, 0, none⟩)), (4, .pointer (some ⟨b5, 0, none⟩)), (6, .bool false), (7, .pointer (some ⟨b9, 0, none⟩)), (8, .pointer (some ⟨b13, 0, none⟩))] ⟨rfl, rfl, rfl, rfl, rfl, rfl, rfl, rfl, trivial⟩, ⟨_, 0, rfl, s24, (by omega)⟩⟩
              ·
                replace c9 := of_decide_eq_false c9
                refine dv (gyes_some rfl rfl) (q_mv (v := .bool false) rfl) rfl (by decide) (cok1 trivial) ?_
                refine dno rfl (.inl rfl) rfl (by decide) ?_
                refine dno rfl (.inl rfl) rfl (by decide) ?_
                refine dno rfl (.inl rfl) rfl (by decide) ?_
                refine dv (gyes_some rfl rfl) (q_pf (v := .bool false) rfl rfl) rfl (by decide) (call_ok rfl) ?_
                refine dv (gyes_some rfl rfl) (q_mv (v := .bool false) rfl) rfl (by decide) (cok1 trivial) ?_
                refine dno rfl (.inl rfl) rfl (by decide) ?_
                refine dno rfl (.inl rfl) rfl (by decide) ?_
                refine dno rfl (.inl rfl) rfl (by decide) ?_
                refine dno rfl (.inl rfl) rfl (by decide) ?_
                refine dv (gyes_some rfl rfl) (q_pf (v := .bool false) rfl rfl) rfl (by decide) (call_ok rfl) ?_
                refine dv (gyes_none rfl) (q_pf (v := .bool false) rfl rfl) rfl (by decide) (call_ok rfl) ?_
                refine ⟨_, Wk.refl _ _, ?_⟩
                show awp _ _ _ _ _ _ _
                refine awp_cond_f rfl ?_
                refine awp_skip_wk ?_
                exact ⟨_, Wk.U [(0, .agg #[.int .u64 ((xa : Nat) : Int), .int .u64 ((xb : Nat) : Int)]), (1, .agg #[.int .u64 ((ya : Nat) : Int), .int .u64 ((yb : Nat) : Int)]), (2, .int .u64 ((q : Nat) : Int)), (3, .pointer (some ⟨b1, 0, none⟩)), (4, .pointer (some ⟨b5, 0, none⟩)), (6, .bool false), (7, .pointer (some ⟨b9, 0, none⟩)), (8, .pointer (some ⟨b13, 0, none⟩))] ⟨rfl, rfl, rfl, rfl, rfl, rfl, rfl, rfl, trivial⟩, ⟨_, 0, rfl, s24, (by omega)⟩⟩
            ·
              replace c8 := of_decide_eq_false c8
              refine dv (gyes_some rfl rfl) (q_not (b := false) rfl) rfl (by decide) (cok1 trivial) ?_
              refine dv (gyes_none rfl) (q_pt (v := .bool true) rfl rfl) rfl (by decide) (call_ok rfl) ?_
              refine dv (gyes_none rfl) (q_mv (v := .bool true) rfl) rfl (by decide) (cok1 trivial) ?_
              refine dno rfl (.inl rfl) rfl (by decide) ?_
              refine dno rfl (.inl rfl) rfl (by decide) ?_
              refine dno rfl (.inl rfl) rfl (by decide) ?_
              refine dno rfl (.inl rfl) rfl (by decide) ?_
              refine dno rfl (.inr rfl) rfl (by decide) ?_
              refine dno rfl (.inr rfl) rfl (by decide) ?_
              refine dno rfl (.inr rfl) rfl (by decide) ?_
              refine dno rfl (.inl rfl) rfl (by decide) ?_
              refine dno rfl (.inl rfl) rfl (by decide) ?_
              refine dno rfl (.inr rfl) rfl (by decide) ?_
              refine dno rfl (.inr rfl) rfl (by decide) ?_
              refine dno rfl (.inr rfl) rfl (by decide) ?_
              refine dno rfl (.inr rfl) rfl (by decide) ?_
              refine dno rfl (.inl rfl) rfl (by decide) ?_
              refine dv (gyes_none rfl) (q_pt (v := .bool true) rfl rfl) rfl (by decide) (call_ok rfl) ?_
              refine ⟨_, Wk.refl _ _, ?_⟩
              show awp _ _ _ _ _ _ _
              refine awp_cond_t rfl ?_
              refine awp_seq ?_
              refine awp_regs hF ?_
              refine dv (gyes_none rfl) (q_as (v := .bool false) rfl) rfl (by decide) (cok1 (cconst rfl)) ?_
              refine ⟨_, Wk.refl _ _, ?_⟩
              show awp _ _ _ _ _ _ _
              refine awp_ret_wk ?_
              exfalso; omega
          ·
            replace c7 := of_decide_eq_false c7
            refine dv (gyes_none rfl) (q_pt (v := .bool false) rfl rfl) rfl (by decide) (call_ok rfl) ?_
            refine dv (gyes_none rfl) (q_mv (v := .bool false) rfl) rfl (by decide) (cok1 trivial) ?_
            refine dno rfl (.inl rfl) rfl (by decide) ?_
            refine dno rfl (.inl rfl) rfl (by decide) ?_
            refine dno rfl (.inl rfl) rfl (by decide) ?_
            refine dno rfl (.inl rfl) rfl (by decide) ?_
            refine dv (gyes_none rfl) (q_pf (v := .bool false) rfl rfl) rfl (by decide) (call_ok rfl) ?_
            refine dv (gyes_none rfl) (q_mv (v := .bool false) rfl) rfl (by decide) (cok1 trivial) ?_
            refine dv (gyes_some rfl rfl) (q_loadAgg Try.isAgg30 Try.sizeOf30 rfl (s24.rd (j := 1) rfl) (Nat.le_of_ble_eq_true rfl) rfl) rfl (by decide) (cok1 trivial) ?_
            refine dv (gyes_some rfl rfl) (q_loadAgg Try.isAgg30 Try.sizeOf30 rfl (s24.rd (j := 0) rfl) (Nat.le_of_ble_eq_true rfl) rfl) rfl (by decide) (cok1 trivial) ?_
            refine dvb (gyes_some rfl rfl) (q_call0 Try.call18 rfl (spwithin_ok (xa, xb) (ya, yb))) rfl (by decide) (call_ok rfl) (fun c12 => ?_) (fun c12 => ?_)
            ·
              replace c12 := of_decide_eq_true c12
              refine dv (gyes_some rfl rfl) (q_mv (v := .bool true) rfl) rfl (by decide) (cok1 trivial) ?_
              refine dv (gyes_some rfl rfl) (q_loadAgg Try.isAgg30 Try.sizeOf30 rfl (s24.rd (j := 1) rfl) (Nat.le_of_ble_eq_true rfl) rfl) rfl (by decide) (cok1 trivial) ?_
              refine dv (gyes_some rfl rfl) (q_mv (v := .int .u64 ((q : Nat) : Int)) rfl) rfl (by decide) (cok1 trivial) ?_
              refine dvb (gyes_some rfl rfl) (q_call0 Try.call16 rfl (sphas_ok (xa, xb) q)) rfl (by decide) (call_ok rfl) (fun c13 => ?_) (fun c13 => ?_)
              ·
                replace c13 := of_decide_eq_true c13
                refine dv (gyes_some rfl rfl) (q_pt (v := .bool true) rfl rfl) rfl (by decide) (call_ok rfl) ?_
                refine dv (gyes_some rfl rfl) (q_mv (v := .bool true) rfl) rfl (by decide) (cok1 trivial) ?_
                refine dv (gyes_some rfl rfl) (q_loadAgg Try.isAgg30 Try.sizeOf30 rfl (s24.rd (j := 0) rfl) (Nat.le_of_ble_eq_true rfl) rfl) rfl (by decide) (cok1 trivial) ?_
                refine dv (gyes_some rfl rfl) (q_mv (v := .int .u64 ((q : Nat) : Int)) rfl) rfl (by decide) (cok1 trivial) ?_
                refine dvb (gyes_some rfl rfl) (q_call0 Try.call16 rfl (sphas_ok (ya, yb) q)) rfl (by decide) (call_ok rfl) (fun c14 => ?_) (fun c14 => ?_)
                ·
                  replace c14 := of_decide_eq_true c14
                  refine dv (gyes_some rfl rfl) (q_not (b := true) rfl) rfl (by decide) (cok1 trivial) ?_
                  refine dv (gyes_some rfl rfl) (q_pt (v := .bool false) rfl rfl) rfl (by decide) (call_ok rfl) ?_
                  refine dv (gyes_none rfl) (q_pf (v := .bool false) rfl rfl) rfl (by decide) (call_ok rfl) ?_
                  refine ⟨_, Wk.refl _ _, ?_⟩
                  show awp _ _ _ _ _ _ _
                  refine awp_cond_f rfl ?_
                  refine awp_skip_wk ?_
                  exact ⟨_, Wk.U [(0, .agg #[.int .u64 ((xa : Nat) : Int), .int .u64 ((xb : Nat) : Int)]), (1, .agg #[.int .u64 ((ya : Nat) : Int), .int .u64 ((yb : Nat) : Int)]), (2, .int .u64 ((q : Nat) : Int)), (3, .pointer (some ⟨b1, 0, none⟩)), (4, .pointer (some ⟨b5, 0, none⟩)), (6, .bool false), (7, .pointer (some ⟨b9, 0, none⟩)), (8, .pointer (some ⟨b13, 0, none⟩))] ⟨rfl, rfl, rfl, rfl, rfl, rfl, rfl, rfl, trivial⟩, ⟨_, 0, rfl, s24, (by omega)⟩⟩
                ·
                  replace c14 := of_decide_eq_false c14
                  refine dv (gyes_some rfl rfl) (q_not (b := false) rfl) rfl (by decide) (cok1 trivial) ?_
                  refine dv (gyes_some rfl rfl) (q_pt (v := .bool true) rfl rfl) rfl (by decide) (call_ok rfl) ?_
                  refine dv (gyes_none rfl) (q_pf (v := .bool true) rfl rfl) rfl (by decide) (call_ok rfl) ?_
                  refine ⟨_, Wk.refl _ _, ?_⟩
                  show awp _ _ _ _ _ _ _
                  refine awp_cond_t rfl ?_
                  refine awp_seq ?_
                  refine awp_regs hF ?_
                  refine dv (gyes_none rfl) (q_as (v := .bool false) rfl) rfl (by decide) (cok1 (cconst rfl)) ?_
                  refine ⟨_, Wk.refl _ _, ?_⟩
                  show awp _ _ _ _ _ _ _
                  refine awp_ret_wk ?_
                  exfalso; omega
              ·
                replace c13 := of_decide_eq_false c13
                refine dv (gyes_some rfl rfl) (q_pt (v := .bool false) rfl rfl) rfl (by decide) (call_ok rfl) ?_
                refine dv (gyes_some rfl rfl) (q_mv (v := .bool false) rfl) rfl (by decide) (cok1 trivial) ?_
                refine dno rfl (.inl rfl) rfl (by decide) ?_
                refine dno rfl (.inl rfl) rfl (by decide) ?_
                refine dno rfl (.inl rfl) rfl (by decide) ?_
                refine dno rfl (.inl rfl) rfl (by decide) ?_
                refine dv (gyes_some rfl rfl) (q_pf (v := .bool false) rfl rfl) rfl (by decide) (call_ok rfl) ?_
                refine dv (gyes_none rfl) (q_pf (v := .bool false) rfl rfl) rfl (by decide) (call_ok rfl) ?_
                refine ⟨_, Wk.refl _ _, ?_⟩
                show awp _ _ _ _ _ _ _
                refine awp_cond_f rfl ?_
                refine awp_skip_wk ?_
                exact ⟨_, Wk.U [(0, .agg #[.int .u64 ((xa : Nat) : Int), .int .u64 ((xb : Nat) : Int)]), (1, .agg #[.int .u64 ((ya : Nat) : Int), .int .u64 ((yb : Nat) : Int)]), (2, .int .u64 ((q : Nat) : Int)), (3, .pointer (some ⟨b1, 0, none⟩)), (4, .pointer (some ⟨b5, 0, none⟩)), (6, .bool false), (7, .pointer (some ⟨b9, 0, none⟩)), (8, .pointer (some ⟨b13, 0, none⟩))] ⟨rfl, rfl, rfl, rfl, rfl, rfl, rfl, rfl, trivial⟩, ⟨_, 0, rfl, s24, (by omega)⟩⟩
            ·
              replace c12 := of_decide_eq_false c12
              refine dv (gyes_some rfl rfl) (q_mv (v := .bool false) rfl) rfl (by decide) (cok1 trivial) ?_
              refine dno rfl (.inl rfl) rfl (by decide) ?_
              refine dno rfl (.inl rfl) rfl (by decide) ?_
              refine dno rfl (.inl rfl) rfl (by decide) ?_
              refine dv (gyes_some rfl rfl) (q_pf (v := .bool false) rfl rfl) rfl (by decide) (call_ok rfl) ?_
              refine dv (gyes_some rfl rfl) (q_mv (v := .bool false) rfl) rfl (by decide) (cok1 trivial) ?_
              refine dno rfl (.inl rfl) rfl (by decide) ?_
              refine dno rfl (.inl rfl) rfl (by decide) ?_
              refine dno rfl (.inl rfl) rfl (by decide) ?_
              refine dno rfl (.inl rfl) rfl (by decide) ?_
              refine dv (gyes_some rfl rfl) (q_pf (v := .bool false) rfl rfl) rfl (by decide) (call_ok rfl) ?_
              refine dv (gyes_none rfl) (q_pf (v := .bool false) rfl rfl) rfl (by decide) (call_ok rfl) ?_
              refine ⟨_, Wk.refl _ _, ?_⟩
              show awp _ _ _ _ _ _ _
              refine awp_cond_f rfl ?_
              refine awp_skip_wk ?_
              exact ⟨_, Wk.U [(0, .agg #[.int .u64 ((xa : Nat) : Int), .int .u64 ((xb : Nat) : Int)]), (1, .agg #[.int .u64 ((ya : Nat) : Int), .int .u64 ((yb : Nat) : Int)]), (2, .int .u64 ((q : Nat) : Int)), (3, .pointer (some ⟨b1, 0, none⟩)), (4, .pointer (some ⟨b5, 0, none⟩)), (6, .bool false), (7, .pointer (some ⟨b9, 0, none⟩)), (8, .pointer (some ⟨b13, 0, none⟩))] ⟨rfl, rfl, rfl, rfl, rfl, rfl, rfl, rfl, trivial⟩, ⟨_, 0, rfl, s24, (by omega)⟩⟩
        ·
          replace c6 := of_decide_eq_false c6
          refine dv (gyes_none rfl) (q_mv (v := .bool false) rfl) rfl (by decide) (cok1 trivial) ?_
          refine dno rfl (.inl rfl) rfl (by decide) ?_
          refine dno rfl (.inl rfl) rfl (by decide) ?_
          refine dno rfl (.inl rfl) rfl (by decide) ?_
          refine dv (gyes_none rfl) (q_pf (v := .bool false) rfl rfl) rfl (by decide) (call_ok rfl) ?_
          refine dv (gyes_none rfl) (q_mv (v := .bool false) rfl) rfl (by decide) (cok1 trivial) ?_
          refine dno rfl (.inl rfl) rfl (by decide) ?_
          refine dno rfl (.inl rfl) rfl (by decide) ?_
          refine dno rfl (.inl rfl) rfl (by decide) ?_
          refine dno rfl (.inl rfl) rfl (by decide) ?_
          refine dv (gyes_none rfl) (q_pf (v := .bool false) rfl rfl) rfl (by decide) (call_ok rfl) ?_
          refine dv (gyes_none rfl) (q_mv (v := .bool false) rfl) rfl (by decide) (cok1 trivial) ?_
          refine dv (gyes_some rfl rfl) (q_loadAgg Try.isAgg30 Try.sizeOf30 rfl (s24.rd (j := 1) rfl) (Nat.le_of_ble_eq_true rfl) rfl) rfl (by decide) (cok1 trivial) ?_
          refine dv (gyes_some rfl rfl) (q_loadAgg Try.isAgg30 Try.sizeOf30 rfl (s24.rd (j := 0) rfl) (Nat.le_of_ble_eq_true rfl) rfl) rfl (by decide) (cok1 trivial) ?_
          refine dvb (gyes_some rfl rfl) (q_call0 Try.call18 rfl (spwithin_ok (xa, xb) (ya, yb))) rfl (by decide) (call_ok rfl) (fun c15 => ?_) (fun c15 => ?_)
          ·
            replace c15 := of_decide_eq_true c15
            refine dv (gyes_some rfl rfl) (q_mv (v := .bool true) rfl) rfl (by decide) (cok1 trivial) ?_
            refine dv (gyes_some rfl rfl) (q_loadAgg Try.isAgg30 Try.sizeOf30 rfl (s24.rd (j := 1) rfl) (Nat.le_of_ble_eq_true rfl) rfl) rfl (by decide) (cok1 trivial) ?_
            refine dv (gyes_some rfl rfl) (q_mv (v := .int .u64 ((q : Nat) : Int)) rfl) rfl (by decide) (cok1 trivial) ?_
            refine dvb (gyes_some rfl rfl) (q_call0 Try.call16 rfl (sphas_ok (xa, xb) q)) rfl (by decide) (call_ok rfl) (fun c16 => ?_) (fun c16 => ?_)
            ·
              replace c16 := of_decide_eq_true c16
              refine dv (gyes_some rfl rfl) (q_pt (v := .bool true) rfl rfl) rfl (by decide) (call_ok rfl) ?_
              refine dv (gyes_some rfl rfl) (q_mv (v := .bool true) rfl) rfl (by decide) (cok1 trivial) ?_
              refine dv (gyes_some rfl rfl) (q_loadAgg Try.isAgg30 Try.sizeOf30 rfl (s24.rd (j := 0) rfl) (Nat.le_of_ble_eq_true rfl) rfl) rfl (by decide) (cok1 trivial) ?_
              refine dv (gyes_some rfl rfl) (q_mv (v := .int .u64 ((q : Nat) : Int)) rfl) rfl (by decide) (cok1 trivial) ?_
              refine dvb (gyes_some rfl rfl) (q_call0 Try.call16 rfl (sphas_ok (ya, yb) q)) rfl (by decide) (call_ok rfl) (fun c17 => ?_) (fun c17 => ?_)
              ·
                replace c17 := of_decide_eq_true c17
                refine dv (gyes_some rfl rfl) (q_not (b := true) rfl) rfl (by decide) (cok1 trivial) ?_
                refine dv (gyes_some rfl rfl) (q_pt (v := .bool false) rfl rfl) rfl (by decide) (call_ok rfl) ?_
                refine dv (gyes_none rfl) (q_pf (v := .bool false) rfl rfl) rfl (by decide) (call_ok rfl) ?_
                refine ⟨_, Wk.refl _ _, ?_⟩
                show awp _ _ _ _ _ _ _
                refine awp_cond_f rfl ?_
                refine awp_skip_wk ?_
                exact ⟨_, Wk.U [(0, .agg #[.int .u64 ((xa : Nat) : Int), .int .u64 ((xb : Nat) : Int)]), (1, .agg #[.int .u64 ((ya : Nat) : Int), .int .u64 ((yb : Nat) : Int)]), (2, .int .u64 ((q : Nat) : Int)), (3, .pointer (some ⟨b1, 0, none⟩)), (4, .pointer (some ⟨b5, 0, none⟩)), (6, .bool false), (7, .pointer (some ⟨b9, 0, none⟩)), (8, .pointer (some ⟨b13, 0, none⟩))] ⟨rfl, rfl, rfl, rfl, rfl, rfl, rfl, rfl, trivial⟩, ⟨_, 0, rfl, s24, (by omega)⟩⟩
              ·
                replace c17 := of_decide_eq_false c17
                refine dv (gyes_some rfl rfl) (q_not (b := false) rfl) rfl (by decide) (cok1 trivial) ?_
                refine dv (gyes_some rfl rfl) (q_pt (v := .bool true) rfl rfl) rfl (by decide) (call_ok rfl) ?_
                refine dv (gyes_none rfl) (q_pf (v := .bool true) rfl rfl) rfl (by decide) (call_ok rfl) ?_
                refine ⟨_, Wk.refl _ _, ?_⟩
                show awp _ _ _ _ _ _ _
                refine awp_cond_t rfl ?_
                refine awp_seq ?_
                refine awp_regs hF ?_
                refine dv (gyes_none rfl) (q_as (v := .bool false) rfl) rfl (by decide) (cok1 (cconst rfl)) ?_
                refine ⟨_, Wk.refl _ _, ?_⟩
                show awp _ _ _ _ _ _ _
                refine awp_ret_wk ?_
                exfalso; omega
            ·
              replace c16 := of_decide_eq_false c16
              refine dv (gyes_some rfl rfl) (q_pt (v := .bool false) rfl rfl) rfl (by decide) (call_ok rfl) ?_
              refine dv (gyes_some rfl rfl) (q_mv (v := .bool false) rfl) rfl (by decide) (cok1 trivial) ?_
              refine dno rfl (.inl rfl) rfl (by decide) ?_
              refine dno rfl (.inl rfl) rfl (by decide) ?_
              refine dno rfl (.inl rfl) rfl (by decide) ?_
              refine dno rfl (.inl rfl) rfl (by decide) ?_
              refine dv (gyes_some rfl rfl) (q_pf (v := .bool false) rfl rfl) rfl (by decide) (call_ok rfl) ?_
              refine dv (gyes_none rfl) (q_pf (v := .bool false) rfl rfl) rfl (by decide) (call_ok rfl) ?_
              refine ⟨_, Wk.refl _ _, ?_⟩
              show awp _ _ _ _ _ _ _
              refine awp_cond_f rfl ?_
              refine awp_skip_wk ?_
              exact ⟨_, Wk.U [(0, .agg #[.int .u64 ((xa : Nat) : Int), .int .u64 ((xb : Nat) : Int)]), (1, .agg #[.int .u64 ((ya : Nat) : Int), .int .u64 ((yb : Nat) : Int)]), (2, .int .u64 ((q : Nat) : Int)), (3, .pointer (some ⟨b1, 0, none⟩)), (4, .pointer (some ⟨b5, 0, none⟩)), (6, .bool false), (7, .pointer (some ⟨b9, 0, none⟩)), (8, .pointer (some ⟨b13, 0, none⟩))] ⟨rfl, rfl, rfl, rfl, rfl, rfl, rfl, rfl, trivial⟩, ⟨_, 0, rfl, s24, (by omega)⟩⟩
          ·
            replace c15 := of_decide_eq_false c15
            refine dv (gyes_some rfl rfl) (q_mv (v := .bool false) rfl) rfl (by decide) (cok1 trivial) ?_
            refine dno rfl (.inl rfl) rfl (by decide) ?_
            refine dno rfl (.inl rfl) rfl (by decide) ?_
            refine dno rfl (.inl rfl) rfl (by decide) ?_
            refine dv (gyes_some rfl rfl) (q_pf (v := .bool false) rfl rfl) rfl (by decide) (call_ok rfl) ?_
            refine dv (gyes_some rfl rfl) (q_mv (v := .bool false) rfl) rfl (by decide) (cok1 trivial) ?_
            refine dno rfl (.inl rfl) rfl (by decide) ?_
            refine dno rfl (.inl rfl) rfl (by decide) ?_
            refine dno rfl (.inl rfl) rfl (by decide) ?_
            refine dno rfl (.inl rfl) rfl (by decide) ?_
            refine dv (gyes_some rfl rfl) (q_pf (v := .bool false) rfl rfl) rfl (by decide) (call_ok rfl) ?_
            refine dv (gyes_none rfl) (q_pf (v := .bool false) rfl rfl) rfl (by decide) (call_ok rfl) ?_
            refine ⟨_, Wk.refl _ _, ?_⟩
            show awp _ _ _ _ _ _ _
            refine awp_cond_f rfl ?_
            refine awp_skip_wk ?_
            exact ⟨_, Wk.U [(0, .agg #[.int .u64 ((xa : Nat) : Int), .int .u64 ((xb : Nat) : Int)]), (1, .agg #[.int .u64 ((ya : Nat) : Int), .int .u64 ((yb : Nat) : Int)]), (2, .int .u64 ((q : Nat) : Int)), (3, .pointer (some ⟨b1, 0, none⟩)), (4, .pointer (some ⟨b5, 0, none⟩)), (6, .bool false), (7, .pointer (some ⟨b9, 0, none⟩)), (8, .pointer (some ⟨b13, 0, none⟩))] ⟨rfl, rfl, rfl, rfl, rfl, rfl, rfl, rfl, trivial⟩, ⟨_, 0, rfl, s24, (by omega)⟩⟩
      case j2 =>
        rintro _ ⟨H25, z, rfl, s26, hz⟩
        refine awp_seq ?_
        refine awp_regt hF hM (by kernel_rfl) (by kernel_rfl) ?_
        refine dv (gyes_none rfl) (q_indexArr (i := 0) Try.underlying28 Try.sizeOf27 rfl rfl (by first | decide | omega) (s26.rd (j := 3) rfl)) rfl (by decide) (cok2 trivial (cconst rfl)) ?_
        refine dv (gyes_none rfl) (q_load (v := .int .u64 ((xa : Nat) : Int)) Try.isAgg27 rfl (s26.rd (j := 3) rfl) rfl) rfl (by decide) (cok1 trivial) ?_
        refine dv (gyes_none rfl) (q_indexArr (i := 0) Try.underlying28 Try.sizeOf27 rfl rfl (by first | decide | omega) (s26.rd (j := 2) rfl)) rfl (by decide) (cok2 trivial (cconst rfl)) ?_
        refine dv (gyes_none rfl) (q_load (v := .int .u64 ((ya : Nat) : Int)) Try.isAgg27 rfl (s26.rd (j := 2) rfl) rfl) rfl (by decide) (cok1 trivial) ?_
        refine dv (gyes_none rfl) (OpQ.cast (v' := .int .u64 ((max xa ya : Nat) : Int)) (q_max rfl rfl) (by congr 1; split <;> omega)) rfl (by decide) (cok2 trivial trivial) ?_
        refine dv (gyes_none rfl) (q_indexArr (i := 1) Try.underlying28 Try.sizeOf27 rfl rfl (by first | decide | omega) (s26.rd (j := 3) rfl)) rfl (by decide) (cok2 trivial (cconst rfl)) ?_
        refine dv (gyes_none rfl) (q_load (v := .int .u64 ((xb : Nat) : Int)) Try.isAgg27 rfl (s26.rd (j := 3) rfl) rfl) rfl (by decide) (cok1 trivial) ?_
        refine dv (gyes_none rfl) (q_indexArr (i := 1) Try.underlying28 Try.sizeOf27 rfl rfl (by first | decide | omega) (s26.rd (j := 2) rfl)) rfl (by decide) (cok2 trivial (cconst rfl)) ?_
        refine dv (gyes_none rfl) (q_load (v := .int .u64 ((yb : Nat) : Int)) Try.isAgg27 rfl (s26.rd (j := 2) rfl) rfl) rfl (by decide) (cok1 trivial) ?_
        refine dv (gyes_none rfl) (OpQ.cast (v' := .int .u64 ((min xb yb : Nat) : Int)) (q_min rfl rfl) (by congr 1; split <;> omega)) rfl (by decide) (cok2 trivial trivial) ?_
        refine dv (gyes_none rfl) (q_as (v := .int .u64 ((max xa ya : Nat) : Int)) rfl) rfl (by decide) (cok1 trivial) ?_
        refine dv (gyes_none rfl) (q_as (v := .int .u64 ((min xb yb : Nat) : Int)) rfl) rfl (by decide) (cok1 trivial) ?_
        refine ⟨_, Wk.refl _ _, ?_⟩
        show awp _ _ _ _ _ _ _
        refine awp_seq ?_
        refine awp_regs hF ?_
        refine dv (gyes_none rfl) (q_loadAgg Try.isAgg30 Try.sizeOf30 rfl (s26.rd (j := 1) rfl) (Nat.le_of_ble_eq_true rfl) rfl) rfl (by decide) (cok1 trivial) ?_
        refine dv (gyes_none rfl) (q_loadAgg Try.isAgg30 Try.sizeOf30 rfl (s26.rd (j := 0) rfl) (Nat.le_of_ble_eq_true rfl) rfl) rfl (by decide) (cok1 trivial) ?_
        refine dv (gyes_none rfl) (q_call0 Try.call17 rfl (spmeets_ok (xa, xb) (ya, yb))) rfl (by decide) (call_ok rfl) ?_
        refine dv (gyes_none rfl) (q_mv (v := .int .u64 ((max xa ya : Nat) : Int)) rfl) rfl (by decide) (cok1 trivial) ?_
        refine dv (gyes_none rfl) (q_mv (v := .int .u64 ((min xb yb : Nat) : Int)) rfl) rfl (by decide) (cok1 trivial) ?_
        refine dv (gyes_none rfl) (q_int rfl rfl rfl) rfl (by decide) (cok2 trivial trivial) ?_
        refine dv (gyes_none rfl) (OpQ.cast (v' := .bool true) (q_booleq Try.underlying4 rfl rfl) (congrArg Value.bool (beq_iff_eq.2 (decide_eq_decide.2 (by omega))))) rfl (by decide) (cok2 trivial trivial) ?_
        refine dv (gyes_none rfl) (q_mv (v := .bool true) rfl) rfl (by decide) (cok1 trivial) ?_
        refine dv (gyes_some rfl rfl) (q_loadAgg Try.isAgg30 Try.sizeOf30 rfl (s26.rd (j := 1) rfl) (Nat.le_of_ble_eq_true rfl) rfl) rfl (by decide) (cok1 trivial) ?_
        refine dv (gyes_some rfl rfl) (q_loadAgg Try.isAgg30 Try.sizeOf30 rfl (s26.rd (j := 0) rfl) (Nat.le_of_ble_eq_true rfl) rfl) rfl (by decide) (cok1 trivial) ?_
        refine dvb (gyes_some rfl rfl) (q_call0 Try.call17 rfl (spmeets_ok (xa, xb) (ya, yb))) rfl (by decide) (call_ok rfl) (fun c18 => ?_) (fun c18 => ?_)
        ·
          replace c18 := of_decide_eq_true c18
          refine dv (gyes_some rfl rfl) (q_not (b := true) rfl) rfl (by decide) (cok1 trivial) ?_
          refine dv (gyes_some rfl rfl) (q_mv (v := .bool false) rfl) rfl (by decide) (cok1 trivial) ?_
          refine dv (gyes_some rfl rfl) (q_loadAgg Try.isAgg30 Try.sizeOf30 rfl (s26.rd (j := 1) rfl) (Nat.le_of_ble_eq_true rfl) rfl) rfl (by decide) (cok1 trivial) ?_
          refine dv (gyes_some rfl rfl) (q_mv (v := .int .u64 ((max xa ya : Nat) : Int)) rfl) rfl (by decide) (cok1 trivial) ?_
          refine dvb (gyes_some rfl rfl) (q_call0 Try.call16 rfl (sphas_ok (xa, xb) (max xa ya))) rfl (by decide) (call_ok rfl) (fun c19 => ?_) (fun c19 => ?_)
          ·
            replace c19 := of_decide_eq_true c19
            refine dv (gyes_some rfl rfl) (q_mv (v := .bool true) rfl) rfl (by decide) (cok1 trivial) ?_
            refine dv (gyes_some rfl rfl) (q_loadAgg Try.isAgg30 Try.sizeOf30 rfl (s26.rd (j := 0) rfl) (Nat.le_of_ble_eq_true rfl) rfl) rfl (by decide) (cok1 trivial) ?_
            refine dv (gyes_some rfl rfl) (q_mv (v := .int .u64 ((max xa ya : Nat) : Int)) rfl) rfl (by decide) (cok1 trivial) ?_
            refine dvb (gyes_some rfl rfl) (q_call0 Try.call16 rfl (sphas_ok (ya, yb) (max xa ya))) rfl (by decide) (call_ok rfl) (fun c20 => ?_) (fun c20 => ?_)
            ·
              replace c20 := of_decide_eq_true c20
              refine dv (gyes_some rfl rfl) (q_pt (v := .bool true) rfl rfl) rfl (by decide) (call_ok rfl) ?_
              refine dv (gyes_some rfl rfl) (q_mv (v := .bool true) rfl) rfl (by decide) (cok1 trivial) ?_
              refine dv (gyes_some rfl rfl) (q_loadAgg Try.isAgg30 Try.sizeOf30 rfl (s26.rd (j := 1) rfl) (Nat.le_of_ble_eq_true rfl) rfl) rfl (by decide) (cok1 trivial) ?_
              refine dv (gyes_some rfl rfl) (q_mv (v := .int .u64 ((min xb yb : Nat) : Int)) rfl) rfl (by decide) (cok1 trivial) ?_
              refine dv (gyes_some rfl rfl) (OpQ.cast (v' := .int .u64 (((min xb yb) - 1 : Nat) : Int)) (q_int rfl rfl rfl) (congrArg _ ((u64_in (by omega)).trans (by omega)))) rfl (by decide) (cok2 trivial (cconst rfl)) ?_
              refine dvb (gyes_some rfl rfl) (q_call0 Try.call16 rfl (sphas_ok (xa, xb) ((min xb yb) - 1))) rfl (by decide) (call_ok rfl) (fun c21 => ?_) (fun c21 => ?_)
              ·
                replace c21 := of_decide_eq_true c21
                refine dv (gyes_some rfl rfl) (q_pt (v := .bool true) rfl rfl) rfl (by decide) (call_ok rfl) ?_
                refine dv (gyes_some rfl rfl) (q_mv (v := .bool true) rfl) rfl (by decide) (cok1 trivial) ?_
                refine dv (gyes_some rfl rfl) (q_loadAgg Try.isAgg30 Try.sizeOf30 rfl (s26.rd (j := 0) rfl) (Nat.le_of_ble_eq_true rfl) rfl) rfl (by decide) (cok1 trivial) ?_
                refine dv (gyes_some rfl rfl) (q_mv (v := .int .u64 ((min xb yb : Nat) : Int)) rfl) rfl (by decide) (cok1 trivial) ?_
                refine dv (gyes_some rfl rfl) (OpQ.cast (v' := .int .u64 (((min xb yb) - 1 : Nat) : Int)) (q_int rfl rfl rfl) (congrArg _ ((u64_in (by omega)).trans (by omega)))) rfl (by decide) (cok2 trivial (cconst rfl)) ?_
                refine dv (gyes_some rfl rfl) (q_call0 Try.call16 rfl (sphas_ok (ya, yb) ((min xb yb) - 1))) rfl (by decide) (call_ok rfl) ?_
                refine dv (gyes_some rfl rfl) (q_pt (v := .bool (decide (ya ≤ ((min xb yb) - 1) ∧ ((min xb yb) - 1) < yb))) rfl rfl) rfl (by decide) (call_ok rfl) ?_
                refine dv (gyes_some rfl rfl) (q_pf (v := .bool (decide (ya ≤ ((min xb yb) - 1) ∧ ((min xb yb) - 1) < yb))) rfl rfl) rfl (by decide) (call_ok rfl) ?_
                refine dv (gyes_none rfl) (q_pt (v := .bool (decide (ya ≤ ((min xb yb) - 1) ∧ ((min xb yb) - 1) < yb))) rfl rfl) rfl (by decide) (call_ok rfl) ?_
                refine dv (gyes_none rfl) (q_as (v := .bool (decide (ya ≤ ((min xb yb) - 1) ∧ ((min xb yb) - 1) < yb))) rfl) rfl (by decide) (cok1 trivial) ?_
                refine ⟨_, Wk.refl _ _, ?_⟩
                show awp _ _ _ _ _ _ _
                refine awp_ret_wk ?_
                refine ⟨_, Wk.refl _ _, ?_⟩
                repeat (with_reducible first | refine then_ret ?_ | refine blk_ret ?_ | refine then_exit ?_ | refine blk_exit ?_ | refine blk_exit' (by decide) ?_ | refine blk_normal ?_ | refine then_normal ?_ | refine retq_ret ?_ | refine retq_normal ?_ | refine ng_normal ?_ | refine ng_ret ?_ | refine ng_exit ?_)
                exact ret_none (v := .bool (decide (ya ≤ ((min xb yb) - 1) ∧ ((min xb yb) - 1) < yb))) rfl s26.kp (.tmp rfl .nil) rfl rfl ⟨congrArg Value.bool (decide_eq_true (by omega)), rfl⟩
              ·
                replace c21 := of_decide_eq_false c21
                refine dv (gyes_some rfl rfl) (q_pt (v := .bool false) rfl rfl) rfl (by decide) (call_ok rfl) ?_
                refine dv (gyes_some rfl rfl) (q_mv (v := .bool false) rfl) rfl (by decide) (cok1 trivial) ?_
                refine dno rfl (.inl rfl) rfl (by decide) ?_
                refine dno rfl (.inl rfl) rfl (by decide) ?_
                refine dno rfl (.inl rfl) rfl (by decide) ?_
                refine dno rfl (.inl rfl) rfl (by decide) ?_
                refine dv (gyes_some rfl rfl) (q_pf (v := .bool false) rfl rfl) rfl (by decide) (call_ok rfl) ?_
                refine dv (gyes_some rfl rfl) (q_pf (v := .bool false) rfl rfl) rfl (by decide) (call_ok rfl) ?_
                refine dv (gyes_none rfl) (q_pt (v := .bool false) rfl rfl) rfl (by decide) (call_ok rfl) ?_
                refine dv (gyes_none rfl) (q_as (v := .bool false) rfl) rfl (by decide) (cok1 trivial) ?_
                refine ⟨_, Wk.refl _ _, ?_⟩
                show awp _ _ _ _ _ _ _
                refine awp_ret_wk ?_
                exfalso; omega
            ·
              replace c20 := of_decide_eq_false c20
              refine dv (gyes_some rfl rfl) (q_pt (v := .bool false) rfl rfl) rfl (by decide) (call_ok rfl) ?_
              refine dv (gyes_some rfl rfl) (q_mv (v := .bool false) rfl) rfl (by decide) (cok1 trivial) ?_
              refine dno rfl (.inl rfl) rfl (by decide) ?_
              refine dno rfl (.inl rfl) rfl (by decide) ?_
              refine dno rfl (.inl rfl) rfl (by decide) ?_
              refine dno rfl (.inl rfl) rfl (by decide) ?_
              refine dv (gyes_some rfl rfl) (q_pf (v := .bool false) rfl rfl) rfl (by decide) (call_ok rfl) ?_
              refine dv (gyes_some rfl rfl) (q_mv (v := .bool false) rfl) rfl (by decide) (cok1 trivial) ?_
              refine dno rfl (.inl rfl) rfl (by decide) ?_
              refine dno rfl (.inl rfl) rfl (by decide) ?_
              refine dno rfl (.inl rfl) rfl (by decide) ?_
              refine dno rfl (.inl rfl) rfl (by decide) ?_
              refine dv (gyes_some rfl rfl) (q_pf (v := .bool false) rfl rfl) rfl (by decide) (call_ok rfl) ?_
              refine dv (gyes_some rfl rfl) (q_pf (v := .bool false) rfl rfl) rfl (by decide) (call_ok rfl) ?_
              refine dv (gyes_none rfl) (q_pt (v := .bool false) rfl rfl) rfl (by decide) (call_ok rfl) ?_
              refine dv (gyes_none rfl) (q_as (v := .bool false) rfl) rfl (by decide) (cok1 trivial) ?_
              refine ⟨_, Wk.refl _ _, ?_⟩
              show awp _ _ _ _ _ _ _
              refine awp_ret_wk ?_
              exfalso; omega
          ·
            replace c19 := of_decide_eq_false c19
            refine dv (gyes_some rfl rfl) (q_mv (v := .bool false) rfl) rfl (by decide) (cok1 trivial) ?_
            refine dno rfl (.inl rfl) rfl (by decide) ?_
            refine dno rfl (.inl rfl) rfl (by decide) ?_
            refine dno rfl (.inl rfl) rfl (by decide) ?_
            refine dv (gyes_some rfl rfl) (q_pf (v := .bool false) rfl rfl) rfl (by decide) (call_ok rfl) ?_
            refine dv (gyes_some rfl rfl) (q_mv (v := .bool false) rfl) rfl (by decide) (cok1 trivial) ?_
            refine dno rfl (.inl rfl) rfl (by decide) ?_
            refine dno rfl (.inl rfl) rfl (by decide) ?_
            refine dno rfl (.inl rfl) rfl (by decide) ?_
            refine dno rfl (.inl rfl) rfl (by decide) ?_
            refine dv (gyes_some rfl rfl) (q_pf (v := .bool false) rfl rfl) rfl (by decide) (call_ok rfl) ?_
            refine dv (gyes_some rfl rfl) (q_mv (v := .bool false) rfl) rfl (by decide) (cok1 trivial) ?_
            refine dno rfl (.inl rfl) rfl (by decide) ?_
            refine dno rfl (.inl rfl) rfl (by decide) ?_
            refine dno rfl (.inl rfl) rfl (by decide) ?_
            refine dno rfl (.inl rfl) rfl (by decide) ?_
            refine dv (gyes_some rfl rfl) (q_pf (v := .bool false) rfl rfl) rfl (by decide) (call_ok rfl) ?_
            refine dv (gyes_some rfl rfl) (q_pf (v := .bool false) rfl rfl) rfl (by decide) (call_ok rfl) ?_
            refine dv (gyes_none rfl) (q_pt (v := .bool false) rfl rfl) rfl (by decide) (call_ok rfl) ?_
            refine dv (gyes_none rfl) (q_as (v := .bool false) rfl) rfl (by decide) (cok1 trivial) ?_
            refine ⟨_, Wk.refl _ _, ?_⟩
            show awp _ _ _ _ _ _ _
            refine awp_ret_wk ?_
            exfalso; omega
        ·
          replace c18 := of_decide_eq_false c18
          refine dv (gyes_some rfl rfl) (q_not (b := false) rfl) rfl (by decide) (cok1 trivial) ?_
          refine dv (gyes_some rfl rfl) (q_mv (v := .bool true) rfl) rfl (by decide) (cok1 trivial) ?_
          refine dno rfl (.inl rfl) rfl (by decide) ?_
          refine dno rfl (.inl rfl) rfl (by decide) ?_
          refine dno rfl (.inl rfl) rfl (by decide) ?_
          refine dno rfl (.inl rfl) rfl (by decide) ?_
          refine dno rfl (.inr rfl) rfl (by decide) ?_
          refine dno rfl (.inr rfl) rfl (by decide) ?_
          refine dno rfl (.inr rfl) rfl (by decide) ?_
          refine dno rfl (.inl rfl) rfl (by decide) ?_
          refine dno rfl (.inl rfl) rfl (by decide) ?_
          refine dno rfl (.inr rfl) rfl (by decide) ?_
          refine dno rfl (.inr rfl) rfl (by decide) ?_
          refine dno rfl (.inr rfl) rfl (by decide) ?_
          refine dno rfl (.inr rfl) rfl (by decide) ?_
          refine dno rfl (.inl rfl) rfl (by decide) ?_
          refine dno rfl (.inl rfl) rfl (by decide) ?_
          refine dno rfl (.inr rfl) rfl (by decide) ?_
          refine dno rfl (.inr rfl) rfl (by decide) ?_
          refine dno rfl (.inr rfl) rfl (by decide) ?_
          refine dno rfl (.inr rfl) rfl (by decide) ?_
          refine dno rfl (.inl rfl) rfl (by decide) ?_
          refine dv (gyes_some rfl rfl) (q_pt (v := .bool true) rfl rfl) rfl (by decide) (call_ok rfl) ?_
          refine dv (gyes_none rfl) (q_pt (v := .bool true) rfl rfl) rfl (by decide) (call_ok rfl) ?_
          refine dv (gyes_none rfl) (q_as (v := .bool true) rfl) rfl (by decide) (cok1 trivial) ?_
          refine ⟨_, Wk.refl _ _, ?_⟩
          show awp _ _ _ _ _ _ _
          refine awp_ret_wk ?_
          refine ⟨_, Wk.refl _ _, ?_⟩
          repeat (with_reducible first | refine then_ret ?_ | refine blk_ret ?_ | refine then_exit ?_ | refine blk_exit ?_ | refine blk_exit' (by decide) ?_ | refine blk_normal ?_ | refine then_normal ?_ | refine retq_ret ?_ | refine retq_normal ?_ | refine ng_normal ?_ | refine ng_ret ?_ | refine ng_exit ?_)
          exact ret_none (v := .bool true) rfl s26.kp (.tmp rfl .nil) rfl rfl ⟨rfl, rfl⟩

end Go.Proofs.YtjgeheookgogaaaA

