/-
  Walks over abstract states: texts of one claim, merged.
-/
import Derived.Test.YtponfeigjmjbmaaM2
import Derived.Test.YtponfeigjmjbmaaProg
import Derived.KernelRfl
/-
  Walks of functions of the given program, and what they compute.
-/
namespace Go.Proofs.YtponfeigjmjbmaaA
set_option linter.unusedVariables false
open Go Go.RowKit Go.Shelf Go.Proofs
structure SEnv (H : AHeap) (d bn bk nb : Nat) (vN : Value) (names : List ByteArray) : Prop where
  rn : Off H [d] bn [vN] 1
  rk : Off H [d] bk [.int .i64 ((nb : Nat) : Int)] 1
  sl : SlZ strv (Off H [d]) vN names
  sz : ∀ x ∈ names, x.size ≤ 140737488355328
  n1 : 1 ≤ nb
  n2 : nb ≤ 256
theorem SEnv.kp {H H' : AHeap} {d bn bk nb : Nat} {vN : Value} {names : List ByteArray} (E : SEnv H d bn bk nb vN names) (k : Kp (· ∈ [d]) H H') : SEnv H' d bn bk nb vN names :=
  ⟨off_kp k _ _ _ E.rn, off_kp k _ _ _ E.rk, E.sl.off k, E.sz, E.n1, E.n2⟩
theorem SEnv.cmp {H : AHeap} {d bn bk nb : Nat} {vN : Value} {names : List ByteArray} (E : SEnv H d bn bk nb vN names) (x y : Nat) (hx : x < names.length) (hy : y < names.length) : ACalls Try.prog 23 [.int .i64 ((x : Nat) : Int), .int .i64 ((y : Nat) : Int), .pointer (some ⟨bn, 0, none⟩), .pointer (some ⟨bk, 0, none⟩)] H (Rets (.int .i64 (cmpN (gkey names nb x) (gkey names nb y))) H) :=
  order1_ok x y bn bk nb vN names hx hy E.sz E.n1 E.n2 E.sl.offsl E.rn.1 E.rk.1
theorem Sw.lt {a b : Nat} {l l' : List Nat} (h : Sw a b l l') {N : Nat} (hl : ∀ x ∈ l, x < N) : ∀ x ∈ l', x < N := fun x hx => hl x (h.perm.mem_iff.1 hx)
theorem lt_of_mem {l : List Nat} {N : Nat} (hl : ∀ x ∈ l, x < N) {k : Nat} (hk : k < l.length) : nth l k < N := hl _ (nthS_mem hk)
theorem St.turn1 {H0 : AHeap} {X : Nat → Prop} {Z : Rs} {H H' : AHeap} {F : List (Nat × AObj)} (h : St H0 X Z H F) {j b : Nat} {o o' : AObj} (hj : F[j]? = some (b, o)) (k : Kp (· ∈ [b]) H H') (h' : H'[b]? = some o') : St H0 X Z H' (F.set j (b, o')) := by
  have m9 : b ∈ F.map (·.1) := List.mem_map.2 ⟨_, List.mem_of_getElem? hj, rfl⟩
  refine h.turn k _ (by rw [keys_set hj]; exact h.nd) (fun p hp => ?_) (fun c hc => ?_)
  · rcases mem_set_cases hp with rfl | ⟨i, hi, hp⟩
    · exact .inr ⟨h', .inr m9⟩
    · exact .inl ⟨List.mem_of_getElem? hp, fun hm => h.ne hp hj hi (by simpa using hm)⟩
  · have hc : c = b := by simpa using hc
    rw [hc]; exact m9
set_option maxRecDepth 100000 in
set_option maxHeartbeats 4000000 in
theorem insertion_ok {H0 : AHeap} (n d bn bk nb : Nat) (vN : Value) (names : List ByteArray) (E : SEnv H0 d bn bk nb vN names) (l : List Nat) (hn : l.length = n) (hn2 : n ≤ 1000) (hd : H0[d]? = some (.cells true (l.map i64v) 1)) (hl : ∀ x ∈ l, x < names.length) (a b : Nat) (hab : a ≤ b) (hbn : b ≤ n) (hs : ∀ p q, a ≤ p → p < q → q < b → nth l p < nth l q) : ACalls Try.prog 51 [.slice (some ⟨d, 0, none⟩) n n, .int .i64 ((a : Nat) : Int), .int .i64 ((b : Nat) : Int), .func (.func 23) #[] #[.pointer (some ⟨bn, 0, none⟩), .pointer (some ⟨bk, 0, none⟩)]] H0 (fun v H' => v = .tuple #[] ∧ Kp (· ∈ [d]) H0 H' ∧ ∃ l', Sw a b l l' ∧ Srt (gkey names nb) l' a b ∧ H'[d]? = some (.cells true (l'.map i64v) 1)) := by
  have hF : Wd Fence.wide := .inl rfl
  have hM : Try.prog.follows .mixedOrders = true := by kernel_rfl
  have s0 : St H0 (· ∈ [d]) (Off H0 [d]) H0 [(d, .cells true (l.map i64v) 1)] := St.beginL [(d, .cells true (l.map i64v) 1)] (by simp) (allAt_mem ⟨hd, trivial⟩)
  refine acalls_st Try.func51 rfl Try.ntmps51 rfl ?_
  refine awp_seq ?_
  refine awp_regs hF ?_
  refine dv (gyes_none rfl) (q_mv (v := .int .i64 ((a : Nat) : Int)) rfl) rfl (by decide) (cok1 trivial) ?_
  refine dv (gyes_none rfl) (OpQ.cast (v' := .int .i64 ((a + 1 : Nat) : Int)) (q_int rfl rfl rfl) (congrArg _ ((i64_in (by omega)).trans (by first | rfl | omega | (push_cast; rfl))))) rfl (by decide) (cok2 trivial (cconst rfl)) ?_
  refine dv (gyes_none rfl) (q_as (v := .int .i64 ((a + 1 : Nat) : Int)) rfl) rfl (by decide) (cok1 trivial) ?_
  refine ⟨_, Wk.refl _ _, ?_⟩
  show awp _ _ _ _ _ _ _
  refine awp_block ?_
  refine awp_wk (Wk.U [(0, .slice (some ⟨d, 0, none⟩) n n), (1, .int .i64 ((a : Nat) : Int)), (2, .int .i64 ((b : Nat) : Int)), (3, .func (.func 23) #[] #[.pointer (some ⟨bn, 0, none⟩), .pointer (some ⟨bk, 0, none⟩)]), (8, .int .i64 (((a + 1) : Nat) : Int))] ⟨rfl, rfl, rfl, rfl, rfl, trivial⟩) ?_
  refine awp_loop (fun ((i, l2) : Nat × (List Nat)) st => ∃ (H1 : AHeap), st = ⟨53, U [(0, .slice (some ⟨d, 0, none⟩) n n), (1, .int .i64 ((a : Nat) : Int)), (2, .int .i64 ((b : Nat) : Int)), (3, .func (.func 23) #[] #[.pointer (some ⟨bn, 0, none⟩), .pointer (some ⟨bk, 0, none⟩)]), (8, .int .i64 ((i : Nat) : Int))], [], H1⟩ ∧ St H0 ((· ∈ [d])) (Off H0 [d]) H1 [(d, .cells true (l2.map i64v) 1)] ∧ (a + 1 ≤ i ∧ Sw a (min i b) l l2 ∧ Srt (gkey names nb) l2 a (min i b))) (fun ((i, l2) : Nat × (List Nat)) => b - i) (x0 := ((a + 1), l)) ?h0 ?round
  case h0 =>
    exact ⟨_, rfl, s0, ⟨Nat.le_refl _, .refl, fun p q h1 h2 h3 => absurd h3 (by omega)⟩⟩
  case round =>
    rintro ⟨i, l2⟩ _ ⟨H1, rfl, s2, hi⟩
    dsimp only at *
    refine awp_seq ?_
    refine awp_seq ?_
    refine awp_regs hF ?_
    refine dv (gyes_none rfl) (q_mv (v := .int .i64 ((i : Nat) : Int)) rfl) rfl (by decide) (cok1 trivial) ?_
    refine dv (gyes_none rfl) (q_mv (v := .int .i64 ((b : Nat) : Int)) rfl) rfl (by decide) (cok1 trivial) ?_
    refine dvb (gyes_none rfl) (q_int rfl rfl rfl) rfl (by decide) (cok2 trivial trivial) (fun c1 => ?_) (fun c1 => ?_)
    ·
      replace c1 := of_decide_eq_true c1
      refine ⟨_, Wk.refl _ _, ?_⟩
      show awp _ _ _ _ _ _ _
      refine awp_cond_t rfl ?_
      refine awp_skip_wk ?_
      refine ⟨_, Wk.refl _ _, ?_⟩
      show awp _ _ _ _ _ _ _
      refine awp_seq ?_
      refine awp_block ?_
      refine awp_seq ?_
      refine awp_regs hF ?_
      refine dv (gyes_none rfl) (q_mv (v := .int .i64 ((i : Nat) : Int)) rfl) rfl (by decide) (cok1 trivial) ?_
      refine dv (gyes_none rfl) (q_as (v := .int .i64 ((i : Nat) : Int)) rfl) rfl (by decide) (cok1 trivial) ?_
      refine ⟨_, Wk.refl _ _, ?_⟩
      show awp _ _ _ _ _ _ _
      refine awp_block ?_
      rw [show min i b = i by omega] at hi
      have hb : ∀ p, a ≤ p → p < i → nth l2 p < nth l2 i := fun p h1 h2 => by
        rw [hi.2.1.out (k := i) (.inr (Nat.le_refl _))]
        exact hi.2.1.all (P := fun x => x < nth l i) (fun k k1 k2 => hs k i k1 k2 (by omega)) p h1 h2
      refine awp_wk (Wk.U [(0, .slice (some ⟨d, 0, none⟩) n n), (1, .int .i64 ((a : Nat) : Int)), (2, .int .i64 ((b : Nat) : Int)), (3, .func (.func 23) #[] #[.pointer (some ⟨bn, 0, none⟩), .pointer (some ⟨bk, 0, none⟩)]), (8, .int .i64 ((i : Nat) : Int)), (9, .int .i64 ((i : Nat) : Int))] ⟨rfl, rfl, rfl, rfl, rfl, rfl, trivial⟩) ?_
      refine awp_loop (fun ((j, l3) : Nat × (List Nat)) st => ∃ (H3 : AHeap), st = ⟨53, U [(0, .slice (some ⟨d, 0, none⟩) n n), (1, .int .i64 ((a : Nat) : Int)), (2, .int .i64 ((b : Nat) : Int)), (3, .func (.func 23) #[] #[.pointer (some ⟨bn, 0, none⟩), .pointer (some ⟨bk, 0, none⟩)]), (8, .int .i64 ((i : Nat) : Int)), (9, .int .i64 ((j : Nat) : Int))], [], H3⟩ ∧ St H0 ((· ∈ [d])) (Off H0 [d]) H3 [(d, .cells true (l3.map i64v) 1)] ∧ (Ins (gkey names nb) l3 a i j ∧ Sw a (i + 1) l l3)) (fun ((j, l3) : Nat × (List Nat)) => j) (x0 := (i, l2)) ?h0 ?round
      case h0 =>
        exact ⟨_, rfl, s2, ⟨ins_start hi.2.2 (by omega) hb, hi.2.1.mono (Nat.le_refl _) (Nat.le_succ _) (by omega)⟩⟩
      case round =>
        rintro ⟨j, l3⟩ _ ⟨H3, rfl, s4, hj⟩
        dsimp only at *
        have hln : l3.length = n := hj.2.len.trans hn
        have hlt := hj.2.lt hl
        have hji := hj.1.ji
        have hja := hj.1.aj
        refine awp_seq ?_
        refine awp_seq ?_
        refine awp_regt hF hM (by kernel_rfl) (by kernel_rfl) ?_
        refine dv (gyes_none rfl) (q_mv (v := .int .i64 ((j : Nat) : Int)) rfl) rfl (by decide) (cok1 trivial) ?_
        refine dv (gyes_none rfl) (q_mv (v := .int .i64 ((a : Nat) : Int)) rfl) rfl (by decide) (cok1 trivial) ?_
        refine dvb (gyes_none rfl) (q_int rfl rfl rfl) rfl (by decide) (cok2 trivial trivial) (fun c2 => ?_) (fun c2 => ?_)
        ·
          replace c2 := of_decide_eq_true c2
          refine dv (gyes_none rfl) (q_mv (v := .bool true) rfl) rfl (by decide) (cok1 trivial) ?_
          refine dv (gyes_some rfl rfl) (q_mv (v := .func (.func 23) #[] #[.pointer (some ⟨bn, 0, none⟩), .pointer (some ⟨bk, 0, none⟩)]) rfl) rfl (by decide) (cok1 trivial) ?_
          refine dv (gyes_some rfl rfl) (q_mv (v := .slice (some ⟨d, 0, none⟩) n n) rfl) rfl (by decide) (cok1 trivial) ?_
          refine dv (gyes_some rfl rfl) (q_mv (v := .int .i64 ((j : Nat) : Int)) rfl) rfl (by decide) (cok1 trivial) ?_
          refine dv (gyes_some rfl rfl) (OpQ.cast (v' := .pointer (some ⟨d, j, none⟩)) (q_index1 (i := j) Try.underlying25 Try.sizeOf3 rfl rfl (by omega) (s4.rd (j := 0) rfl)) (by rw [Nat.zero_add])) rfl (by decide) (cok2 trivial trivial) ?_
          refine dv (gyes_some rfl rfl) (q_load (v := i64v (nth l3 j)) Try.isAgg3 rfl (s4.rd (j := 0) rfl) (get_nth (w := 0) (by omega))) rfl (by decide) (cok1 trivial) ?_
          refine dv (gyes_some rfl rfl) (q_mv (v := .slice (some ⟨d, 0, none⟩) n n) rfl) rfl (by decide) (cok1 trivial) ?_
          refine dv (gyes_some rfl rfl) (q_mv (v := .int .i64 ((j : Nat) : Int)) rfl) rfl (by decide) (cok1 trivial) ?_
          refine dv (gyes_some rfl rfl) (OpQ.cast (v' := .int .i64 ((j - 1 : Nat) : Int)) (q_int rfl rfl rfl) (congrArg _ ((i64_in (by omega)).trans (by omega)))) rfl (by decide) (cok2 trivial (cconst rfl)) ?_
          refine dv (gyes_some rfl rfl) (OpQ.cast (v' := .pointer (some ⟨d, j - 1, none⟩)) (q_index1 (i := (j - 1)) Try.underlying25 Try.sizeOf3 rfl rfl (by omega) (s4.rd (j := 0) rfl)) (by rw [Nat.zero_add])) rfl (by decide) (cok2 trivial trivial) ?_
          refine dv (gyes_some rfl rfl) (q_load (v := i64v (nth l3 (j - 1))) Try.isAgg3 rfl (s4.rd (j := 0) rfl) (get_nth (w := 0) (by omega))) rfl (by decide) (cok1 trivial) ?_
          refine dv (gyes_some rfl rfl) (q_callv0 Try.call23 rfl rfl ((E.kp s4.kp).cmp (nth l3 j) (nth l3 (j - 1)) (lt_of_mem hlt (by omega)) (lt_of_mem hlt (by omega)))) rfl (by decide) (call_ok rfl) ?_
          refine dvb (gyes_some rfl rfl) (q_int rfl rfl rfl) rfl (by decide) (cok2 trivial (cconst rfl)) (fun c3 => ?_) (fun c3 => ?_)
          ·
            replace c3 := of_decide_eq_true c3
            replace c3 := cmpN_lt.1 c3
            refine dv (gyes_none rfl) (q_pt (v := .bool true) rfl rfl) rfl (by decide) (call_ok rfl) ?_
            refine ⟨_, Wk.refl _ _, ?_⟩
            show awp _ _ _ _ _ _ _
            refine awp_cond_t rfl ?_
            refine awp_skip_wk ?_
            refine ⟨_, Wk.refl _ _, ?_⟩
            show awp _ _ _ _ _ _ _
            refine awp_seq ?_
            refine awp_block ?_
            refine awp_regt hF hM (by kernel_rfl) (by kernel_rfl) ?_
            refine dv (gyes_none rfl) (q_mv (v := .slice (some ⟨d, 0, none⟩) n n) rfl) rfl (by decide) (cok1 trivial) ?_
            refine dv (gyes_none rfl) (q_mv (v := .int .i64 ((j : Nat) : Int)) rfl) rfl (by decide) (cok1 trivial) ?_
            refine dv (gyes_none rfl) (q_mv (v := .slice (some ⟨d, 0, none⟩) n n) rfl) rfl (by decide) (cok1 trivial) ?_
            refine dv (gyes_none rfl) (q_mv (v := .int .i64 ((j : Nat) : Int)) rfl) rfl (by decide) (cok1 trivial) ?_
            refine dv (gyes_none rfl) (OpQ.cast (v' := .int .i64 ((j - 1 : Nat) : Int)) (q_int rfl rfl rfl) (congrArg _ ((i64_in (by omega)).trans (by omega)))) rfl (by decide) (cok2 trivial (cconst rfl)) ?_
            refine dv (gyes_none rfl) (q_mv (v := .slice (some ⟨d, 0, none⟩) n n) rfl) rfl (by decide) (cok1 trivial) ?_
            refine dv (gyes_none rfl) (q_mv (v := .int .i64 ((j : Nat) : Int)) rfl) rfl (by decide) (cok1 trivial) ?_
            refine dv (gyes_none rfl) (OpQ.cast (v' := .int .i64 ((j - 1 : Nat) : Int)) (q_int rfl rfl rfl) (congrArg _ ((i64_in (by omega)).trans (by omega)))) rfl (by decide) (cok2 trivial (cconst rfl)) ?_
            refine dv (gyes_none rfl) (OpQ.cast (v' := .pointer (some ⟨d, j - 1, none⟩)) (q_index1 (i := (j - 1)) Try.underlying25 Try.sizeOf3 rfl rfl (by omega) (s4.rd (j := 0) rfl)) (by rw [Nat.zero_add])) rfl (by decide) (cok2 trivial trivial) ?_
            refine dv (gyes_none rfl) (q_load (v := i64v (nth l3 (j - 1))) Try.isAgg3 rfl (s4.rd (j := 0) rfl) (get_nth (w := 0) (by omega))) rfl (by decide) (cok1 trivial) ?_
            refine dv (gyes_none rfl) (q_mv (v := .slice (some ⟨d, 0, none⟩) n n) rfl) rfl (by decide) (cok1 trivial) ?_
            refine dv (gyes_none rfl) (q_mv (v := .int .i64 ((j : Nat) : Int)) rfl) rfl (by decide) (cok1 trivial) ?_
            refine dv (gyes_none rfl) (OpQ.cast (v' := .pointer (some ⟨d, j, none⟩)) (q_index1 (i := j) Try.underlying25 Try.sizeOf3 rfl rfl (by omega) (s4.rd (j := 0) rfl)) (by rw [Nat.zero_add])) rfl (by decide) (cok2 trivial trivial) ?_
            refine dv (gyes_none rfl) (q_load (v := i64v (nth l3 j)) Try.isAgg3 rfl (s4.rd (j := 0) rfl) (get_nth (w := 0) (by omega))) rfl (by decide) (cok1 trivial) ?_
            refine dv (gyes_none rfl) (OpQ.cast (v' := .pointer (some ⟨d, j, none⟩)) (q_index1 (i := j) Try.underlying25 Try.sizeOf3 rfl rfl (by omega) (s4.rd (j := 0) rfl)) (by rw [Nat.zero_add])) rfl (by decide) (cok2 trivial trivial) ?_
            refine x_store1 [2, 3, 4] hF s4 (by kernel_rfl) (gyes_none rfl) (j := 0) (v := i64v (nth l3 (j - 1))) rfl Try.sizeOf3 rfl rfl rfl (lc_scalar rfl) (by rw [List.length_map]; omega) trivial trivial rfl rfl (F' := [(d, .cells true ((l3.set j (nth l3 (j - 1))).map i64v) 1)]) (by simp only [set_map1]; rfl) (fun H5 s6 => ⟨?_, ?_⟩)
            · exact ⟨pend_yes rfl (gyes_none rfl) (q_mv (v := .slice (some ⟨d, 0, none⟩) n n) rfl) rfl (by decide) (cok1 trivial) rfl, pend_yes rfl (gyes_none rfl) (q_mv (v := .int .i64 ((j : Nat) : Int)) rfl) rfl (by decide) (cok1 trivial) rfl, pend_yes rfl (gyes_none rfl) (OpQ.cast (v' := .int .i64 ((j - 1 : Nat) : Int)) (q_int rfl rfl rfl) (congrArg _ ((i64_in (by omega)).trans (by omega)))) rfl (by decide) (cok2 trivial (cconst rfl)) rfl, trivial⟩
            refine dv (gyes_none rfl) (OpQ.cast (v' := .pointer (some ⟨d, j - 1, none⟩)) (q_index1 (i := (j - 1)) Try.underlying25 Try.sizeOf3 rfl rfl (by omega) (s6.rd (j := 0) rfl)) (by rw [Nat.zero_add])) rfl (by decide) (cok2 trivial trivial) ?_
            refine x_store1 [] hF s6 (by kernel_rfl) (gyes_none rfl) (j := 0) (v := i64v (nth l3 j)) rfl Try.sizeOf3 rfl rfl rfl (lc_scalar rfl) (by rw [List.length_map, List.length_set]; omega) trivial trivial rfl rfl (F' := [(d, .cells true (((l3.set j (nth l3 (j - 1))).set (j - 1) (nth l3 j)).map i64v) 1)]) (by simp only [set_map1]; rfl) (fun H7 s8 => ⟨?_, ?_⟩)
            · exact trivial
            refine ⟨_, Wk.refl _ _, ?_⟩
            show awp _ _ _ _ _ _ _
            refine awp_regs hF ?_
            refine dv (gyes_none rfl) (q_mv (v := .int .i64 ((j : Nat) : Int)) rfl) rfl (by decide) (cok1 trivial) ?_
            refine dv (gyes_none rfl) (OpQ.cast (v' := .int .i64 ((j - 1 : Nat) : Int)) (q_int rfl rfl rfl) (congrArg _ ((i64_in (by omega)).trans (by omega)))) rfl (by decide) (cok2 trivial (cconst rfl)) ?_
            refine dv (gyes_none rfl) (q_as (v := .int .i64 ((j - 1 : Nat) : Int)) rfl) rfl (by decide) (cok1 trivial) ?_
            refine ⟨_, Wk.U [(0, .slice (some ⟨d, 0, none⟩) n n), (1, .int .i64 ((a : Nat) : Int)), (2, .int .i64 ((b : Nat) : Int)), (3, .func (.func 23) #[] #[.pointer (some ⟨bn, 0, none⟩), .pointer (some ⟨bk, 0, none⟩)]), (8, .int .i64 ((i : Nat) : Int)), (9, .int .i64 (((j - 1) : Nat) : Int))] ⟨rfl, rfl, rfl, rfl, rfl, rfl, trivial⟩, ((j - 1), ((l3.set j (nth l3 (j - 1))).set (j - 1) (nth l3 j))), ⟨_, rfl, s8, ⟨ins_step hj.1 (by omega) (by assumption) (by omega), hj.2.step (by omega) (by omega) (by omega) (by omega) (by omega)⟩⟩, (by omega)⟩
          ·
            replace c3 := of_decide_eq_false c3
            replace c3 := fun h => c3 (cmpN_lt.2 h)
            refine dv (gyes_none rfl) (q_pt (v := .bool false) rfl rfl) rfl (by decide) (call_ok rfl) ?_
            refine ⟨_, Wk.refl _ _, ?_⟩
            show awp _ _ _ _ _ _ _
            refine awp_cond_f rfl ?_
            refine awp_exit_wk ?_
            refine ⟨_, Wk.refl _ _, ?_⟩
            show awp _ _ _ _ _ _ _
            refine awp_regs hF ?_
            refine dv (gyes_none rfl) (q_mv (v := .int .i64 ((i : Nat) : Int)) rfl) rfl (by decide) (cok1 trivial) ?_
            refine dv (gyes_none rfl) (OpQ.cast (v' := .int .i64 ((i + 1 : Nat) : Int)) (q_int rfl rfl rfl) (congrArg _ ((i64_in (by omega)).trans (by first | rfl | omega | (push_cast; rfl))))) rfl (by decide) (cok2 trivial (cconst rfl)) ?_
            refine dv (gyes_none rfl) (q_as (v := .int .i64 ((i + 1 : Nat) : Int)) rfl) rfl (by decide) (cok1 trivial) ?_
            refine ⟨_, Wk.U [(0, .slice (some ⟨d, 0, none⟩) n n), (1, .int .i64 ((a : Nat) : Int)), (2, .int .i64 ((b : Nat) : Int)), (3, .func (.func 23) #[] #[.pointer (some ⟨bn, 0, none⟩), .pointer (some ⟨bk, 0, none⟩)]), (8, .int .i64 (((i + 1) : Nat) : Int))] ⟨rfl, rfl, rfl, rfl, rfl, trivial⟩, ((i + 1), l3), ⟨_, rfl, s4, ⟨by dsimp only; omega, by dsimp only; rw [show min (i + 1) b = i + 1 by omega]; exact hj.2, by dsimp only; rw [show min (i + 1) b = i + 1 by omega]; exact ins_end hj.1 (by first | exact .inl (by have := hj.1.aj; omega) | exact .inr (by assumption))⟩⟩, (by omega)⟩
        ·
          replace c2 := of_decide_eq_false c2
          refine dv (gyes_none rfl) (q_mv (v := .bool false) rfl) rfl (by decide) (cok1 trivial) ?_
          refine dno rfl (.inl rfl) rfl (by decide) ?_
          refine dno rfl (.inl rfl) rfl (by decide) ?_
          refine dno rfl (.inl rfl) rfl (by decide) ?_
          refine dno rfl (.inl rfl) rfl (by decide) ?_
          refine dno rfl (.inl rfl) rfl (by decide) ?_
          refine dno rfl (.inl rfl) rfl (by decide) ?_
          refine dno rfl (.inl rfl) rfl (by decide) ?_
          refine dno rfl (.inl rfl) rfl (by decide) ?_
          refine dno rfl (.inl rfl) rfl (by decide) ?_
          refine dno rfl (.inl rfl) rfl (by decide) ?_
          refine dno rfl (.inl rfl) rfl (by decide) ?_
          refine dno rfl (.inl rfl) rfl (by decide) ?_
          refine dv (gyes_none rfl) (q_pf (v := .bool false) rfl rfl) rfl (by decide) (call_ok rfl) ?_
          refine ⟨_, Wk.refl _ _, ?_⟩
          show awp _ _ _ _ _ _ _
          refine awp_cond_f rfl ?_
          refine awp_exit_wk ?_
          refine ⟨_, Wk.refl _ _, ?_⟩
          show awp _ _ _ _ _ _ _
          refine awp_regs hF ?_
          refine dv (gyes_none rfl) (q_mv (v := .int .i64 ((i : Nat) : Int)) rfl) rfl (by decide) (cok1 trivial) ?_
          refine dv (gyes_none rfl) (OpQ.cast (v' := .int .i64 ((i + 1 : Nat) : Int)) (q_int rfl rfl rfl) (congrArg _ ((i64_in (by omega)).trans (by first | rfl | omega | (push_cast; rfl))))) rfl (by decide) (cok2 trivial (cconst rfl)) ?_
          refine dv (gyes_none rfl) (q_as (v := .int .i64 ((i + 1 : Nat) : Int)) rfl) rfl (by decide) (cok1 trivial) ?_
          refine ⟨_, Wk.U [(0, .slice (some ⟨d, 0, none⟩) n n), (1, .int .i64 ((a : Nat) : Int)), (2, .int .i64 ((b : Nat) : Int)), (3, .func (.func 23) #[] #[.pointer (some ⟨bn, 0, none⟩), .pointer (some ⟨bk, 0, none⟩)]), (8, .int .i64 (((i + 1) : Nat) : Int))] ⟨rfl, rfl, rfl, rfl, rfl, trivial⟩, ((i + 1), l3), ⟨_, rfl, s4, ⟨by dsimp only; omega, by dsimp only; rw [show min (i + 1) b = i + 1 by omega]; exact hj.2, by dsimp only; rw [show min (i + 1) b = i + 1 by omega]; exact ins_end hj.1 (by first | exact .inl (by have := hj.1.aj; omega) | exact .inr (by assumption))⟩⟩, (by omega)⟩
    ·
      replace c1 := of_decide_eq_false c1
      refine ⟨_, Wk.refl _ _, ?_⟩
      show awp _ _ _ _ _ _ _
      refine awp_cond_f rfl ?_
      refine awp_exit_wk ?_
      refine ⟨_, Wk.refl _ _, ?_⟩
      repeat (with_reducible first | refine then_ret ?_ | refine blk_ret ?_ | refine then_exit ?_ | refine blk_exit ?_ | refine blk_exit' (by decide) ?_ | refine blk_normal ?_ | refine then_normal ?_ | refine retq_ret ?_ | refine retq_normal ?_ | refine ng_normal ?_ | refine ng_ret ?_ | refine ng_exit ?_)
      refine ret_is (v := .tuple #[]) rfl .nil rfl ?_
      exact ⟨rfl, s2.kp, _, by have q := hi.2.1; rwa [show min i b = b by omega] at q, by have q := hi.2.2; rwa [show min i b = b by omega] at q, s2.getj (j := 0) rfl⟩
set_option maxRecDepth 100000 in
set_option maxHeartbeats 4000000 in
theorem swaprange_ok {H0 : AHeap} (n d bn bk nb : Nat) (vN : Value) (names : List ByteArray) (E : SEnv H0 d bn bk nb vN names) (l : List Nat) (hn : l.length = n) (hn2 : n ≤ 1000) (hd : H0[d]? = some (.cells true (l.map i64v) 1)) (hl : ∀ x ∈ l, x < names.length) (lo hi a b m : Nat) (h1 : lo ≤ a) (h2 : a + m ≤ b) (h3 : b + m ≤ hi) (h4 : hi ≤ n) : ACalls Try.prog 58 [.slice (some ⟨d, 0, none⟩) n n, .int .i64 ((a : Nat) : Int), .int .i64 ((b : Nat) : Int), .int .i64 ((m : Nat) : Int), .func (.func 23) #[] #[.pointer (some ⟨bn, 0, none⟩), .pointer (some ⟨bk, 0, none⟩)]] H0 (fun v H' => v = .tuple #[] ∧ Kp (· ∈ [d]) H0 H' ∧ ∃ l', Sw lo hi l l' ∧ (∀ t, nth l' t = swF (nth l) a b m t) ∧ H'[d]? = some (.cells true (l'.map i64v) 1)) := by
  have hF : Wd Fence.wide := .inl rfl
  have hM : Try.prog.follows .mixedOrders = true := by kernel_rfl
  have s0 : St H0 (· ∈ [d]) (Off H0 [d]) H0 [(d, .cells true (l.map i64v) 1)] := St.beginL [(d, .cells true (l.map i64v) 1)] (by simp) (allAt_mem ⟨hd, trivial⟩)
  refine acalls_st Try.func58 rfl Try.ntmps58 rfl ?_
  refine awp_seq ?_
  refine awp_regs hF ?_
  refine dv (gyes_none rfl) (q_as (v := .int .i64 0) rfl) rfl (by decide) (cok1 (cconst rfl)) ?_
  refine ⟨_, Wk.refl _ _, ?_⟩
  show awp _ _ _ _ _ _ _
  refine awp_block ?_
  refine awp_wk (Wk.U [(0, .slice (some ⟨d, 0, none⟩) n n), (1, .int .i64 ((a : Nat) : Int)), (2, .int .i64 ((b : Nat) : Int)), (3, .int .i64 ((m : Nat) : Int)), (4, .func (.func 23) #[] #[.pointer (some ⟨bn, 0, none⟩), .pointer (some ⟨bk, 0, none⟩)]), (10, .int .i64 0)] ⟨rfl, rfl, rfl, rfl, rfl, rfl, trivial⟩) ?_
  refine awp_loop (fun ((i, l2) : Nat × (List Nat)) st => ∃ (H1 : AHeap), st = ⟨38, U [(0, .slice (some ⟨d, 0, none⟩) n n), (1, .int .i64 ((a : Nat) : Int)), (2, .int .i64 ((b : Nat) : Int)), (3, .int .i64 ((m : Nat) : Int)), (4, .func (.func 23) #[] #[.pointer (some ⟨bn, 0, none⟩), .pointer (some ⟨bk, 0, none⟩)]), (10, .int .i64 ((i : Nat) : Int))], [], H1⟩ ∧ St H0 ((· ∈ [d])) (Off H0 [d]) H1 [(d, .cells true (l2.map i64v) 1)] ∧ (i ≤ m ∧ Sw lo hi l l2 ∧ ∀ t, nth l2 t = swF (nth l) a b i t)) (fun ((i, l2) : Nat × (List Nat)) => m - i) (x0 := (0, l)) ?h0 ?round
  case h0 =>
    exact ⟨_, rfl, s0, ⟨Nat.zero_le _, .refl, fun t => (swF_zero _ _ _ _).symm⟩⟩
  case round =>
    rintro ⟨i, l2⟩ _ ⟨H1, rfl, s2, hi⟩
    dsimp only at *
    have hln : l2.length = n := hi.2.1.len.trans hn
    refine awp_seq ?_
    refine awp_seq ?_
    refine awp_regs hF ?_
    refine dv (gyes_none rfl) (q_mv (v := .int .i64 ((i : Nat) : Int)) rfl) rfl (by decide) (cok1 trivial) ?_
    refine dv (gyes_none rfl) (q_mv (v := .int .i64 ((m : Nat) : Int)) rfl) rfl (by decide) (cok1 trivial) ?_
    refine dvb (gyes_none rfl) (q_int rfl rfl rfl) rfl (by decide) (cok2 trivial trivial) (fun c1 => ?_) (fun c1 => ?_)
    ·
      replace c1 := of_decide_eq_true c1
      refine ⟨_, Wk.refl _ _, ?_⟩
      show awp _ _ _ _ _ _ _
      refine awp_cond_t rfl ?_
      refine awp_skip_wk ?_
      refine ⟨_, Wk.refl _ _, ?_⟩
      show awp _ _ _ _ _ _ _
      refine awp_seq ?_
      refine awp_block ?_
      refine awp_regt hF hM (by kernel_rfl) (by kernel_rfl) ?_
      refine dv (gyes_none rfl) (q_mv (v := .slice (some ⟨d, 0, none⟩) n n) rfl) rfl (by decide) (cok1 trivial) ?_
      refine dv (gyes_none rfl) (q_mv (v := .int .i64 ((a : Nat) : Int)) rfl) rfl (by decide) (cok1 trivial) ?_
      refine dv (gyes_none rfl) (q_mv (v := .int .i64 ((i : Nat) : Int)) rfl) rfl (by decide) (cok1 trivial) ?_
      refine dv (gyes_none rfl) (OpQ.cast (v' := .int .i64 ((a + i : Nat) : Int)) (q_int rfl rfl rfl) (congrArg _ ((i64_in (by omega)).trans (by first | rfl | omega | (push_cast; rfl))))) rfl (by decide) (cok2 trivial trivial) ?_
      refine dv (gyes_none rfl) (q_mv (v := .slice (some ⟨d, 0, none⟩) n n) rfl) rfl (by decide) (cok1 trivial) ?_
      refine dv (gyes_none rfl) (q_mv (v := .int .i64 ((b : Nat) : Int)) rfl) rfl (by decide) (cok1 trivial) ?_
      refine dv (gyes_none rfl) (q_mv (v := .int .i64 ((i : Nat) : Int)) rfl) rfl (by decide) (cok1 trivial) ?_
      refine dv (gyes_none rfl) (OpQ.cast (v' := .int .i64 ((b + i : Nat) : Int)) (q_int rfl rfl rfl) (congrArg _ ((i64_in (by omega)).trans (by first | rfl | omega | (push_cast; rfl))))) rfl (by decide) (cok2 trivial trivial) ?_
      refine dv (gyes_none rfl) (q_mv (v := .slice (some ⟨d, 0, none⟩) n n) rfl) rfl (by decide) (cok1 trivial) ?_
      refine dv (gyes_none rfl) (q_mv (v := .int .i64 ((b : Nat) : Int)) rfl) rfl (by decide) (cok1 trivial) ?_
      refine dv (gyes_none rfl) (q_mv (v := .int .i64 ((i : Nat) : Int)) rfl) rfl (by decide) (cok1 trivial) ?_
      refine dv (gyes_none rfl) (OpQ.cast (v' := .int .i64 ((b + i : Nat) : Int)) (q_int rfl rfl rfl) (congrArg _ ((i64_in (by omega)).trans (by first | rfl | omega | (push_cast; rfl))))) rfl (by decide) (cok2 trivial trivial) ?_
      refine dv (gyes_none rfl) (OpQ.cast (v' := .pointer (some ⟨d, b + i, none⟩)) (q_index1 (i := (b + i)) Try.underlying25 Try.sizeOf3 rfl rfl (by omega) (s2.rd (j := 0) rfl)) (by rw [Nat.zero_add])) rfl (by decide) (cok2 trivial trivial) ?_
      refine dv (gyes_none rfl) (q_load (v := i64v (nth l2 (b + i))) Try.isAgg3 rfl (s2.rd (j := 0) rfl) (get_nth (w := 0) (by omega))) rfl (by decide) (cok1 trivial) ?_
      refine dv (gyes_none rfl) (q_mv (v := .slice (some ⟨d, 0, none⟩) n n) rfl) rfl (by decide) (cok1 trivial) ?_
      refine dv (gyes_none rfl) (q_mv (v := .int .i64 ((a : Nat) : Int)) rfl) rfl (by decide) (cok1 trivial) ?_
      refine dv (gyes_none rfl) (q_mv (v := .int .i64 ((i : Nat) : Int)) rfl) rfl (by decide) (cok1 trivial) ?_
      refine dv (gyes_none rfl) (OpQ.cast (v' := .int .i64 ((a + i : Nat) : Int)) (q_int rfl rfl rfl) (congrArg _ ((i64_in (by omega)).trans (by first | rfl | omega | (push_cast; rfl))))) rfl (by decide) (cok2 trivial trivial) ?_
      refine dv (gyes_none rfl) (OpQ.cast (v' := .pointer (some ⟨d, a + i, none⟩)) (q_index1 (i := (a + i)) Try.underlying25 Try.sizeOf3 rfl rfl (by omega) (s2.rd (j := 0) rfl)) (by rw [Nat.zero_add])) rfl (by decide) (cok2 trivial trivial) ?_
      refine dv (gyes_none rfl) (q_load (v := i64v (nth l2 (a + i))) Try.isAgg3 rfl (s2.rd (j := 0) rfl) (get_nth (w := 0) (by omega))) rfl (by decide) (cok1 trivial) ?_
      refine dv (gyes_none rfl) (OpQ.cast (v' := .pointer (some ⟨d, a + i, none⟩)) (q_index1 (i := (a + i)) Try.underlying25 Try.sizeOf3 rfl rfl (by omega) (s2.rd (j := 0) rfl)) (by rw [Nat.zero_add])) rfl (by decide) (cok2 trivial trivial) ?_
      refine x_store1 [4, 5, 6, 7] hF s2 (by kernel_rfl) (gyes_none rfl) (j := 0) (v := i64v (nth l2 (b + i))) rfl Try.sizeOf3 rfl rfl rfl (lc_scalar rfl) (by rw [List.length_map]; omega) trivial trivial rfl rfl (F' := [(d, .cells true ((l2.set (a + i) (nth l2 (b + i))).map i64v) 1)]) (by simp only [set_map1]; rfl) (fun H3 s4 => ⟨?_, ?_⟩)
      · exact ⟨pend_yes rfl (gyes_none rfl) (q_mv (v := .slice (some ⟨d, 0, none⟩) n n) rfl) rfl (by decide) (cok1 trivial) rfl, pend_yes rfl (gyes_none rfl) (q_mv (v := .int .i64 ((b : Nat) : Int)) rfl) rfl (by decide) (cok1 trivial) rfl, pend_yes rfl (gyes_none rfl) (q_mv (v := .int .i64 ((i : Nat) : Int)) rfl) rfl (by decide) (cok1 trivial) rfl, pend_yes rfl (gyes_none rfl) (OpQ.cast (v' := .int .i64 ((b + i : Nat) : Int)) (q_int rfl rfl rfl) (congrArg _ ((i64_in (by omega)).trans (by first | rfl | omega | (push_cast; rfl))))) rfl (by decide) (cok2 trivial trivial) rfl, trivial⟩
      refine dv (gyes_none rfl) (OpQ.cast (v' := .pointer (some ⟨d, b + i, none⟩)) (q_index1 (i := (b + i)) Try.underlying25 Try.sizeOf3 rfl rfl (by omega) (s4.rd (j := 0) rfl)) (by rw [Nat.zero_add])) rfl (by decide) (cok2 trivial trivial) ?_
      refine x_store1 [] hF s4 (by kernel_rfl) (gyes_none rfl) (j := 0) (v := i64v (nth l2 (a + i))) rfl Try.sizeOf3 rfl rfl rfl (lc_scalar rfl) (by rw [List.length_map, List.length_set]; omega) trivial trivial rfl rfl (F' := [(d, .cells true (((l2.set (a + i) (nth l2 (b + i))).set (b + i) (nth l2 (a + i))).map i64v) 1)]) (by simp only [set_map1]; rfl) (fun H5 s6 => ⟨?_, ?_⟩)
      · exact trivial
      refine ⟨_, Wk.refl _ _, ?_⟩
      show awp _ _ _ _ _ _ _
      refine awp_regs hF ?_
      refine dv (gyes_none rfl) (q_mv (v := .int .i64 ((i : Nat) : Int)) rfl) rfl (by decide) (cok1 trivial) ?_
      refine dv (gyes_none rfl) (OpQ.cast (v' := .int .i64 ((i + 1 : Nat) : Int)) (q_int rfl rfl rfl) (congrArg _ ((i64_in (by omega)).trans (by first | rfl | omega | (push_cast; rfl))))) rfl (by decide) (cok2 trivial (cconst rfl)) ?_
      refine dv (gyes_none rfl) (q_as (v := .int .i64 ((i + 1 : Nat) : Int)) rfl) rfl (by decide) (cok1 trivial) ?_
      refine ⟨_, Wk.U [(0, .slice (some ⟨d, 0, none⟩) n n), (1, .int .i64 ((a : Nat) : Int)), (2, .int .i64 ((b : Nat) : Int)), (3, .int .i64 ((m : Nat) : Int)), (4, .func (.func 23) #[] #[.pointer (some ⟨bn, 0, none⟩), .pointer (some ⟨bk, 0, none⟩)]), (10, .int .i64 (((i + 1) : Nat) : Int))] ⟨rfl, rfl, rfl, rfl, rfl, rfl, trivial⟩, ((i + 1), ((l2.set (a + i) (nth l2 (b + i))).set (b + i) (nth l2 (a + i)))), ⟨_, rfl, s6, ⟨by dsimp only; omega, hi.2.1.step (by omega) (by omega) (by omega) (by omega) (by omega), swF_step hi.2.2 (by omega) (by omega)⟩⟩, (by omega)⟩
    ·
      replace c1 := of_decide_eq_false c1
      refine ⟨_, Wk.refl _ _, ?_⟩
      show awp _ _ _ _ _ _ _
      refine awp_cond_f rfl ?_
      refine awp_exit_wk ?_
      refine ⟨_, Wk.refl _ _, ?_⟩
      repeat (with_reducible first | refine then_ret ?_ | refine blk_ret ?_ | refine then_exit ?_ | refine blk_exit ?_ | refine blk_exit' (by decide) ?_ | refine blk_normal ?_ | refine then_normal ?_ | refine retq_ret ?_ | refine retq_normal ?_ | refine ng_normal ?_ | refine ng_ret ?_ | refine ng_exit ?_)
      refine ret_is (v := .tuple #[]) rfl .nil rfl ?_
      exact ⟨rfl, s2.kp, _, hi.2.1, by have q := hi.2.2; rwa [show i = m by omega] at q, s2.getj (j := 0) rfl⟩
set_option maxRecDepth 100000 in
set_option maxHeartbeats 4000000 in
theorem rotate_ok {H0 : AHeap} (n d bn bk nb : Nat) (vN : Value) (names : List ByteArray) (E : SEnv H0 d bn bk nb vN names) (l : List Nat) (hn : l.length = n) (hn2 : n ≤ 1000) (hd : H0[d]? = some (.cells true (l.map i64v) 1)) (hl : ∀ x ∈ l, x < names.length) (a m b : Nat) (h1 : a < m) (h2 : m < b) (h3 : b ≤ n) : ACalls Try.prog 56 [.slice (some ⟨d, 0, none⟩) n n, .int .i64 ((a : Nat) : Int), .int .i64 ((m : Nat) : Int), .int .i64 ((b : Nat) : Int), .func (.func 23) #[] #[.pointer (some ⟨bn, 0, none⟩), .pointer (some ⟨bk, 0, none⟩)]] H0 (fun v H' => v = .tuple #[] ∧ Kp (· ∈ [d]) H0 H' ∧ ∃ l', Sw a b l l' ∧ (∀ t, nth l' t = rotF (nth l) a m b t) ∧ H'[d]? = some (.cells true (l'.map i64v) 1)) := by
  have hF : Wd Fence.wide := .inl rfl
  have hM : Try.prog.follows .mixedOrders = true := by kernel_rfl
  have s0 : St H0 (· ∈ [d]) (Off H0 [d]) H0 [(d, .cells true (l.map i64v) 1)] := St.beginL [(d, .cells true (l.map i64v) 1)] (by simp) (allAt_mem ⟨hd, trivial⟩)
  refine acalls_st Try.func56 rfl Try.ntmps56 rfl ?_
  refine awp_seq ?_
  refine awp_regs hF ?_
  refine dv (gyes_none rfl) (q_mv (v := .int .i64 ((m : Nat) : Int)) rfl) rfl (by decide) (cok1 trivial) ?_
  refine dv (gyes_none rfl) (q_mv (v := .int .i64 ((a : Nat) : Int)) rfl) rfl (by decide) (cok1 trivial) ?_
  refine dv (gyes_none rfl) (OpQ.cast (v' := .int .i64 ((m - a : Nat) : Int)) (q_int rfl rfl rfl) (congrArg _ ((i64_in (by omega)).trans (by omega)))) rfl (by decide) (cok2 trivial trivial) ?_
  refine dv (gyes_none rfl) (q_as (v := .int .i64 ((m - a : Nat) : Int)) rfl) rfl (by decide) (cok1 trivial) ?_
  refine ⟨_, Wk.refl _ _, ?_⟩
  show awp _ _ _ _ _ _ _
  refine awp_seq ?_
  refine awp_regs hF ?_
  refine dv (gyes_none rfl) (q_mv (v := .int .i64 ((b : Nat) : Int)) rfl) rfl (by decide) (cok1 trivial) ?_
  refine dv (gyes_none rfl) (q_mv (v := .int .i64 ((m : Nat) : Int)) rfl) rfl (by decide) (cok1 trivial) ?_
  refine dv (gyes_none rfl) (OpQ.cast (v' := .int .i64 ((b - m : Nat) : Int)) (q_int rfl rfl rfl) (congrArg _ ((i64_in (by omega)).trans (by omega)))) rfl (by decide) (cok2 trivial trivial) ?_
  refine dv (gyes_none rfl) (q_as (v := .int .i64 ((b - m : Nat) : Int)) rfl) rfl (by decide) (cok1 trivial) ?_
  refine ⟨_, Wk.refl _ _, ?_⟩
  show awp _ _ _ _ _ _ _
  refine awp_seq ?_
  refine awp_block ?_
  refine awp_wk (Wk.U [(0, .slice (some ⟨d, 0, none⟩) n n), (1, .int .i64 ((a : Nat) : Int)), (2, .int .i64 ((m : Nat) : Int)), (3, .int .i64 ((b : Nat) : Int)), (4, .func (.func 23) #[] #[.pointer (some ⟨bn, 0, none⟩), .pointer (some ⟨bk, 0, none⟩)]), (10, .int .i64 (((m - a) : Nat) : Int)), (11, .int .i64 (((b - m) : Nat) : Int))] ⟨rfl, rfl, rfl, rfl, rfl, rfl, rfl, trivial⟩) ?_
  refine awp_loop (fun ((i, j, l2) : Nat × Nat × (List Nat)) st => ∃ (H1 : AHeap), st = ⟨58, U [(0, .slice (some ⟨d, 0, none⟩) n n), (1, .int .i64 ((a : Nat) : Int)), (2, .int .i64 ((m : Nat) : Int)), (3, .int .i64 ((b : Nat) : Int)), (4, .func (.func 23) #[] #[.pointer (some ⟨bn, 0, none⟩), .pointer (some ⟨bk, 0, none⟩)]), (10, .int .i64 ((i : Nat) : Int)), (11, .int .i64 ((j : Nat) : Int))], [], H1⟩ ∧ St H0 ((· ∈ [d])) (Off H0 [d]) H1 [(d, .cells true (l2.map i64v) 1)] ∧ (1 ≤ i ∧ 1 ≤ j ∧ i ≤ m - a ∧ j ≤ b - m ∧ Sw a b l l2 ∧ ∀ t, rotF (nth l2) (m - i) m (m + j) t = rotF (nth l) a m b t)) (fun ((i, j, l2) : Nat × Nat × (List Nat)) => i + j) (x0 := ((m - a), (b - m), l)) ?h0 ?round
  case h0 =>
    exact ⟨_, rfl, s0, ⟨by omega, by omega, Nat.le_refl _, Nat.le_refl _, .refl, fun t => by rw [show m - (m - a) = a by omega, show m + (b - m) = b by omega]⟩⟩
  case round =>
    rintro ⟨i, j, l2⟩ _ ⟨H1, rfl, s2, hq⟩
    dsimp only at *
    have hln : l2.length = n := hq.2.2.2.2.1.len.trans hn
    have hlt := hq.2.2.2.2.1.lt hl
    refine awp_seq ?_
    refine awp_seq ?_
    refine awp_regs hF ?_
    refine dv (gyes_none rfl) (q_mv (v := .int .i64 ((i : Nat) : Int)) rfl) rfl (by decide) (cok1 trivial) ?_
    refine dv (gyes_none rfl) (q_mv (v := .int .i64 ((j : Nat) : Int)) rfl) rfl (by decide) (cok1 trivial) ?_
    refine dvb (gyes_none rfl) (q_int rfl rfl rfl) rfl (by decide) (cok2 trivial trivial) (fun c1 => ?_) (fun c1 => ?_)
    ·
      replace c1 := bne_iff_ne.1 c1
      refine ⟨_, Wk.refl _ _, ?_⟩
      show awp _ _ _ _ _ _ _
      refine awp_cond_t rfl ?_
      refine awp_skip_wk ?_
      refine ⟨_, Wk.refl _ _, ?_⟩
      show awp _ _ _ _ _ _ _
      refine awp_block ?_
      refine awp_seq ?_
      refine awp_regs hF ?_
      refine dv (gyes_none rfl) (q_mv (v := .int .i64 ((i : Nat) : Int)) rfl) rfl (by decide) (cok1 trivial) ?_
      refine dv (gyes_none rfl) (q_mv (v := .int .i64 ((j : Nat) : Int)) rfl) rfl (by decide) (cok1 trivial) ?_
      refine dvb (gyes_none rfl) (q_int rfl rfl rfl) rfl (by decide) (cok2 trivial trivial) (fun c2 => ?_) (fun c2 => ?_)
      ·
        replace c2 := of_decide_eq_true c2
        have hij : j < i := by omega
        refine ⟨_, Wk.refl _ _, ?_⟩
        show awp _ _ _ _ _ _ _
        refine awp_cond_t rfl ?_
        refine awp_seq ?_
        refine awp_regs hF ?_
        refine dv (gyes_none rfl) (q_mv (v := .slice (some ⟨d, 0, none⟩) n n) rfl) rfl (by decide) (cok1 trivial) ?_
        refine dv (gyes_none rfl) (q_mv (v := .int .i64 ((m : Nat) : Int)) rfl) rfl (by decide) (cok1 trivial) ?_
        refine dv (gyes_none rfl) (q_mv (v := .int .i64 ((i : Nat) : Int)) rfl) rfl (by decide) (cok1 trivial) ?_
        refine dv (gyes_none rfl) (OpQ.cast (v' := .int .i64 ((m - i : Nat) : Int)) (q_int rfl rfl rfl) (congrArg _ ((i64_in (by omega)).trans (by omega)))) rfl (by decide) (cok2 trivial trivial) ?_
        refine dv (gyes_none rfl) (q_mv (v := .int .i64 ((m : Nat) : Int)) rfl) rfl (by decide) (cok1 trivial) ?_
        refine dv (gyes_none rfl) (q_mv (v := .int .i64 ((j : Nat) : Int)) rfl) rfl (by decide) (cok1 trivial) ?_
        refine dv (gyes_none rfl) (q_mv (v := .func (.func 23) #[] #[.pointer (some ⟨bn, 0, none⟩), .pointer (some ⟨bk, 0, none⟩)]) rfl) rfl (by decide) (cok1 trivial) ?_
        refine x_call [] hF (by kernel_rfl) (gyes_none rfl) Try.call58 rfl (args := [.slice (some ⟨d, 0, none⟩) n n, .int .i64 ((m - i : Nat) : Int), .int .i64 ((m : Nat) : Int), .int .i64 ((j : Nat) : Int), .func (.func 23) #[] #[.pointer (some ⟨bn, 0, none⟩), .pointer (some ⟨bk, 0, none⟩)]]) rfl (swaprange_ok n d bn bk nb vN names (E.kp s2.kp) l2 hln hn2 (s2.getj (j := 0) rfl) hlt a b (m - i) m j (by omega) (by omega) (by omega) (by omega)) (show _ < _ by decide) (call_ok rfl) rfl rfl (fun _ _ _ _ hd => by cases hd) ?_
        rintro _ H3 ⟨rfl, hk4, l7, hsw8, hse9, h5⟩
        have s6 := s2.turn1 (j := 0) rfl hk4 h5
        refine ⟨trivial, ?_⟩
        show dList _ _ _ _ _ _ _ _ _ _
        refine ⟨_, Wk.refl _ _, ?_⟩
        show awp _ _ _ _ _ _ _
        refine awp_regs hF ?_
        refine dv (gyes_none rfl) (q_mv (v := .int .i64 ((i : Nat) : Int)) rfl) rfl (by decide) (cok1 trivial) ?_
        refine dv (gyes_none rfl) (q_mv (v := .int .i64 ((j : Nat) : Int)) rfl) rfl (by decide) (cok1 trivial) ?_
        refine dv (gyes_none rfl) (OpQ.cast (v' := .int .i64 ((i - j : Nat) : Int)) (q_int rfl rfl rfl) (congrArg _ ((i64_in (by omega)).trans (by omega)))) rfl (by decide) (cok2 trivial trivial) ?_
        refine dv (gyes_none rfl) (q_as (v := .int .i64 ((i - j : Nat) : Int)) rfl) rfl (by decide) (cok1 trivial) ?_
        refine ⟨_, Wk.U [(0, .slice (some ⟨d, 0, none⟩) n n), (1, .int .i64 ((a : Nat) : Int)), (2, .int .i64 ((m : Nat) : Int)), (3, .int .i64 ((b : Nat) : Int)), (4, .func (.func 23) #[] #[.pointer (some ⟨bn, 0, none⟩), .pointer (some ⟨bk, 0, none⟩)]), (10, .int .i64 (((i - j) : Nat) : Int)), (11, .int .i64 ((j : Nat) : Int))] ⟨rfl, rfl, rfl, rfl, rfl, rfl, rfl, trivial⟩, ((i - j), j, l7), ⟨_, rfl, s6, ⟨by dsimp only; omega, by dsimp only; omega, by dsimp only; omega, by dsimp only; omega, by dsimp only; exact hq.2.2.2.2.1.trans hsw8, fun t => by dsimp only; rw [rot_gt hij (by omega) hse9]; exact hq.2.2.2.2.2 t⟩⟩, (by dsimp only; omega)⟩
      ·
        replace c2 := of_decide_eq_false c2
        have hij : i < j := by omega
        refine ⟨_, Wk.refl _ _, ?_⟩
        show awp _ _ _ _ _ _ _
        refine awp_cond_f rfl ?_
        refine awp_seq ?_
        refine awp_regs hF ?_
        refine dv (gyes_none rfl) (q_mv (v := .slice (some ⟨d, 0, none⟩) n n) rfl) rfl (by decide) (cok1 trivial) ?_
        refine dv (gyes_none rfl) (q_mv (v := .int .i64 ((m : Nat) : Int)) rfl) rfl (by decide) (cok1 trivial) ?_
        refine dv (gyes_none rfl) (q_mv (v := .int .i64 ((i : Nat) : Int)) rfl) rfl (by decide) (cok1 trivial) ?_
        refine dv (gyes_none rfl) (OpQ.cast (v' := .int .i64 ((m - i : Nat) : Int)) (q_int rfl rfl rfl) (congrArg _ ((i64_in (by omega)).trans (by omega)))) rfl (by decide) (cok2 trivial trivial) ?_
        refine dv (gyes_none rfl) (q_mv (v := .int .i64 ((m : Nat) : Int)) rfl) rfl (by decide) (cok1 trivial) ?_
        refine dv (gyes_none rfl) (q_mv (v := .int .i64 ((j : Nat) : Int)) rfl) rfl (by decide) (cok1 trivial) ?_
        refine dv (gyes_none rfl) (OpQ.cast (v' := .int .i64 ((m + j : Nat) : Int)) (q_int rfl rfl rfl) (congrArg _ ((i64_in (by omega)).trans (by first | rfl | omega | (push_cast; rfl))))) rfl (by decide) (cok2 trivial trivial) ?_
        refine dv (gyes_none rfl) (q_mv (v := .int .i64 ((i : Nat) : Int)) rfl) rfl (by decide) (cok1 trivial) ?_
        refine dv (gyes_none rfl) (OpQ.cast (v' := .int .i64 (((m + j) - i : Nat) : Int)) (q_int rfl rfl rfl) (congrArg _ ((i64_in (by omega)).trans (by omega)))) rfl (by decide) (cok2 trivial trivial) ?_
        refine dv (gyes_none rfl) (q_mv (v := .int .i64 ((i : Nat) : Int)) rfl) rfl (by decide) (cok1 trivial) ?_
        refine dv (gyes_none rfl) (q_mv (v := .func (.func 23) #[] #[.pointer (some ⟨bn, 0, none⟩), .pointer (some ⟨bk, 0, none⟩)]) rfl) rfl (by decide) (cok1 trivial) ?_
        refine x_call [] hF (by kernel_rfl) (gyes_none rfl) Try.call58 rfl (args := [.slice (some ⟨d, 0, none⟩) n n, .int .i64 ((m - i : Nat) : Int), .int .i64 (((m + j) - i : Nat) : Int), .int .i64 ((i : Nat) : Int), .func (.func 23) #[] #[.pointer (some ⟨bn, 0, none⟩), .pointer (some ⟨bk, 0, none⟩)]]) rfl (swaprange_ok n d bn bk nb vN names (E.kp s2.kp) l2 hln hn2 (s2.getj (j := 0) rfl) hlt a b (m - i) ((m + j) - i) i (by omega) (by omega) (by omega) (by omega)) (show _ < _ by decide) (call_ok rfl) rfl rfl (fun _ _ _ _ hd => by cases hd) ?_
        rintro _ H10 ⟨rfl, hk11, l14, hsw15, hse16, h12⟩
        have s13 := s2.turn1 (j := 0) rfl hk11 h12
        refine ⟨trivial, ?_⟩
        show dList _ _ _ _ _ _ _ _ _ _
        refine ⟨_, Wk.refl _ _, ?_⟩
        show awp _ _ _ _ _ _ _
        refine awp_regs hF ?_
        refine dv (gyes_none rfl) (q_mv (v := .int .i64 ((j : Nat) : Int)) rfl) rfl (by decide) (cok1 trivial) ?_
        refine dv (gyes_none rfl) (q_mv (v := .int .i64 ((i : Nat) : Int)) rfl) rfl (by decide) (cok1 trivial) ?_
        refine dv (gyes_none rfl) (OpQ.cast (v' := .int .i64 ((j - i : Nat) : Int)) (q_int rfl rfl rfl) (congrArg _ ((i64_in (by omega)).trans (by omega)))) rfl (by decide) (cok2 trivial trivial) ?_
        refine dv (gyes_none rfl) (q_as (v := .int .i64 ((j - i : Nat) : Int)) rfl) rfl (by decide) (cok1 trivial) ?_
        refine ⟨_, Wk.U [(0, .slice (some ⟨d, 0, none⟩) n n), (1, .int .i64 ((a : Nat) : Int)), (2, .int .i64 ((m : Nat) : Int)), (3, .int .i64 ((b : Nat) : Int)), (4, .func (.func 23) #[] #[.pointer (some ⟨bn, 0, none⟩), .pointer (some ⟨bk, 0, none⟩)]), (10, .int .i64 ((i : Nat) : Int)), (11, .int .i64 (((j - i) : Nat) : Int))] ⟨rfl, rfl, rfl, rfl, rfl, rfl, rfl, trivial⟩, (i, (j - i), l14), ⟨_, rfl, s13, ⟨by dsimp only; omega, by dsimp only; omega, by dsimp only; omega, by dsimp only; omega, by dsimp only; exact hq.2.2.2.2.1.trans hsw15, fun t => by dsimp only; rw [rot_lt hij (by omega) hse16]; exact hq.2.2.2.2.2 t⟩⟩, (by dsimp only; omega)⟩
    ·
      replace c1 := bne_eq_false_iff_eq.1 c1
      have hij : i = j := by omega
      subst hij
      refine ⟨_, Wk.refl _ _, ?_⟩
      show awp _ _ _ _ _ _ _
      refine awp_cond_f rfl ?_
      refine awp_exit_wk ?_
      refine ⟨_, Wk.refl _ _, ?_⟩
      show awp _ _ _ _ _ _ _
      refine awp_regs hF ?_
      refine dv (gyes_none rfl) (q_mv (v := .slice (some ⟨d, 0, none⟩) n n) rfl) rfl (by decide) (cok1 trivial) ?_
      refine dv (gyes_none rfl) (q_mv (v := .int .i64 ((m : Nat) : Int)) rfl) rfl (by decide) (cok1 trivial) ?_
      refine dv (gyes_none rfl) (q_mv (v := .int .i64 ((i : Nat) : Int)) rfl) rfl (by decide) (cok1 trivial) ?_
      refine dv (gyes_none rfl) (OpQ.cast (v' := .int .i64 ((m - i : Nat) : Int)) (q_int rfl rfl rfl) (congrArg _ ((i64_in (by omega)).trans (by omega)))) rfl (by decide) (cok2 trivial trivial) ?_
      refine dv (gyes_none rfl) (q_mv (v := .int .i64 ((m : Nat) : Int)) rfl) rfl (by decide) (cok1 trivial) ?_
      refine dv (gyes_none rfl) (q_mv (v := .int .i64 ((i : Nat) : Int)) rfl) rfl (by decide) (cok1 trivial) ?_
      refine dv (gyes_none rfl) (q_mv (v := .func (.func 23) #[] #[.pointer (some ⟨bn, 0, none⟩), .pointer (some ⟨bk, 0, none⟩)]) rfl) rfl (by decide) (cok1 trivial) ?_
      refine x_call [] hF (by kernel_rfl) (gyes_none rfl) Try.call58 rfl (args := [.slice (some ⟨d, 0, none⟩) n n, .int .i64 ((m - i : Nat) : Int), .int .i64 ((m : Nat) : Int), .int .i64 ((i : Nat) : Int), .func (.func 23) #[] #[.pointer (some ⟨bn, 0, none⟩), .pointer (some ⟨bk, 0, none⟩)]]) rfl (swaprange_ok n d bn bk nb vN names (E.kp s2.kp) l2 hln hn2 (s2.getj (j := 0) rfl) hlt a b (m - i) m i (by omega) (by omega) (by omega) (by omega)) (show _ < _ by decide) (call_ok rfl) rfl rfl (fun _ _ _ _ hd => by cases hd) ?_
      rintro _ H17 ⟨rfl, hk18, l21, hsw22, hse23, h19⟩
      have s20 := s2.turn1 (j := 0) rfl hk18 h19
      refine ⟨trivial, ?_⟩
      show dList _ _ _ _ _ _ _ _ _ _
      refine ⟨_, Wk.refl _ _, ?_⟩
      repeat (with_reducible first | refine then_ret ?_ | refine blk_ret ?_ | refine then_exit ?_ | refine blk_exit ?_ | refine blk_exit' (by decide) ?_ | refine blk_normal ?_ | refine then_normal ?_ | refine retq_ret ?_ | refine retq_normal ?_ | refine ng_normal ?_ | refine ng_ret ?_ | refine ng_exit ?_)
      refine ret_is (v := .tuple #[]) rfl .nil rfl ?_
      exact ⟨rfl, s20.kp, _, hq.2.2.2.2.1.trans hsw22, (fun t => (rot_eq (by omega) hse23 t).trans (hq.2.2.2.2.2 t)), s20.getj (j := 0) rfl⟩

end Go.Proofs.YtponfeigjmjbmaaA


/-
  Slices whose elements are structs: of m cells each.
-/
namespace Go.Proofs.YtponfeigjmjbmaaA
set_option linter.unusedVariables false
set_option linter.unusedSectionVars false
open Go Go.RowKit Go.Shelf
section
variable {α : Type} [Inhabited α] {f : α → List Value} {m : Nat} {l : List α}
def fl (f : α → List Value) (l : List α) : List Value := l.flatMap f
def Wm (f : α → List Value) (m : Nat) : Prop := ∀ x, (f x).length = m
theorem fl_len (h : Wm f m) : ∀ {l : List α}, (fl f l).length = l.length * m
  | [] => by simp [fl]
  | x :: l => by
    have := fl_len h (l := l)
    unfold fl at this ⊢
    rw [List.flatMap_cons, List.length_append, this, h x, List.length_cons, Nat.add_mul, Nat.one_mul, Nat.add_comm]
theorem fl_app (a b : List α) : fl f (a ++ b) = fl f a ++ fl f b := by simp [fl]
theorem fl_cons (x : α) (l : List α) : fl f (x :: l) = f x ++ fl f l := rfl
theorem fl_split (h : Wm f m) {i : Nat} (hi : i < l.length) : fl f l = fl f (l.take i) ++ f (nth l i) ++ fl f (l.drop (i + 1)) ∧ (fl f (l.take i)).length = i * m := by
  refine ⟨?_, by rw [fl_len h, List.length_take, Nat.min_eq_left (by omega)]⟩
  have e : l = l.take i ++ nth l i :: l.drop (i + 1) := by rw [nth_eq hi, ← List.drop_eq_getElem_cons hi, List.take_append_drop]
  have e2 : fl f l = fl f (l.take i ++ nth l i :: l.drop (i + 1)) := congrArg (fl f) e
  rw [e2, fl_app, fl_cons, List.append_assoc]
theorem fl_at (h : Wm f m) {i : Nat} (hi : i < l.length) : ((fl f l).drop (i * m)).take m = f (nth l i) := by
  obtain ⟨h1, h2⟩ := fl_split h hi
  rw [h1, List.append_assoc, List.drop_append, List.drop_of_length_le (by omega), h2, Nat.sub_self, List.nil_append, List.drop_zero, List.take_append_of_le_length (by rw [h]; exact Nat.le_refl _), List.take_of_length_le (by rw [h]; exact Nat.le_refl _)]
def SlSZ (f : α → List Value) (m : Nat) (Z : Rs) (v : Value) (l : List α) : Prop :=
  (v = .slice none 0 0 ∧ l = []) ∨ ∃ b o c vs, v = .slice (some ⟨b, o, none⟩) l.length c ∧ Z b vs m ∧ o + l.length * m ≤ vs.length ∧ l.length ≤ c ∧ (vs.drop o).take (l.length * m) = fl f l
abbrev SlS (f : α → List Value) (m : Nat) (H : AHeap) (v : Value) (l : List α) : Prop := SlSZ f m (Rd H) v l
theorem SlSZ.mono {Z Z' : Rs} {v : Value} (h : SlSZ f m Z v l) (hz : ∀ b vs sz, Z b vs sz → Z' b vs sz) : SlSZ f m Z' v l := by
  rcases h with h | ⟨b, o, c, vs, h1, h2, h3⟩
  · exact .inl h
  · exact .inr ⟨b, o, c, vs, h1, hz _ _ _ h2, h3⟩
theorem SlSZ.nil {Z : Rs} : SlSZ f m Z (.slice none 0 0) [] := .inl ⟨rfl, rfl⟩
section
variable {H0 : AHeap} {X : Nat → Prop} {Z : Rs} {H : AHeap} {F : List (Nat × AObj)}
theorem SlSZ.k0 {H' : AHeap} {v : Value} (h : SlS f m H v l) (k : K0 H H') : SlS f m H' v l := h.mono fun b vs sz hz => k.rd hz (fun h => h)
end
section
variable {P : Program} {T : Nat → Value} {H : AHeap} {dst : Option Tmp} {ty : TypeId} {pos : String} {af : Array Edge} {g : Option (Nat × Bool)} {v : Value}
theorem SlS.at' (h : SlS f m H v l) {i : Nat} (hi : i < l.length) (hw : Wm f m) : ∃ b o c vs, v = .slice (some ⟨b, o, none⟩) l.length c ∧ Rd H b vs m ∧ o + i * m + m ≤ vs.length ∧ (vs.drop (o + i * m)).take m = f (nth l i) := by
  rcases h with ⟨_, rfl⟩ | ⟨b, o, c, vs, rfl, h2, h3, h4, h5⟩
  · simp at hi
  · have h6 : (i + 1) * m ≤ l.length * m := Nat.mul_le_mul_right m hi
    rw [Nat.add_mul, Nat.one_mul] at h6
    refine ⟨b, o, c, vs, rfl, h2, by omega, ?_⟩
    rw [← fl_at hw hi, ← h5, List.drop_take, List.take_take, List.drop_drop, Nat.min_eq_left (by omega)]
theorem SlS.lc (h : SlS f m H v l) : Lc H v := by
  rcases h with ⟨rfl, _⟩ | ⟨b, o, c, vs, rfl, h2, _⟩
  · exact lc_scalar rfl
  · exact lc_slice h2.live
end
end
section
variable {Fc : Fence} {n : Nat} {P : Program} {N0 : AHeap} {ops : Array Oper} {rest : List Oper} {K : ASt → Prop} {nt : Nat} {T : Nat → Value} {D : List Nat} {d : Tmp} {tab : List Nat} {i : Nat} {ty : TypeId} {pos : String} {af : Array Edge} {g : Option (Nat × Bool)}
variable {H0 : AHeap} {X : Nat → Prop} {Z : Rs} {H : AHeap} {F : List (Nat × AObj)}
end
/-- Ways that meet: what holds behind the first part, whatever the way. -/
theorem awp_join {Fc : Fence} {n : Nat} {P : Program} {N0 : AHeap} {Q : AEx → ASt → Prop} {x y : Code} {s : ASt} (J : ASt → Prop) (h1 : awp Fc n P N0 x (AEx.then J Q) s) (h2 : ∀ s', J s' → awp Fc n P N0 y Q s') : awp Fc n P N0 (.seq x y) Q s :=
  awp_seq (awp_mono h1 fun e s' h => by
    cases e <;> first | exact h2 s' h | exact h)
def FreshS {α : Type} (f : α → List Value) (m : Nat) (l : List α) (H : AHeap) (v : Value) (H' : AHeap) : Prop :=
  K0 H H' ∧ ∃ b, v = .slice (some ⟨b, 0, none⟩) l.length l.length ∧ H.length ≤ b ∧ H'[b]? = some (.cells true (l.flatMap f) m)
end Go.Proofs.YtponfeigjmjbmaaA


/-
  Walks of functions of the given program, and what they compute.
-/
namespace Go.Proofs.YtponfeigjmjbmaaA
set_option linter.unusedVariables false
open Go Go.RowKit Go.Shelf Go.Proofs
def SymOk (k : Nat) : Prop := ∀ {H0 : AHeap} (n d bn bk nb : Nat) (vN : Value) (names : List ByteArray) (E : SEnv H0 d bn bk nb vN names) (l : List Nat) (hn : l.length = n) (hn2 : n ≤ 1000) (hd : H0[d]? = some (.cells true (l.map i64v) 1)) (hl : ∀ x ∈ l, x < names.length) (a m b : Nat) (hs : SM (gkey names nb) l a m b) (hk : b - a ≤ k), ACalls Try.prog 52 [.slice (some ⟨d, 0, none⟩) n n, .int .i64 ((a : Nat) : Int), .int .i64 ((m : Nat) : Int), .int .i64 ((b : Nat) : Int), .func (.func 23) #[] #[.pointer (some ⟨bn, 0, none⟩), .pointer (some ⟨bk, 0, none⟩)]] H0 (fun v H' => v = .tuple #[] ∧ Kp (· ∈ [d]) H0 H' ∧ ∃ l', Sw a b l l' ∧ Srt (gkey names nb) l' a b ∧ H'[d]? = some (.cells true (l'.map i64v) 1))
set_option maxRecDepth 100000 in
set_option maxHeartbeats 4000000 in
theorem sym_step {H0 : AHeap} (k : Nat) (ih : SymOk k) (n d bn bk nb : Nat) (vN : Value) (names : List ByteArray) (E : SEnv H0 d bn bk nb vN names) (l : List Nat) (hn : l.length = n) (hn2 : n ≤ 1000) (hd : H0[d]? = some (.cells true (l.map i64v) 1)) (hl : ∀ x ∈ l, x < names.length) (a m b : Nat) (hs : SM (gkey names nb) l a m b) (hk : b - a ≤ k + 1) : ACalls Try.prog 52 [.slice (some ⟨d, 0, none⟩) n n, .int .i64 ((a : Nat) : Int), .int .i64 ((m : Nat) : Int), .int .i64 ((b : Nat) : Int), .func (.func 23) #[] #[.pointer (some ⟨bn, 0, none⟩), .pointer (some ⟨bk, 0, none⟩)]] H0 (fun v H' => v = .tuple #[] ∧ Kp (· ∈ [d]) H0 H' ∧ ∃ l', Sw a b l l' ∧ Srt (gkey names nb) l' a b ∧ H'[d]? = some (.cells true (l'.map i64v) 1)) := by
  have hF : Wd Fence.wide := .inl rfl
  have hM : Try.prog.follows .mixedOrders = true := by kernel_rfl
  have ham := hs.am
  have hmb := hs.mb
  have hbl := hs.bl
  have hlt := hl
  have s0 : St H0 (· ∈ [d]) (Off H0 [d]) H0 [(d, .cells true (l.map i64v) 1)] := St.beginL [(d, .cells true (l.map i64v) 1)] (by simp) (allAt_mem ⟨hd, trivial⟩)
  refine acalls_st Try.func52 rfl Try.ntmps52 rfl ?_
  refine awp_seq ?_
  refine awp_seq ?_
  refine awp_regs hF ?_
  refine dv (gyes_none rfl) (q_mv (v := .int .i64 ((m : Nat) : Int)) rfl) rfl (by decide) (cok1 trivial) ?_
  refine dv (gyes_none rfl) (q_mv (v := .int .i64 ((a : Nat) : Int)) rfl) rfl (by decide) (cok1 trivial) ?_
  refine dv (gyes_none rfl) (OpQ.cast (v' := .int .i64 ((m - a : Nat) : Int)) (q_int rfl rfl rfl) (congrArg _ ((i64_in (by omega)).trans (by omega)))) rfl (by decide) (cok2 trivial trivial) ?_
  refine dvb (gyes_none rfl) (q_int rfl rfl rfl) rfl (by decide) (cok2 trivial (cconst rfl)) (fun c1 => ?_) (fun c1 => ?_)
  ·
    replace c1 := eq_of_beq c1
    refine ⟨_, Wk.refl _ _, ?_⟩
    show awp _ _ _ _ _ _ _
    refine awp_cond_t rfl ?_
    refine awp_seq ?_
    refine awp_regs hF ?_
    refine dv (gyes_none rfl) (q_mv (v := .int .i64 ((m : Nat) : Int)) rfl) rfl (by decide) (cok1 trivial) ?_
    refine dv (gyes_none rfl) (q_as (v := .int .i64 ((m : Nat) : Int)) rfl) rfl (by decide) (cok1 trivial) ?_
    refine ⟨_, Wk.refl _ _, ?_⟩
    show awp _ _ _ _ _ _ _
    refine awp_seq ?_
    refine awp_regs hF ?_
    refine dv (gyes_none rfl) (q_mv (v := .int .i64 ((b : Nat) : Int)) rfl) rfl (by decide) (cok1 trivial) ?_
    refine dv (gyes_none rfl) (q_as (v := .int .i64 ((b : Nat) : Int)) rfl) rfl (by decide) (cok1 trivial) ?_
    refine ⟨_, Wk.refl _ _, ?_⟩
    show awp _ _ _ _ _ _ _
    refine awp_seq ?_
    refine awp_block ?_
    refine awp_wk (Wk.U [(0, .slice (some ⟨d, 0, none⟩) n n), (1, .int .i64 ((a : Nat) : Int)), (2, .int .i64 ((m : Nat) : Int)), (3, .int .i64 ((b : Nat) : Int)), (4, .func (.func 23) #[] #[.pointer (some ⟨bn, 0, none⟩), .pointer (some ⟨bk, 0, none⟩)]), (10, .int .i64 ((m : Nat) : Int)), (11, .int .i64 ((b : Nat) : Int))] ⟨rfl, rfl, rfl, rfl, rfl, rfl, rfl, trivial⟩) ?_
    refine awp_loop (fun ((i, j) : Nat × Nat) st => ∃ (H1 : AHeap), st = ⟨220, U [(0, .slice (some ⟨d, 0, none⟩) n n), (1, .int .i64 ((a : Nat) : Int)), (2, .int .i64 ((m : Nat) : Int)), (3, .int .i64 ((b : Nat) : Int)), (4, .func (.func 23) #[] #[.pointer (some ⟨bn, 0, none⟩), .pointer (some ⟨bk, 0, none⟩)]), (10, .int .i64 ((i : Nat) : Int)), (11, .int .i64 ((j : Nat) : Int))], [], H1⟩ ∧ St H0 ((· ∈ [d])) (Off H0 [d]) H1 [(d, .cells true (l.map i64v) 1)] ∧ (m ≤ i ∧ i ≤ j ∧ j ≤ b ∧ (∀ q, m ≤ q → q < i → (gkey names nb) (nth l q) < (gkey names nb) (nth l a)) ∧ (∀ q, j ≤ q → q < b → ¬ (gkey names nb) (nth l q) < (gkey names nb) (nth l a)))) (fun ((i, j) : Nat × Nat) => j - i) (x0 := (m, b)) ?h0 ?round
    case h0 =>
      exact ⟨_, rfl, s0, ⟨Nat.le_refl _, by omega, Nat.le_refl _, fun q q1 q2 => absurd q2 (by omega), fun q q1 q2 => absurd q2 (by omega)⟩⟩
    case round =>
      rintro ⟨i, j⟩ _ ⟨H1, rfl, s2, hq⟩
      dsimp only at *
      refine awp_seq ?_
      refine awp_seq ?_
      refine awp_regs hF ?_
      refine dv (gyes_none rfl) (q_mv (v := .int .i64 ((i : Nat) : Int)) rfl) rfl (by decide) (cok1 trivial) ?_
      refine dv (gyes_none rfl) (q_mv (v := .int .i64 ((j : Nat) : Int)) rfl) rfl (by decide) (cok1 trivial) ?_
      refine dvb (gyes_none rfl) (q_int rfl rfl rfl) rfl (by decide) (cok2 trivial trivial) (fun c2 => ?_) (fun c2 => ?_)
      ·
        replace c2 := of_decide_eq_true c2
        refine ⟨_, Wk.refl _ _, ?_⟩
        show awp _ _ _ _ _ _ _
        refine awp_cond_t rfl ?_
        refine awp_skip_wk ?_
        refine ⟨_, Wk.refl _ _, ?_⟩
        show awp _ _ _ _ _ _ _
        refine awp_block ?_
        refine awp_seq ?_
        refine awp_regs hF ?_
        refine dv (gyes_none rfl) (q_mv (v := .int .i64 ((i : Nat) : Int)) rfl) rfl (by decide) (cok1 trivial) ?_
        refine dv (gyes_none rfl) (q_mv (v := .int .i64 ((j : Nat) : Int)) rfl) rfl (by decide) (cok1 trivial) ?_
        refine dv (gyes_none rfl) (OpQ.cast (v' := .int .i64 ((i + j : Nat) : Int)) (q_int rfl rfl rfl) (congrArg _ ((i64_in (by omega)).trans (by first | rfl | omega | (push_cast; rfl))))) rfl (by decide) (cok2 trivial trivial) ?_
        refine dv (gyes_none rfl) (q_convin (a := ((i + j : Nat) : Int)) Try.underlying3 Try.underlying101 rfl (u64_in (by omega))) rfl (by decide) (cok1 trivial) ?_
        refine dv (gyes_none rfl) (OpQ.cast (v' := .int .u64 (((i + j) / 2 : Nat) : Int)) (q_shrN (a := (i + j)) (c := 1) rfl rfl (by show _ < 18446744073709551616; omega)) rfl) rfl (by decide) (cok2 trivial (cconst rfl)) ?_
        refine dv (gyes_none rfl) (q_convin (a := (((i + j) / 2 : Nat) : Int)) Try.underlying101 Try.underlying3 rfl (i64_in (by omega))) rfl (by decide) (cok1 trivial) ?_
        refine dv (gyes_none rfl) (q_as (v := .int .i64 (((i + j) / 2 : Nat) : Int)) rfl) rfl (by decide) (cok1 trivial) ?_
        refine ⟨_, Wk.refl _ _, ?_⟩
        show awp _ _ _ _ _ _ _
        refine awp_seq ?_
        refine awp_regt hF hM (by kernel_rfl) (by kernel_rfl) ?_
        refine dv (gyes_none rfl) (q_mv (v := .func (.func 23) #[] #[.pointer (some ⟨bn, 0, none⟩), .pointer (some ⟨bk, 0, none⟩)]) rfl) rfl (by decide) (cok1 trivial) ?_
        refine dv (gyes_none rfl) (q_mv (v := .slice (some ⟨d, 0, none⟩) n n) rfl) rfl (by decide) (cok1 trivial) ?_
        refine dv (gyes_none rfl) (q_mv (v := .int .i64 (((i + j) / 2 : Nat) : Int)) rfl) rfl (by decide) (cok1 trivial) ?_
        refine dv (gyes_none rfl) (OpQ.cast (v' := .pointer (some ⟨d, (i + j) / 2, none⟩)) (q_index1 (i := ((i + j) / 2)) Try.underlying25 Try.sizeOf3 rfl rfl (by omega) (s2.rd (j := 0) rfl)) (by rw [Nat.zero_add])) rfl (by decide) (cok2 trivial trivial) ?_
        refine dv (gyes_none rfl) (q_load (v := i64v (nth l ((i + j) / 2))) Try.isAgg3 rfl (s2.rd (j := 0) rfl) (get_nth (w := 0) (by omega))) rfl (by decide) (cok1 trivial) ?_
        refine dv (gyes_none rfl) (q_mv (v := .slice (some ⟨d, 0, none⟩) n n) rfl) rfl (by decide) (cok1 trivial) ?_
        refine dv (gyes_none rfl) (q_mv (v := .int .i64 ((a : Nat) : Int)) rfl) rfl (by decide) (cok1 trivial) ?_
        refine dv (gyes_none rfl) (OpQ.cast (v' := .pointer (some ⟨d, a, none⟩)) (q_index1 (i := a) Try.underlying25 Try.sizeOf3 rfl rfl (by omega) (s2.rd (j := 0) rfl)) (by rw [Nat.zero_add])) rfl (by decide) (cok2 trivial trivial) ?_
        refine dv (gyes_none rfl) (q_load (v := i64v (nth l a)) Try.isAgg3 rfl (s2.rd (j := 0) rfl) (get_nth (w := 0) (by omega))) rfl (by decide) (cok1 trivial) ?_
        refine dv (gyes_none rfl) (q_callv0 Try.call23 rfl rfl ((E.kp s2.kp).cmp (nth l ((i + j) / 2)) (nth l a) (lt_of_mem hlt (by omega)) (lt_of_mem hlt (by omega)))) rfl (by decide) (call_ok rfl) ?_
        refine dvb (gyes_none rfl) (q_int rfl rfl rfl) rfl (by decide) (cok2 trivial (cconst rfl)) (fun c3 => ?_) (fun c3 => ?_)
        ·
          replace c3 := of_decide_eq_true c3
          replace c3 := cmpN_lt.1 c3
          refine ⟨_, Wk.refl _ _, ?_⟩
          show awp _ _ _ _ _ _ _
          refine awp_cond_t rfl ?_
          refine awp_regs hF ?_
          refine dv (gyes_none rfl) (q_mv (v := .int .i64 (((i + j) / 2 : Nat) : Int)) rfl) rfl (by decide) (cok1 trivial) ?_
          refine dv (gyes_none rfl) (OpQ.cast (v' := .int .i64 (((i + j) / 2 + 1 : Nat) : Int)) (q_int rfl rfl rfl) (congrArg _ ((i64_in (by omega)).trans (by first | rfl | omega | (push_cast; rfl))))) rfl (by decide) (cok2 trivial (cconst rfl)) ?_
          refine dv (gyes_none rfl) (q_as (v := .int .i64 (((i + j) / 2 + 1 : Nat) : Int)) rfl) rfl (by decide) (cok1 trivial) ?_
          refine ⟨_, Wk.U [(0, .slice (some ⟨d, 0, none⟩) n n), (1, .int .i64 ((a : Nat) : Int)), (2, .int .i64 ((m : Nat) : Int)), (3, .int .i64 ((b : Nat) : Int)), (4, .func (.func 23) #[] #[.pointer (some ⟨bn, 0, none⟩), .pointer (some ⟨bk, 0, none⟩)]), (10, .int .i64 ((((i + j) / 2 + 1) : Nat) : Int)), (11, .int .i64 ((j : Nat) : Int))] ⟨rfl, rfl, rfl, rfl, rfl, rfl, rfl, trivial⟩, (((i + j) / 2 + 1), j), ⟨_, rfl, s2, ⟨by dsimp only; omega, by dsimp only; omega, by dsimp only; omega, fun q q1 q2 => Nat.lt_of_le_of_lt (hs.sr.le (p := q) (q := (i + j) / 2) q1 (by dsimp only at q2; omega) (by omega)) (by assumption), hq.2.2.2.2⟩⟩, (by omega)⟩
        ·
          replace c3 := of_decide_eq_false c3
          replace c3 := fun h => c3 (cmpN_lt.2 h)
          refine ⟨_, Wk.refl _ _, ?_⟩
          show awp _ _ _ _ _ _ _
          refine awp_cond_f rfl ?_
          refine awp_regs hF ?_
          refine dv (gyes_none rfl) (q_mv (v := .int .i64 (((i + j) / 2 : Nat) : Int)) rfl) rfl (by decide) (cok1 trivial) ?_
          refine dv (gyes_none rfl) (q_as (v := .int .i64 (((i + j) / 2 : Nat) : Int)) rfl) rfl (by decide) (cok1 trivial) ?_
          refine ⟨_, Wk.U [(0, .slice (some ⟨d, 0, none⟩) n n), (1, .int .i64 ((a : Nat) : Int)), (2, .int .i64 ((m : Nat) : Int)), (3, .int .i64 ((b : Nat) : Int)), (4, .func (.func 23) #[] #[.pointer (some ⟨bn, 0, none⟩), .pointer (some ⟨bk, 0, none⟩)]), (10, .int .i64 ((i : Nat) : Int)), (11, .int .i64 ((((i + j) / 2) : Nat) : Int))] ⟨rfl, rfl, rfl, rfl, rfl, rfl, rfl, trivial⟩, (i, ((i + j) / 2)), ⟨_, rfl, s2, ⟨by dsimp only; omega, by dsimp only; omega, by dsimp only; omega, hq.2.2.2.1, fun q q1 q2 h9 => absurd (Nat.lt_of_le_of_lt (hs.sr.le (p := (i + j) / 2) (q := q) (by omega) q1 q2) h9) (by assumption)⟩⟩, (by omega)⟩
      ·
        replace c2 := of_decide_eq_false c2
        refine ⟨_, Wk.refl _ _, ?_⟩
        show awp _ _ _ _ _ _ _
        refine awp_cond_f rfl ?_
        refine awp_exit_wk ?_
        refine ⟨_, Wk.refl _ _, ?_⟩
        show awp _ _ _ _ _ _ _
        refine awp_seq ?_
        refine awp_seq ?_
        refine awp_regs hF ?_
        refine dv (gyes_none rfl) (q_mv (v := .int .i64 ((a : Nat) : Int)) rfl) rfl (by decide) (cok1 trivial) ?_
        refine dv (gyes_none rfl) (q_as (v := .int .i64 ((a : Nat) : Int)) rfl) rfl (by decide) (cok1 trivial) ?_
        refine ⟨_, Wk.refl _ _, ?_⟩
        show awp _ _ _ _ _ _ _
        refine awp_block ?_
        have hij : i = j := by omega
        refine awp_wk (Wk.U [(0, .slice (some ⟨d, 0, none⟩) n n), (1, .int .i64 ((a : Nat) : Int)), (2, .int .i64 ((m : Nat) : Int)), (3, .int .i64 ((b : Nat) : Int)), (4, .func (.func 23) #[] #[.pointer (some ⟨bn, 0, none⟩), .pointer (some ⟨bk, 0, none⟩)]), (10, .int .i64 ((i : Nat) : Int)), (13, .int .i64 ((a : Nat) : Int))] ⟨rfl, rfl, rfl, rfl, rfl, rfl, rfl, trivial⟩) ?_
        refine awp_loop (fun ((u, l2) : Nat × (List Nat)) st => ∃ (H3 : AHeap), st = ⟨220, U [(0, .slice (some ⟨d, 0, none⟩) n n), (1, .int .i64 ((a : Nat) : Int)), (2, .int .i64 ((m : Nat) : Int)), (3, .int .i64 ((b : Nat) : Int)), (4, .func (.func 23) #[] #[.pointer (some ⟨bn, 0, none⟩), .pointer (some ⟨bk, 0, none⟩)]), (10, .int .i64 ((i : Nat) : Int)), (13, .int .i64 ((u : Nat) : Int))], [], H3⟩ ∧ St H0 ((· ∈ [d])) (Off H0 [d]) H3 [(d, .cells true (l2.map i64v) 1)] ∧ (ShA (gkey names nb) l2 a i b u ∧ Sw a b l l2)) (fun ((u, l2) : Nat × (List Nat)) => i - u) (x0 := (a, l)) ?h0 ?round
        case h0 =>
          exact ⟨_, rfl, s2, ⟨sha_start hs (by omega) (by omega) (by omega) hq.2.2.2.1 (by rw [hij]; exact hq.2.2.2.2), .refl⟩⟩
        case round =>
          rintro ⟨u, l2⟩ _ ⟨H3, rfl, s4, hu⟩
          dsimp only at *
          have hln : l2.length = n := hu.2.len.trans hn
          have hua := hu.1.ak
          have hui := hu.1.ki
          refine awp_seq ?_
          refine awp_seq ?_
          refine awp_regs hF ?_
          refine dv (gyes_none rfl) (q_mv (v := .int .i64 ((u : Nat) : Int)) rfl) rfl (by decide) (cok1 trivial) ?_
          refine dv (gyes_none rfl) (q_mv (v := .int .i64 ((i : Nat) : Int)) rfl) rfl (by decide) (cok1 trivial) ?_
          refine dv (gyes_none rfl) (OpQ.cast (v' := .int .i64 ((i - 1 : Nat) : Int)) (q_int rfl rfl rfl) (congrArg _ ((i64_in (by omega)).trans (by omega)))) rfl (by decide) (cok2 trivial (cconst rfl)) ?_
          refine dvb (gyes_none rfl) (q_int rfl rfl rfl) rfl (by decide) (cok2 trivial trivial) (fun c4 => ?_) (fun c4 => ?_)
          ·
            replace c4 := of_decide_eq_true c4
            refine ⟨_, Wk.refl _ _, ?_⟩
            show awp _ _ _ _ _ _ _
            refine awp_cond_t rfl ?_
            refine awp_skip_wk ?_
            refine ⟨_, Wk.refl _ _, ?_⟩
            show awp _ _ _ _ _ _ _
            refine awp_seq ?_
            refine awp_block ?_
            refine awp_regt hF hM (by kernel_rfl) (by kernel_rfl) ?_
            refine dv (gyes_none rfl) (q_mv (v := .slice (some ⟨d, 0, none⟩) n n) rfl) rfl (by decide) (cok1 trivial) ?_
            refine dv (gyes_none rfl) (q_mv (v := .int .i64 ((u : Nat) : Int)) rfl) rfl (by decide) (cok1 trivial) ?_
            refine dv (gyes_none rfl) (q_mv (v := .slice (some ⟨d, 0, none⟩) n n) rfl) rfl (by decide) (cok1 trivial) ?_
            refine dv (gyes_none rfl) (q_mv (v := .int .i64 ((u : Nat) : Int)) rfl) rfl (by decide) (cok1 trivial) ?_
            refine dv (gyes_none rfl) (OpQ.cast (v' := .int .i64 ((u + 1 : Nat) : Int)) (q_int rfl rfl rfl) (congrArg _ ((i64_in (by omega)).trans (by first | rfl | omega | (push_cast; rfl))))) rfl (by decide) (cok2 trivial (cconst rfl)) ?_
            refine dv (gyes_none rfl) (q_mv (v := .slice (some ⟨d, 0, none⟩) n n) rfl) rfl (by decide) (cok1 trivial) ?_
            refine dv (gyes_none rfl) (q_mv (v := .int .i64 ((u : Nat) : Int)) rfl) rfl (by decide) (cok1 trivial) ?_
            refine dv (gyes_none rfl) (OpQ.cast (v' := .int .i64 ((u + 1 : Nat) : Int)) (q_int rfl rfl rfl) (congrArg _ ((i64_in (by omega)).trans (by first | rfl | omega | (push_cast; rfl))))) rfl (by decide) (cok2 trivial (cconst rfl)) ?_
            refine dv (gyes_none rfl) (OpQ.cast (v' := .pointer (some ⟨d, u + 1, none⟩)) (q_index1 (i := (u + 1)) Try.underlying25 Try.sizeOf3 rfl rfl (by omega) (s4.rd (j := 0) rfl)) (by rw [Nat.zero_add])) rfl (by decide) (cok2 trivial trivial) ?_
            refine dv (gyes_none rfl) (q_load (v := i64v (nth l2 (u + 1))) Try.isAgg3 rfl (s4.rd (j := 0) rfl) (get_nth (w := 0) (by omega))) rfl (by decide) (cok1 trivial) ?_
            refine dv (gyes_none rfl) (q_mv (v := .slice (some ⟨d, 0, none⟩) n n) rfl) rfl (by decide) (cok1 trivial) ?_
            refine dv (gyes_none rfl) (q_mv (v := .int .i64 ((u : Nat) : Int)) rfl) rfl (by decide) (cok1 trivial) ?_
            refine dv (gyes_none rfl) (OpQ.cast (v' := .pointer (some ⟨d, u, none⟩)) (q_index1 (i := u) Try.underlying25 Try.sizeOf3 rfl rfl (by omega) (s4.rd (j := 0) rfl)) (by rw [Nat.zero_add])) rfl (by decide) (cok2 trivial trivial) ?_
            refine dv (gyes_none rfl) (q_load (v := i64v (nth l2 u)) Try.isAgg3 rfl (s4.rd (j := 0) rfl) (get_nth (w := 0) (by omega))) rfl (by decide) (cok1 trivial) ?_
            refine dv (gyes_none rfl) (OpQ.cast (v' := .pointer (some ⟨d, u, none⟩)) (q_index1 (i := u) Try.underlying25 Try.sizeOf3 rfl rfl (by omega) (s4.rd (j := 0) rfl)) (by rw [Nat.zero_add])) rfl (by decide) (cok2 trivial trivial) ?_
            refine x_store1 [2, 3, 4] hF s4 (by kernel_rfl) (gyes_none rfl) (j := 0) (v := i64v (nth l2 (u + 1))) rfl Try.sizeOf3 rfl rfl rfl (lc_scalar rfl) (by rw [List.length_map]; omega) trivial trivial rfl rfl (F' := [(d, .cells true ((l2.set u (nth l2 (u + 1))).map i64v) 1)]) (by simp only [set_map1]; rfl) (fun H5 s6 => ⟨?_, ?_⟩)
            · exact ⟨pend_yes rfl (gyes_none rfl) (q_mv (v := .slice (some ⟨d, 0, none⟩) n n) rfl) rfl (by decide) (cok1 trivial) rfl, pend_yes rfl (gyes_none rfl) (q_mv (v := .int .i64 ((u : Nat) : Int)) rfl) rfl (by decide) (cok1 trivial) rfl, pend_yes rfl (gyes_none rfl) (OpQ.cast (v' := .int .i64 ((u + 1 : Nat) : Int)) (q_int rfl rfl rfl) (congrArg _ ((i64_in (by omega)).trans (by first | rfl | omega | (push_cast; rfl))))) rfl (by decide) (cok2 trivial (cconst rfl)) rfl, trivial⟩
            refine dv (gyes_none rfl) (OpQ.cast (v' := .pointer (some ⟨d, u + 1, none⟩)) (q_index1 (i := (u + 1)) Try.underlying25 Try.sizeOf3 rfl rfl (by omega) (s6.rd (j := 0) rfl)) (by rw [Nat.zero_add])) rfl (by decide) (cok2 trivial trivial) ?_
            refine x_store1 [] hF s6 (by kernel_rfl) (gyes_none rfl) (j := 0) (v := i64v (nth l2 u)) rfl Try.sizeOf3 rfl rfl rfl (lc_scalar rfl) (by rw [List.length_map, List.length_set]; omega) trivial trivial rfl rfl (F' := [(d, .cells true (((l2.set u (nth l2 (u + 1))).set (u + 1) (nth l2 u)).map i64v) 1)]) (by simp only [set_map1]; rfl) (fun H7 s8 => ⟨?_, ?_⟩)
            · exact trivial
            refine ⟨_, Wk.refl _ _, ?_⟩
            show awp _ _ _ _ _ _ _
            refine awp_regs hF ?_
            refine dv (gyes_none rfl) (q_mv (v := .int .i64 ((u : Nat) : Int)) rfl) rfl (by decide) (cok1 trivial) ?_
            refine dv (gyes_none rfl) (OpQ.cast (v' := .int .i64 ((u + 1 : Nat) : Int)) (q_int rfl rfl rfl) (congrArg _ ((i64_in (by omega)).trans (by first | rfl | omega | (push_cast; rfl))))) rfl (by decide) (cok2 trivial (cconst rfl)) ?_
            refine dv (gyes_none rfl) (q_as (v := .int .i64 ((u + 1 : Nat) : Int)) rfl) rfl (by decide) (cok1 trivial) ?_
            refine ⟨_, Wk.U [(0, .slice (some ⟨d, 0, none⟩) n n), (1, .int .i64 ((a : Nat) : Int)), (2, .int .i64 ((m : Nat) : Int)), (3, .int .i64 ((b : Nat) : Int)), (4, .func (.func 23) #[] #[.pointer (some ⟨bn, 0, none⟩), .pointer (some ⟨bk, 0, none⟩)]), (10, .int .i64 ((i : Nat) : Int)), (13, .int .i64 (((u + 1) : Nat) : Int))] ⟨rfl, rfl, rfl, rfl, rfl, rfl, rfl, trivial⟩, ((u + 1), ((l2.set u (nth l2 (u + 1))).set (u + 1) (nth l2 u))), ⟨_, rfl, s8, ⟨sha_step hu.1 (by omega) (by omega), hu.2.step (by omega) (by omega) (by omega) (by omega) (by omega)⟩⟩, (by omega)⟩
          ·
            replace c4 := of_decide_eq_false c4
            refine ⟨_, Wk.refl _ _, ?_⟩
            show awp _ _ _ _ _ _ _
            refine awp_cond_f rfl ?_
            refine awp_exit_wk ?_
            refine ⟨_, Wk.refl _ _, ?_⟩
            show awp _ _ _ _ _ _ _
            refine awp_ret_wk ?_
            refine ⟨_, Wk.refl _ _, ?_⟩
            repeat (with_reducible first | refine then_ret ?_ | refine blk_ret ?_ | refine then_exit ?_ | refine blk_exit ?_ | refine blk_exit' (by decide) ?_ | refine blk_normal ?_ | refine then_normal ?_ | refine retq_ret ?_ | refine retq_normal ?_ | refine ng_normal ?_ | refine ng_ret ?_ | refine ng_exit ?_)
            refine ret_is (v := .tuple #[]) rfl .nil rfl ?_
            exact ⟨rfl, s4.kp, _, hu.2, sha_end hu.1 (by omega), s4.getj (j := 0) rfl⟩
  ·
    replace c1 := ne_of_beq_false c1
    refine ⟨_, Wk.refl _ _, ?_⟩
    show awp _ _ _ _ _ _ _
    refine awp_cond_f rfl ?_
    refine awp_skip_wk ?_
    refine ⟨_, Wk.refl _ _, ?_⟩
    show awp _ _ _ _ _ _ _
    refine awp_seq ?_
    refine awp_seq ?_
    refine awp_regs hF ?_
    refine dv (gyes_none rfl) (q_mv (v := .int .i64 ((b : Nat) : Int)) rfl) rfl (by decide) (cok1 trivial) ?_
    refine dv (gyes_none rfl) (q_mv (v := .int .i64 ((m : Nat) : Int)) rfl) rfl (by decide) (cok1 trivial) ?_
    refine dv (gyes_none rfl) (OpQ.cast (v' := .int .i64 ((b - m : Nat) : Int)) (q_int rfl rfl rfl) (congrArg _ ((i64_in (by omega)).trans (by omega)))) rfl (by decide) (cok2 trivial trivial) ?_
    refine dvb (gyes_none rfl) (q_int rfl rfl rfl) rfl (by decide) (cok2 trivial (cconst rfl)) (fun c5 => ?_) (fun c5 => ?_)
    ·
      replace c5 := eq_of_beq c5
      refine ⟨_, Wk.refl _ _, ?_⟩
      show awp _ _ _ _ _ _ _
      refine awp_cond_t rfl ?_
      refine awp_seq ?_
      refine awp_regs hF ?_
      refine dv (gyes_none rfl) (q_mv (v := .int .i64 ((a : Nat) : Int)) rfl) rfl (by decide) (cok1 trivial) ?_
      refine dv (gyes_none rfl) (q_as (v := .int .i64 ((a : Nat) : Int)) rfl) rfl (by decide) (cok1 trivial) ?_
      refine ⟨_, Wk.refl _ _, ?_⟩
      show awp _ _ _ _ _ _ _
      refine awp_seq ?_
      refine awp_regs hF ?_
      refine dv (gyes_none rfl) (q_mv (v := .int .i64 ((m : Nat) : Int)) rfl) rfl (by decide) (cok1 trivial) ?_
      refine dv (gyes_none rfl) (q_as (v := .int .i64 ((m : Nat) : Int)) rfl) rfl (by decide) (cok1 trivial) ?_
      refine ⟨_, Wk.refl _ _, ?_⟩
      show awp _ _ _ _ _ _ _
      refine awp_seq ?_
      refine awp_block ?_
      refine awp_wk (Wk.U [(0, .slice (some ⟨d, 0, none⟩) n n), (1, .int .i64 ((a : Nat) : Int)), (2, .int .i64 ((m : Nat) : Int)), (3, .int .i64 ((b : Nat) : Int)), (4, .func (.func 23) #[] #[.pointer (some ⟨bn, 0, none⟩), .pointer (some ⟨bk, 0, none⟩)]), (14, .int .i64 ((a : Nat) : Int)), (15, .int .i64 ((m : Nat) : Int))] ⟨rfl, rfl, rfl, rfl, rfl, rfl, rfl, trivial⟩) ?_
      refine awp_loop (fun ((i, j) : Nat × Nat) st => ∃ (H9 : AHeap), st = ⟨220, U [(0, .slice (some ⟨d, 0, none⟩) n n), (1, .int .i64 ((a : Nat) : Int)), (2, .int .i64 ((m : Nat) : Int)), (3, .int .i64 ((b : Nat) : Int)), (4, .func (.func 23) #[] #[.pointer (some ⟨bn, 0, none⟩), .pointer (some ⟨bk, 0, none⟩)]), (14, .int .i64 ((i : Nat) : Int)), (15, .int .i64 ((j : Nat) : Int))], [], H9⟩ ∧ St H0 ((· ∈ [d])) (Off H0 [d]) H9 [(d, .cells true (l.map i64v) 1)] ∧ (a ≤ i ∧ i ≤ j ∧ j ≤ m ∧ (∀ q, a ≤ q → q < i → ¬ (gkey names nb) (nth l m) < (gkey names nb) (nth l q)) ∧ (∀ q, j ≤ q → q < m → (gkey names nb) (nth l m) < (gkey names nb) (nth l q)))) (fun ((i, j) : Nat × Nat) => j - i) (x0 := (a, m)) ?h0 ?round
      case h0 =>
        exact ⟨_, rfl, s0, ⟨Nat.le_refl _, by omega, Nat.le_refl _, fun q q1 q2 => absurd q2 (by omega), fun q q1 q2 => absurd q2 (by omega)⟩⟩
      case round =>
        rintro ⟨i, j⟩ _ ⟨H9, rfl, s10, hq⟩
        dsimp only at *
        refine awp_seq ?_
        refine awp_seq ?_
        refine awp_regs hF ?_
        refine dv (gyes_none rfl) (q_mv (v := .int .i64 ((i : Nat) : Int)) rfl) rfl (by decide) (cok1 trivial) ?_
        refine dv (gyes_none rfl) (q_mv (v := .int .i64 ((j : Nat) : Int)) rfl) rfl (by decide) (cok1 trivial) ?_
        refine dvb (gyes_none rfl) (q_int rfl rfl rfl) rfl (by decide) (cok2 trivial trivial) (fun c6 => ?_) (fun c6 => ?_)
        ·
          replace c6 := of_decide_eq_true c6
          refine ⟨_, Wk.refl _ _, ?_⟩
          show awp _ _ _ _ _ _ _
          refine awp_cond_t rfl ?_
          refine awp_skip_wk ?_
          refine ⟨_, Wk.refl _ _, ?_⟩
          show awp _ _ _ _ _ _ _
          refine awp_block ?_
          refine awp_seq ?_
          refine awp_regs hF ?_
          refine dv (gyes_none rfl) (q_mv (v := .int .i64 ((i : Nat) : Int)) rfl) rfl (by decide) (cok1 trivial) ?_
          refine dv (gyes_none rfl) (q_mv (v := .int .i64 ((j : Nat) : Int)) rfl) rfl (by decide) (cok1 trivial) ?_
          refine dv (gyes_none rfl) (OpQ.cast (v' := .int .i64 ((i + j : Nat) : Int)) (q_int rfl rfl rfl) (congrArg _ ((i64_in (by omega)).trans (by first | rfl | omega | (push_cast; rfl))))) rfl (by decide) (cok2 trivial trivial) ?_
          refine dv (gyes_none rfl) (q_convin (a := ((i + j : Nat) : Int)) Try.underlying3 Try.underlying101 rfl (u64_in (by omega))) rfl (by decide) (cok1 trivial) ?_
          refine dv (gyes_none rfl) (OpQ.cast (v' := .int .u64 (((i + j) / 2 : Nat) : Int)) (q_shrN (a := (i + j)) (c := 1) rfl rfl (by show _ < 18446744073709551616; omega)) rfl) rfl (by decide) (cok2 trivial (cconst rfl)) ?_
          refine dv (gyes_none rfl) (q_convin (a := (((i + j) / 2 : Nat) : Int)) Try.underlying101 Try.underlying3 rfl (i64_in (by omega))) rfl (by decide) (cok1 trivial) ?_
          refine dv (gyes_none rfl) (q_as (v := .int .i64 (((i + j) / 2 : Nat) : Int)) rfl) rfl (by decide) (cok1 trivial) ?_
          refine ⟨_, Wk.refl _ _, ?_⟩
          show awp _ _ _ _ _ _ _
          refine awp_seq ?_
          refine awp_regt hF hM (by kernel_rfl) (by kernel_rfl) ?_
          refine dv (gyes_none rfl) (q_mv (v := .func (.func 23) #[] #[.pointer (some ⟨bn, 0, none⟩), .pointer (some ⟨bk, 0, none⟩)]) rfl) rfl (by decide) (cok1 trivial) ?_
          refine dv (gyes_none rfl) (q_mv (v := .slice (some ⟨d, 0, none⟩) n n) rfl) rfl (by decide) (cok1 trivial) ?_
          refine dv (gyes_none rfl) (q_mv (v := .int .i64 ((m : Nat) : Int)) rfl) rfl (by decide) (cok1 trivial) ?_
          refine dv (gyes_none rfl) (OpQ.cast (v' := .pointer (some ⟨d, m, none⟩)) (q_index1 (i := m) Try.underlying25 Try.sizeOf3 rfl rfl (by omega) (s10.rd (j := 0) rfl)) (by rw [Nat.zero_add])) rfl (by decide) (cok2 trivial trivial) ?_
          refine dv (gyes_none rfl) (q_load (v := i64v (nth l m)) Try.isAgg3 rfl (s10.rd (j := 0) rfl) (get_nth (w := 0) (by omega))) rfl (by decide) (cok1 trivial) ?_
          refine dv (gyes_none rfl) (q_mv (v := .slice (some ⟨d, 0, none⟩) n n) rfl) rfl (by decide) (cok1 trivial) ?_
          refine dv (gyes_none rfl) (q_mv (v := .int .i64 (((i + j) / 2 : Nat) : Int)) rfl) rfl (by decide) (cok1 trivial) ?_
          refine dv (gyes_none rfl) (OpQ.cast (v' := .pointer (some ⟨d, (i + j) / 2, none⟩)) (q_index1 (i := ((i + j) / 2)) Try.underlying25 Try.sizeOf3 rfl rfl (by omega) (s10.rd (j := 0) rfl)) (by rw [Nat.zero_add])) rfl (by decide) (cok2 trivial trivial) ?_
          refine dv (gyes_none rfl) (q_load (v := i64v (nth l ((i + j) / 2))) Try.isAgg3 rfl (s10.rd (j := 0) rfl) (get_nth (w := 0) (by omega))) rfl (by decide) (cok1 trivial) ?_
          refine dv (gyes_none rfl) (q_callv0 Try.call23 rfl rfl ((E.kp s10.kp).cmp (nth l m) (nth l ((i + j) / 2)) (lt_of_mem hlt (by omega)) (lt_of_mem hlt (by omega)))) rfl (by decide) (call_ok rfl) ?_
          refine dvb (gyes_none rfl) (q_int rfl rfl rfl) rfl (by decide) (cok2 trivial (cconst rfl)) (fun c7 => ?_) (fun c7 => ?_)
          ·
            replace c7 := of_decide_eq_true c7
            replace c7 := cmpN_lt.1 c7
            refine dv (gyes_none rfl) (q_not (b := true) rfl) rfl (by decide) (cok1 trivial) ?_
            refine ⟨_, Wk.refl _ _, ?_⟩
            show awp _ _ _ _ _ _ _
            refine awp_cond_f rfl ?_
            refine awp_regs hF ?_
            refine dv (gyes_none rfl) (q_mv (v := .int .i64 (((i + j) / 2 : Nat) : Int)) rfl) rfl (by decide) (cok1 trivial) ?_
            refine dv (gyes_none rfl) (q_as (v := .int .i64 (((i + j) / 2 : Nat) : Int)) rfl) rfl (by decide) (cok1 trivial) ?_
            refine ⟨_, Wk.U [(0, .slice (some ⟨d, 0, none⟩) n n), (1, .int .i64 ((a : Nat) : Int)), (2, .int .i64 ((m : Nat) : Int)), (3, .int .i64 ((b : Nat) : Int)), (4, .func (.func 23) #[] #[.pointer (some ⟨bn, 0, none⟩), .pointer (some ⟨bk, 0, none⟩)]), (14, .int .i64 ((i : Nat) : Int)), (15, .int .i64 ((((i + j) / 2) : Nat) : Int))] ⟨rfl, rfl, rfl, rfl, rfl, rfl, rfl, trivial⟩, (i, ((i + j) / 2)), ⟨_, rfl, s10, ⟨by dsimp only; omega, by dsimp only; omega, by dsimp only; omega, hq.2.2.2.1, fun q q1 q2 => Nat.lt_of_lt_of_le (by assumption) (hs.sl.le (p := (i + j) / 2) (q := q) (by omega) q1 q2)⟩⟩, (by omega)⟩
          ·
            replace c7 := of_decide_eq_false c7
            replace c7 := fun h => c7 (cmpN_lt.2 h)
            refine dv (gyes_none rfl) (q_not (b := false) rfl) rfl (by decide) (cok1 trivial) ?_
            refine ⟨_, Wk.refl _ _, ?_⟩
            show awp _ _ _ _ _ _ _
            refine awp_cond_t rfl ?_
            refine awp_regs hF ?_
            refine dv (gyes_none rfl) (q_mv (v := .int .i64 (((i + j) / 2 : Nat) : Int)) rfl) rfl (by decide) (cok1 trivial) ?_
            refine dv (gyes_none rfl) (OpQ.cast (v' := .int .i64 (((i + j) / 2 + 1 : Nat) : Int)) (q_int rfl rfl rfl) (congrArg _ ((i64_in (by omega)).trans (by first | rfl | omega | (push_cast; rfl))))) rfl (by decide) (cok2 trivial (cconst rfl)) ?_
            refine dv (gyes_none rfl) (q_as (v := .int .i64 (((i + j) / 2 + 1 : Nat) : Int)) rfl) rfl (by decide) (cok1 trivial) ?_
            refine ⟨_, Wk.U [(0, .slice (some ⟨d, 0, none⟩) n n), (1, .int .i64 ((a : Nat) : Int)), (2, .int .i64 ((m : Nat) : Int)), (3, .int .i64 ((b : Nat) : Int)), (4, .func (.func 23) #[] #[.pointer (some ⟨bn, 0, none⟩), .pointer (some ⟨bk, 0, none⟩)]), (14, .int .i64 ((((i + j) / 2 + 1) : Nat) : Int)), (15, .int .i64 ((j : Nat) : Int))] ⟨rfl, rfl, rfl, rfl, rfl, rfl, rfl, trivial⟩, (((i + j) / 2 + 1), j), ⟨_, rfl, s10, ⟨by dsimp only; omega, by dsimp only; omega, by dsimp only; omega, fun q q1 q2 h9 => absurd (Nat.lt_of_lt_of_le h9 (hs.sl.le (p := q) (q := (i + j) / 2) q1 (by dsimp only at q2; omega) (by omega))) (by assumption), hq.2.2.2.2⟩⟩, (by omega)⟩
        ·
          replace c6 := of_decide_eq_false c6
          refine ⟨_, Wk.refl _ _, ?_⟩
          show awp _ _ _ _ _ _ _
          refine awp_cond_f rfl ?_
          refine awp_exit_wk ?_
          refine ⟨_, Wk.refl _ _, ?_⟩
          show awp _ _ _ _ _ _ _
          refine awp_seq ?_
          refine awp_seq ?_
          refine awp_regs hF ?_
          refine dv (gyes_none rfl) (q_mv (v := .int .i64 ((m : Nat) : Int)) rfl) rfl (by decide) (cok1 trivial) ?_
          refine dv (gyes_none rfl) (q_as (v := .int .i64 ((m : Nat) : Int)) rfl) rfl (by decide) (cok1 trivial) ?_
          refine ⟨_, Wk.refl _ _, ?_⟩
          show awp _ _ _ _ _ _ _
          refine awp_block ?_
          have hij : i = j := by omega
          refine awp_wk (Wk.U [(0, .slice (some ⟨d, 0, none⟩) n n), (1, .int .i64 ((a : Nat) : Int)), (2, .int .i64 ((m : Nat) : Int)), (3, .int .i64 ((b : Nat) : Int)), (4, .func (.func 23) #[] #[.pointer (some ⟨bn, 0, none⟩), .pointer (some ⟨bk, 0, none⟩)]), (14, .int .i64 ((i : Nat) : Int)), (17, .int .i64 ((m : Nat) : Int))] ⟨rfl, rfl, rfl, rfl, rfl, rfl, rfl, trivial⟩) ?_
          refine awp_loop (fun ((u, l2) : Nat × (List Nat)) st => ∃ (H11 : AHeap), st = ⟨220, U [(0, .slice (some ⟨d, 0, none⟩) n n), (1, .int .i64 ((a : Nat) : Int)), (2, .int .i64 ((m : Nat) : Int)), (3, .int .i64 ((b : Nat) : Int)), (4, .func (.func 23) #[] #[.pointer (some ⟨bn, 0, none⟩), .pointer (some ⟨bk, 0, none⟩)]), (14, .int .i64 ((i : Nat) : Int)), (17, .int .i64 ((u : Nat) : Int))], [], H11⟩ ∧ St H0 ((· ∈ [d])) (Off H0 [d]) H11 [(d, .cells true (l2.map i64v) 1)] ∧ (ShB (gkey names nb) l2 a i b u ∧ Sw a b l l2)) (fun ((u, l2) : Nat × (List Nat)) => u) (x0 := (m, l)) ?h0 ?round
          case h0 =>
            exact ⟨_, rfl, s10, ⟨shb_start hs (by omega) (by omega) (by omega) hq.2.2.2.1 (by rw [hij]; exact hq.2.2.2.2), .refl⟩⟩
          case round =>
            rintro ⟨u, l2⟩ _ ⟨H11, rfl, s12, hu⟩
            dsimp only at *
            have hln : l2.length = n := hu.2.len.trans hn
            have hua := hu.1.ai
            have hui := hu.1.ik
            have huk := hu.1.kb
            refine awp_seq ?_
            refine awp_seq ?_
            refine awp_regs hF ?_
            refine dv (gyes_none rfl) (q_mv (v := .int .i64 ((u : Nat) : Int)) rfl) rfl (by decide) (cok1 trivial) ?_
            refine dv (gyes_none rfl) (q_mv (v := .int .i64 ((i : Nat) : Int)) rfl) rfl (by decide) (cok1 trivial) ?_
            refine dvb (gyes_none rfl) (q_int rfl rfl rfl) rfl (by decide) (cok2 trivial trivial) (fun c8 => ?_) (fun c8 => ?_)
            ·
              replace c8 := of_decide_eq_true c8
              refine ⟨_, Wk.refl _ _, ?_⟩
              show awp _ _ _ _ _ _ _
              refine awp_cond_t rfl ?_
              refine awp_skip_wk ?_
              refine ⟨_, Wk.refl _ _, ?_⟩
              show awp _ _ _ _ _ _ _
              refine awp_seq ?_
              refine awp_block ?_
              refine awp_regt hF hM (by kernel_rfl) (by kernel_rfl) ?_
              refine dv (gyes_none rfl) (q_mv (v := .slice (some ⟨d, 0, none⟩) n n) rfl) rfl (by decide) (cok1 trivial) ?_
              refine dv (gyes_none rfl) (q_mv (v := .int .i64 ((u : Nat) : Int)) rfl) rfl (by decide) (cok1 trivial) ?_
              refine dv (gyes_none rfl) (q_mv (v := .slice (some ⟨d, 0, none⟩) n n) rfl) rfl (by decide) (cok1 trivial) ?_
              refine dv (gyes_none rfl) (q_mv (v := .int .i64 ((u : Nat) : Int)) rfl) rfl (by decide) (cok1 trivial) ?_
              refine dv (gyes_none rfl) (OpQ.cast (v' := .int .i64 ((u - 1 : Nat) : Int)) (q_int rfl rfl rfl) (congrArg _ ((i64_in (by omega)).trans (by omega)))) rfl (by decide) (cok2 trivial (cconst rfl)) ?_
              refine dv (gyes_none rfl) (q_mv (v := .slice (some ⟨d, 0, none⟩) n n) rfl) rfl (by decide) (cok1 trivial) ?_
              refine dv (gyes_none rfl) (q_mv (v := .int .i64 ((u : Nat) : Int)) rfl) rfl (by decide) (cok1 trivial) ?_
              refine dv (gyes_none rfl) (OpQ.cast (v' := .int .i64 ((u - 1 : Nat) : Int)) (q_int rfl rfl rfl) (congrArg _ ((i64_in (by omega)).trans (by omega)))) rfl (by decide) (cok2 trivial (cconst rfl)) ?_
              refine dv (gyes_none rfl) (OpQ.cast (v' := .pointer (some ⟨d, u - 1, none⟩)) (q_index1 (i := (u - 1)) Try.underlying25 Try.sizeOf3 rfl rfl (by omega) (s12.rd (j := 0) rfl)) (by rw [Nat.zero_add])) rfl (by decide) (cok2 trivial trivial) ?_
              refine dv (gyes_none rfl) (q_load (v := i64v (nth l2 (u - 1))) Try.isAgg3 rfl (s12.rd (j := 0) rfl) (get_nth (w := 0) (by omega))) rfl (by decide) (cok1 trivial) ?_
              refine dv (gyes_none rfl) (q_mv (v := .slice (some ⟨d, 0, none⟩) n n) rfl) rfl (by decide) (cok1 trivial) ?_
              refine dv (gyes_none rfl) (q_mv (v := .int .i64 ((u : Nat) : Int)) rfl) rfl (by decide) (cok1 trivial) ?_
              refine dv (gyes_none rfl) (OpQ.cast (v' := .pointer (some ⟨d, u, none⟩)) (q_index1 (i := u) Try.underlying25 Try.sizeOf3 rfl rfl (by omega) (s12.rd (j := 0) rfl)) (by rw [Nat.zero_add])) rfl (by decide) (cok2 trivial trivial) ?_
              refine dv (gyes_none rfl) (q_load (v := i64v (nth l2 u)) Try.isAgg3 rfl (s12.rd (j := 0) rfl) (get_nth (w := 0) (by omega))) rfl (by decide) (cok1 trivial) ?_
              refine dv (gyes_none rfl) (OpQ.cast (v' := .pointer (some ⟨d, u, none⟩)) (q_index1 (i := u) Try.underlying25 Try.sizeOf3 rfl rfl (by omega) (s12.rd (j := 0) rfl)) (by rw [Nat.zero_add])) rfl (by decide) (cok2 trivial trivial) ?_
              refine x_store1 [2, 3, 4] hF s12 (by kernel_rfl) (gyes_none rfl) (j := 0) (v := i64v (nth l2 (u - 1))) rfl Try.sizeOf3 rfl rfl rfl (lc_scalar rfl) (by rw [List.length_map]; omega) trivial trivial rfl rfl (F' := [(d, .cells true ((l2.set u (nth l2 (u - 1))).map i64v) 1)]) (by simp only [set_map1]; rfl) (fun H13 s14 => ⟨?_, ?_⟩)
              · exact ⟨pend_yes rfl (gyes_none rfl) (q_mv (v := .slice (some ⟨d, 0, none⟩) n n) rfl) rfl (by decide) (cok1 trivial) rfl, pend_yes rfl (gyes_none rfl) (q_mv (v := .int .i64 ((u : Nat) : Int)) rfl) rfl (by decide) (cok1 trivial) rfl, pend_yes rfl (gyes_none rfl) (OpQ.cast (v' := .int .i64 ((u - 1 : Nat) : Int)) (q_int rfl rfl rfl) (congrArg _ ((i64_in (by omega)).trans (by omega)))) rfl (by decide) (cok2 trivial (cconst rfl)) rfl, trivial⟩
              refine dv (gyes_none rfl) (OpQ.cast (v' := .pointer (some ⟨d, u - 1, none⟩)) (q_index1 (i := (u - 1)) Try.underlying25 Try.sizeOf3 rfl rfl (by omega) (s14.rd (j := 0) rfl)) (by rw [Nat.zero_add])) rfl (by decide) (cok2 trivial trivial) ?_
              refine x_store1 [] hF s14 (by kernel_rfl) (gyes_none rfl) (j := 0) (v := i64v (nth l2 u)) rfl Try.sizeOf3 rfl rfl rfl (lc_scalar rfl) (by rw [List.length_map, List.length_set]; omega) trivial trivial rfl rfl (F' := [(d, .cells true (((l2.set u (nth l2 (u - 1))).set (u - 1) (nth l2 u)).map i64v) 1)]) (by simp only [set_map1]; rfl) (fun H15 s16 => ⟨?_, ?_⟩)
              · exact trivial
              refine ⟨_, Wk.refl _ _, ?_⟩
              show awp _ _ _ _ _ _ _
              refine awp_regs hF ?_
              refine dv (gyes_none rfl) (q_mv (v := .int .i64 ((u : Nat) : Int)) rfl) rfl (by decide) (cok1 trivial) ?_
              refine dv (gyes_none rfl) (OpQ.cast (v' := .int .i64 ((u - 1 : Nat) : Int)) (q_int rfl rfl rfl) (congrArg _ ((i64_in (by omega)).trans (by omega)))) rfl (by decide) (cok2 trivial (cconst rfl)) ?_
              refine dv (gyes_none rfl) (q_as (v := .int .i64 ((u - 1 : Nat) : Int)) rfl) rfl (by decide) (cok1 trivial) ?_
              refine ⟨_, Wk.U [(0, .slice (some ⟨d, 0, none⟩) n n), (1, .int .i64 ((a : Nat) : Int)), (2, .int .i64 ((m : Nat) : Int)), (3, .int .i64 ((b : Nat) : Int)), (4, .func (.func 23) #[] #[.pointer (some ⟨bn, 0, none⟩), .pointer (some ⟨bk, 0, none⟩)]), (14, .int .i64 ((i : Nat) : Int)), (17, .int .i64 (((u - 1) : Nat) : Int))] ⟨rfl, rfl, rfl, rfl, rfl, rfl, rfl, trivial⟩, ((u - 1), ((l2.set u (nth l2 (u - 1))).set (u - 1) (nth l2 u))), ⟨_, rfl, s16, ⟨shb_step hu.1 (by omega) (by omega), hu.2.step (by omega) (by omega) (by omega) (by omega) (by omega)⟩⟩, (by omega)⟩
            ·
              replace c8 := of_decide_eq_false c8
              refine ⟨_, Wk.refl _ _, ?_⟩
              show awp _ _ _ _ _ _ _
              refine awp_cond_f rfl ?_
              refine awp_exit_wk ?_
              refine ⟨_, Wk.refl _ _, ?_⟩
              show awp _ _ _ _ _ _ _
              refine awp_ret_wk ?_
              refine ⟨_, Wk.refl _ _, ?_⟩
              repeat (with_reducible first | refine then_ret ?_ | refine blk_ret ?_ | refine then_exit ?_ | refine blk_exit ?_ | refine blk_exit' (by decide) ?_ | refine blk_normal ?_ | refine then_normal ?_ | refine retq_ret ?_ | refine retq_normal ?_ | refine ng_normal ?_ | refine ng_ret ?_ | refine ng_exit ?_)
              refine ret_is (v := .tuple #[]) rfl .nil rfl ?_
              exact ⟨rfl, s12.kp, _, hu.2, shb_end hu.1 (by omega), s12.getj (j := 0) rfl⟩
    ·
      replace c5 := ne_of_beq_false c5
      refine ⟨_, Wk.refl _ _, ?_⟩
      show awp _ _ _ _ _ _ _
      refine awp_cond_f rfl ?_
      refine awp_skip_wk ?_
      refine ⟨_, Wk.refl _ _, ?_⟩
      show awp _ _ _ _ _ _ _
      refine awp_seq ?_
      refine awp_regs hF ?_
      refine dv (gyes_none rfl) (q_mv (v := .int .i64 ((a : Nat) : Int)) rfl) rfl (by decide) (cok1 trivial) ?_
      refine dv (gyes_none rfl) (q_mv (v := .int .i64 ((b : Nat) : Int)) rfl) rfl (by decide) (cok1 trivial) ?_
      refine dv (gyes_none rfl) (OpQ.cast (v' := .int .i64 ((a + b : Nat) : Int)) (q_int rfl rfl rfl) (congrArg _ ((i64_in (by omega)).trans (by first | rfl | omega | (push_cast; rfl))))) rfl (by decide) (cok2 trivial trivial) ?_
      refine dv (gyes_none rfl) (q_convin (a := ((a + b : Nat) : Int)) Try.underlying3 Try.underlying101 rfl (u64_in (by omega))) rfl (by decide) (cok1 trivial) ?_
      refine dv (gyes_none rfl) (OpQ.cast (v' := .int .u64 (((a + b) / 2 : Nat) : Int)) (q_shrN (a := (a + b)) (c := 1) rfl rfl (by show _ < 18446744073709551616; omega)) rfl) rfl (by decide) (cok2 trivial (cconst rfl)) ?_
      refine dv (gyes_none rfl) (q_convin (a := (((a + b) / 2 : Nat) : Int)) Try.underlying101 Try.underlying3 rfl (i64_in (by omega))) rfl (by decide) (cok1 trivial) ?_
      refine dv (gyes_none rfl) (q_as (v := .int .i64 (((a + b) / 2 : Nat) : Int)) rfl) rfl (by decide) (cok1 trivial) ?_
      refine ⟨_, Wk.refl _ _, ?_⟩
      show awp _ _ _ _ _ _ _
      refine awp_seq ?_
      refine awp_regs hF ?_
      refine dv (gyes_none rfl) (q_mv (v := .int .i64 (((a + b) / 2 : Nat) : Int)) rfl) rfl (by decide) (cok1 trivial) ?_
      refine dv (gyes_none rfl) (q_mv (v := .int .i64 ((m : Nat) : Int)) rfl) rfl (by decide) (cok1 trivial) ?_
      refine dv (gyes_none rfl) (OpQ.cast (v' := .int .i64 (((a + b) / 2 + m : Nat) : Int)) (q_int rfl rfl rfl) (congrArg _ ((i64_in (by omega)).trans (by first | rfl | omega | (push_cast; rfl))))) rfl (by decide) (cok2 trivial trivial) ?_
      refine dv (gyes_none rfl) (q_as (v := .int .i64 (((a + b) / 2 + m : Nat) : Int)) rfl) rfl (by decide) (cok1 trivial) ?_
      refine ⟨_, Wk.refl _ _, ?_⟩
      show awp _ _ _ _ _ _ _
      refine awp_seq ?_
      refine awp_regs hF ?_
      refine dv (gyes_none rfl) (q_as (v := .int .i64 0) rfl) rfl (by decide) (cok1 (cconst rfl)) ?_
      refine dv (gyes_none rfl) (q_as (v := .int .i64 0) rfl) rfl (by decide) (cok1 (cconst rfl)) ?_
      refine ⟨_, Wk.refl _ _, ?_⟩
      show awp _ _ _ _ _ _ _
      refine awp_join (fun st => ∃ (H17 : AHeap) (s : Nat) (r : Nat), st = ⟨220, U [(0, .slice (some ⟨d, 0, none⟩) n n), (1, .int .i64 ((a : Nat) : Int)), (2, .int .i64 ((m : Nat) : Int)), (3, .int .i64 ((b : Nat) : Int)), (4, .func (.func 23) #[] #[.pointer (some ⟨bn, 0, none⟩), .pointer (some ⟨bk, 0, none⟩)]), (18, .int .i64 (((a + b) / 2 : Nat) : Int)), (19, .int .i64 (((a + b) / 2 + m : Nat) : Int)), (20, .int .i64 ((s : Nat) : Int)), (21, .int .i64 ((r : Nat) : Int))], [], H17⟩ ∧ St H0 ((· ∈ [d])) (Off H0 [d]) H17 [(d, .cells true (l.map i64v) 1)] ∧ (s = lo0 a m b ∧ r = r0 a m b)) ?j1 ?j2
      case j1 =>
        refine awp_seq ?_
        refine awp_regs hF ?_
        refine dv (gyes_none rfl) (q_mv (v := .int .i64 ((m : Nat) : Int)) rfl) rfl (by decide) (cok1 trivial) ?_
        refine dv (gyes_none rfl) (q_mv (v := .int .i64 (((a + b) / 2 : Nat) : Int)) rfl) rfl (by decide) (cok1 trivial) ?_
        refine dvb (gyes_none rfl) (q_int rfl rfl rfl) rfl (by decide) (cok2 trivial trivial) (fun c9 => ?_) (fun c9 => ?_)
        ·
          replace c9 := of_decide_eq_true c9
          refine ⟨_, Wk.refl _ _, ?_⟩
          show awp _ _ _ _ _ _ _
          refine awp_cond_t rfl ?_
          refine awp_seq ?_
          refine awp_regs hF ?_
          refine dv (gyes_none rfl) (q_mv (v := .int .i64 (((a + b) / 2 + m : Nat) : Int)) rfl) rfl (by decide) (cok1 trivial) ?_
          refine dv (gyes_none rfl) (q_mv (v := .int .i64 ((b : Nat) : Int)) rfl) rfl (by decide) (cok1 trivial) ?_
          refine dv (gyes_none rfl) (OpQ.cast (v' := .int .i64 ((((a + b) / 2 + m) - b : Nat) : Int)) (q_int rfl rfl rfl) (congrArg _ ((i64_in (by omega)).trans (by omega)))) rfl (by decide) (cok2 trivial trivial) ?_
          refine dv (gyes_none rfl) (q_as (v := .int .i64 ((((a + b) / 2 + m) - b : Nat) : Int)) rfl) rfl (by decide) (cok1 trivial) ?_
          refine ⟨_, Wk.refl _ _, ?_⟩
          show awp _ _ _ _ _ _ _
          refine awp_regs hF ?_
          refine dv (gyes_none rfl) (q_mv (v := .int .i64 (((a + b) / 2 : Nat) : Int)) rfl) rfl (by decide) (cok1 trivial) ?_
          refine dv (gyes_none rfl) (q_as (v := .int .i64 (((a + b) / 2 : Nat) : Int)) rfl) rfl (by decide) (cok1 trivial) ?_
          exact ⟨_, Wk.U [(0, .slice (some ⟨d, 0, none⟩) n n), (1, .int .i64 ((a : Nat) : Int)), (2, .int .i64 ((m : Nat) : Int)), (3, .int .i64 ((b : Nat) : Int)), (4, .func (.func 23) #[] #[.pointer (some ⟨bn, 0, none⟩), .pointer (some ⟨bk, 0, none⟩)]), (18, .int .i64 (((a + b) / 2 : Nat) : Int)), (19, .int .i64 (((a + b) / 2 + m : Nat) : Int)), (20, .int .i64 (((((a + b) / 2 + m) - b) : Nat) : Int)), (21, .int .i64 ((((a + b) / 2) : Nat) : Int))] ⟨rfl, rfl, rfl, rfl, rfl, rfl, rfl, rfl, rfl, trivial⟩, ⟨_, (((a + b) / 2 + m) - b), ((a + b) / 2), rfl, s0, ⟨by unfold lo0; first | rw [if_pos (by omega)] | rw [if_neg (by omega)], by unfold r0; first | rw [if_pos (by omega)] | rw [if_neg (by omega)]⟩⟩⟩
        ·
          replace c9 := of_decide_eq_false c9
          refine ⟨_, Wk.refl _ _, ?_⟩
          show awp _ _ _ _ _ _ _
          refine awp_cond_f rfl ?_
          refine awp_seq ?_
          refine awp_regs hF ?_
          refine dv (gyes_none rfl) (q_mv (v := .int .i64 ((a : Nat) : Int)) rfl) rfl (by decide) (cok1 trivial) ?_
          refine dv (gyes_none rfl) (q_as (v := .int .i64 ((a : Nat) : Int)) rfl) rfl (by decide) (cok1 trivial) ?_
          refine ⟨_, Wk.refl _ _, ?_⟩
          show awp _ _ _ _ _ _ _
          refine awp_regs hF ?_
          refine dv (gyes_none rfl) (q_mv (v := .int .i64 ((m : Nat) : Int)) rfl) rfl (by decide) (cok1 trivial) ?_
          refine dv (gyes_none rfl) (q_as (v := .int .i64 ((m : Nat) : Int)) rfl) rfl (by decide) (cok1 trivial) ?_
          exact ⟨_, Wk.U [(0, .slice (some ⟨d, 0, none⟩) n n), (1, .int .i64 ((a : Nat) : Int)), (2, .int .i64 ((m : Nat) : Int)), (3, .int .i64 ((b : Nat) : Int)), (4, .func (.func 23) #[] #[.pointer (some ⟨bn, 0, none⟩), .pointer (some ⟨bk, 0, none⟩)]), (18, .int .i64 (((a + b) / 2 : Nat) : Int)), (19, .int .i64 (((a + b) / 2 + m : Nat) : Int)), (20, .int .i64 ((a : Nat) : Int)), (21, .int .i64 ((m : Nat) : Int))] ⟨rfl, rfl, rfl, rfl, rfl, rfl, rfl, rfl, rfl, trivial⟩, ⟨_, a, m, rfl, s0, ⟨by unfold lo0; first | rw [if_pos (by omega)] | rw [if_neg (by omega)], by unfold r0; first | rw [if_pos (by omega)] | rw [if_neg (by omega)]⟩⟩⟩
      case j2 =>
        rintro _ ⟨H17, s, r, rfl, s18, hsr⟩
        refine awp_seq ?_
        refine awp_regs hF ?_
        refine dv (gyes_none rfl) (q_mv (v := .int .i64 (((a + b) / 2 + m : Nat) : Int)) rfl) rfl (by decide) (cok1 trivial) ?_
        refine dv (gyes_none rfl) (OpQ.cast (v' := .int .i64 ((((a + b) / 2 + m) - 1 : Nat) : Int)) (q_int rfl rfl rfl) (congrArg _ ((i64_in (by omega)).trans (by omega)))) rfl (by decide) (cok2 trivial (cconst rfl)) ?_
        refine dv (gyes_none rfl) (q_as (v := .int .i64 ((((a + b) / 2 + m) - 1 : Nat) : Int)) rfl) rfl (by decide) (cok1 trivial) ?_
        refine ⟨_, Wk.refl _ _, ?_⟩
        show awp _ _ _ _ _ _ _
        refine awp_seq ?_
        refine awp_block ?_
        refine awp_wk (Wk.U [(0, .slice (some ⟨d, 0, none⟩) n n), (1, .int .i64 ((a : Nat) : Int)), (2, .int .i64 ((m : Nat) : Int)), (3, .int .i64 ((b : Nat) : Int)), (4, .func (.func 23) #[] #[.pointer (some ⟨bn, 0, none⟩), .pointer (some ⟨bk, 0, none⟩)]), (18, .int .i64 (((a + b) / 2 : Nat) : Int)), (19, .int .i64 (((a + b) / 2 + m : Nat) : Int)), (20, .int .i64 ((s : Nat) : Int)), (21, .int .i64 ((r : Nat) : Int)), (22, .int .i64 (((a + b) / 2 + m - 1 : Nat) : Int))] ⟨rfl, rfl, rfl, rfl, rfl, rfl, rfl, rfl, rfl, rfl, trivial⟩) ?_
        refine awp_loop (fun ((s2, r2) : Nat × Nat) st => ∃ (H19 : AHeap), st = ⟨220, U [(0, .slice (some ⟨d, 0, none⟩) n n), (1, .int .i64 ((a : Nat) : Int)), (2, .int .i64 ((m : Nat) : Int)), (3, .int .i64 ((b : Nat) : Int)), (4, .func (.func 23) #[] #[.pointer (some ⟨bn, 0, none⟩), .pointer (some ⟨bk, 0, none⟩)]), (18, .int .i64 (((a + b) / 2 : Nat) : Int)), (19, .int .i64 (((a + b) / 2 + m : Nat) : Int)), (20, .int .i64 ((s2 : Nat) : Int)), (21, .int .i64 ((r2 : Nat) : Int)), (22, .int .i64 (((a + b) / 2 + m - 1 : Nat) : Int))], [], H19⟩ ∧ St H0 ((· ∈ [d])) (Off H0 [d]) H19 [(d, .cells true (l.map i64v) 1)] ∧ (Srch (gkey names nb) l a m b s2 r2)) (fun ((s2, r2) : Nat × Nat) => r2 - s2) (x0 := (s, r)) ?h0 ?round
        case h0 =>
          exact ⟨_, rfl, s18, by rw [hsr.1, hsr.2]; exact srch_start hs⟩
        case round =>
          rintro ⟨s2, r2⟩ _ ⟨H19, rfl, s20, hq⟩
          dsimp only at *
          have hz0 := lo0_le hs.am hs.mb
          have hql := hq.lo
          have hqh := hq.hi
          have hqs := hq.sr
          refine awp_seq ?_
          refine awp_seq ?_
          refine awp_regs hF ?_
          refine dv (gyes_none rfl) (q_mv (v := .int .i64 ((s2 : Nat) : Int)) rfl) rfl (by decide) (cok1 trivial) ?_
          refine dv (gyes_none rfl) (q_mv (v := .int .i64 ((r2 : Nat) : Int)) rfl) rfl (by decide) (cok1 trivial) ?_
          refine dvb (gyes_none rfl) (q_int rfl rfl rfl) rfl (by decide) (cok2 trivial trivial) (fun c10 => ?_) (fun c10 => ?_)
          ·
            replace c10 := of_decide_eq_true c10
            refine ⟨_, Wk.refl _ _, ?_⟩
            show awp _ _ _ _ _ _ _
            refine awp_cond_t rfl ?_
            refine awp_skip_wk ?_
            refine ⟨_, Wk.refl _ _, ?_⟩
            show awp _ _ _ _ _ _ _
            refine awp_block ?_
            refine awp_seq ?_
            refine awp_regs hF ?_
            refine dv (gyes_none rfl) (q_mv (v := .int .i64 ((s2 : Nat) : Int)) rfl) rfl (by decide) (cok1 trivial) ?_
            refine dv (gyes_none rfl) (q_mv (v := .int .i64 ((r2 : Nat) : Int)) rfl) rfl (by decide) (cok1 trivial) ?_
            refine dv (gyes_none rfl) (OpQ.cast (v' := .int .i64 ((s2 + r2 : Nat) : Int)) (q_int rfl rfl rfl) (congrArg _ ((i64_in (by omega)).trans (by first | rfl | omega | (push_cast; rfl))))) rfl (by decide) (cok2 trivial trivial) ?_
            refine dv (gyes_none rfl) (q_convin (a := ((s2 + r2 : Nat) : Int)) Try.underlying3 Try.underlying101 rfl (u64_in (by omega))) rfl (by decide) (cok1 trivial) ?_
            refine dv (gyes_none rfl) (OpQ.cast (v' := .int .u64 (((s2 + r2) / 2 : Nat) : Int)) (q_shrN (a := (s2 + r2)) (c := 1) rfl rfl (by show _ < 18446744073709551616; omega)) rfl) rfl (by decide) (cok2 trivial (cconst rfl)) ?_
            refine dv (gyes_none rfl) (q_convin (a := (((s2 + r2) / 2 : Nat) : Int)) Try.underlying101 Try.underlying3 rfl (i64_in (by omega))) rfl (by decide) (cok1 trivial) ?_
            refine dv (gyes_none rfl) (q_as (v := .int .i64 (((s2 + r2) / 2 : Nat) : Int)) rfl) rfl (by decide) (cok1 trivial) ?_
            refine ⟨_, Wk.refl _ _, ?_⟩
            show awp _ _ _ _ _ _ _
            refine awp_seq ?_
            have e1 := c_in hs.am hs.mb (c := (s2 + r2) / 2) (by omega) (by omega)
            refine awp_regt hF hM (by kernel_rfl) (by kernel_rfl) ?_
            refine dv (gyes_none rfl) (q_mv (v := .func (.func 23) #[] #[.pointer (some ⟨bn, 0, none⟩), .pointer (some ⟨bk, 0, none⟩)]) rfl) rfl (by decide) (cok1 trivial) ?_
            refine dv (gyes_none rfl) (q_mv (v := .slice (some ⟨d, 0, none⟩) n n) rfl) rfl (by decide) (cok1 trivial) ?_
            refine dv (gyes_none rfl) (q_mv (v := .int .i64 (((a + b) / 2 + m - 1 : Nat) : Int)) rfl) rfl (by decide) (cok1 trivial) ?_
            refine dv (gyes_none rfl) (q_mv (v := .int .i64 (((s2 + r2) / 2 : Nat) : Int)) rfl) rfl (by decide) (cok1 trivial) ?_
            refine dv (gyes_none rfl) (OpQ.cast (v' := .int .i64 ((((a + b) / 2 + m - 1) - ((s2 + r2) / 2) : Nat) : Int)) (q_int rfl rfl rfl) (congrArg _ ((i64_in (by omega)).trans (by omega)))) rfl (by decide) (cok2 trivial trivial) ?_
            refine dv (gyes_none rfl) (OpQ.cast (v' := .pointer (some ⟨d, ((a + b) / 2 + m - 1) - ((s2 + r2) / 2), none⟩)) (q_index1 (i := (((a + b) / 2 + m - 1) - ((s2 + r2) / 2))) Try.underlying25 Try.sizeOf3 rfl rfl (by omega) (s20.rd (j := 0) rfl)) (by rw [Nat.zero_add])) rfl (by decide) (cok2 trivial trivial) ?_
            refine dv (gyes_none rfl) (q_load (v := i64v (nth l (((a + b) / 2 + m - 1) - ((s2 + r2) / 2)))) Try.isAgg3 rfl (s20.rd (j := 0) rfl) (get_nth (w := 0) (by omega))) rfl (by decide) (cok1 trivial) ?_
            refine dv (gyes_none rfl) (q_mv (v := .slice (some ⟨d, 0, none⟩) n n) rfl) rfl (by decide) (cok1 trivial) ?_
            refine dv (gyes_none rfl) (q_mv (v := .int .i64 (((s2 + r2) / 2 : Nat) : Int)) rfl) rfl (by decide) (cok1 trivial) ?_
            refine dv (gyes_none rfl) (OpQ.cast (v' := .pointer (some ⟨d, (s2 + r2) / 2, none⟩)) (q_index1 (i := ((s2 + r2) / 2)) Try.underlying25 Try.sizeOf3 rfl rfl (by omega) (s20.rd (j := 0) rfl)) (by rw [Nat.zero_add])) rfl (by decide) (cok2 trivial trivial) ?_
            refine dv (gyes_none rfl) (q_load (v := i64v (nth l ((s2 + r2) / 2))) Try.isAgg3 rfl (s20.rd (j := 0) rfl) (get_nth (w := 0) (by omega))) rfl (by decide) (cok1 trivial) ?_
            refine dv (gyes_none rfl) (q_callv0 Try.call23 rfl rfl ((E.kp s20.kp).cmp (nth l (((a + b) / 2 + m - 1) - ((s2 + r2) / 2))) (nth l ((s2 + r2) / 2)) (lt_of_mem hlt (by omega)) (lt_of_mem hlt (by omega)))) rfl (by decide) (call_ok rfl) ?_
            refine dvb (gyes_none rfl) (q_int rfl rfl rfl) rfl (by decide) (cok2 trivial (cconst rfl)) (fun c11 => ?_) (fun c11 => ?_)
            ·
              replace c11 := of_decide_eq_true c11
              replace c11 := cmpN_lt.1 c11
              refine dv (gyes_none rfl) (q_not (b := true) rfl) rfl (by decide) (cok1 trivial) ?_
              refine ⟨_, Wk.refl _ _, ?_⟩
              show awp _ _ _ _ _ _ _
              refine awp_cond_f rfl ?_
              refine awp_regs hF ?_
              refine dv (gyes_none rfl) (q_mv (v := .int .i64 (((s2 + r2) / 2 : Nat) : Int)) rfl) rfl (by decide) (cok1 trivial) ?_
              refine dv (gyes_none rfl) (q_as (v := .int .i64 (((s2 + r2) / 2 : Nat) : Int)) rfl) rfl (by decide) (cok1 trivial) ?_
              refine ⟨_, Wk.U [(0, .slice (some ⟨d, 0, none⟩) n n), (1, .int .i64 ((a : Nat) : Int)), (2, .int .i64 ((m : Nat) : Int)), (3, .int .i64 ((b : Nat) : Int)), (4, .func (.func 23) #[] #[.pointer (some ⟨bn, 0, none⟩), .pointer (some ⟨bk, 0, none⟩)]), (18, .int .i64 (((a + b) / 2 : Nat) : Int)), (19, .int .i64 (((a + b) / 2 + m : Nat) : Int)), (20, .int .i64 ((s2 : Nat) : Int)), (21, .int .i64 ((((s2 + r2) / 2) : Nat) : Int)), (22, .int .i64 (((a + b) / 2 + m - 1 : Nat) : Int))] ⟨rfl, rfl, rfl, rfl, rfl, rfl, rfl, rfl, rfl, rfl, trivial⟩, (s2, ((s2 + r2) / 2)), ⟨_, rfl, s20, srch_dn hs hq (c := (s2 + r2) / 2) (by omega) (by omega) (by assumption)⟩, (by omega)⟩
            ·
              replace c11 := of_decide_eq_false c11
              replace c11 := fun h => c11 (cmpN_lt.2 h)
              refine dv (gyes_none rfl) (q_not (b := false) rfl) rfl (by decide) (cok1 trivial) ?_
              refine ⟨_, Wk.refl _ _, ?_⟩
              show awp _ _ _ _ _ _ _
              refine awp_cond_t rfl ?_
              refine awp_regs hF ?_
              refine dv (gyes_none rfl) (q_mv (v := .int .i64 (((s2 + r2) / 2 : Nat) : Int)) rfl) rfl (by decide) (cok1 trivial) ?_
              refine dv (gyes_none rfl) (OpQ.cast (v' := .int .i64 (((s2 + r2) / 2 + 1 : Nat) : Int)) (q_int rfl rfl rfl) (congrArg _ ((i64_in (by omega)).trans (by first | rfl | omega | (push_cast; rfl))))) rfl (by decide) (cok2 trivial (cconst rfl)) ?_
              refine dv (gyes_none rfl) (q_as (v := .int .i64 (((s2 + r2) / 2 + 1 : Nat) : Int)) rfl) rfl (by decide) (cok1 trivial) ?_
              refine ⟨_, Wk.U [(0, .slice (some ⟨d, 0, none⟩) n n), (1, .int .i64 ((a : Nat) : Int)), (2, .int .i64 ((m : Nat) : Int)), (3, .int .i64 ((b : Nat) : Int)), (4, .func (.func 23) #[] #[.pointer (some ⟨bn, 0, none⟩), .pointer (some ⟨bk, 0, none⟩)]), (18, .int .i64 (((a + b) / 2 : Nat) : Int)), (19, .int .i64 (((a + b) / 2 + m : Nat) : Int)), (20, .int .i64 ((((s2 + r2) / 2 + 1) : Nat) : Int)), (21, .int .i64 ((r2 : Nat) : Int)), (22, .int .i64 (((a + b) / 2 + m - 1 : Nat) : Int))] ⟨rfl, rfl, rfl, rfl, rfl, rfl, rfl, rfl, rfl, rfl, trivial⟩, (((s2 + r2) / 2 + 1), r2), ⟨_, rfl, s20, srch_up hs hq (c := (s2 + r2) / 2) (by omega) (by omega) (by assumption)⟩, (by omega)⟩
          ·
            replace c10 := of_decide_eq_false c10
            refine ⟨_, Wk.refl _ _, ?_⟩
            show awp _ _ _ _ _ _ _
            refine awp_cond_f rfl ?_
            refine awp_exit_wk ?_
            refine ⟨_, Wk.refl _ _, ?_⟩
            show awp _ _ _ _ _ _ _
            refine awp_seq ?_
            have hcut := srch_end hs hq (by omega)
            have hz1 := hcut.asl
            have hz2 := hcut.sm
            have hz3 := hcut.me
            have hz4 := hcut.eb
            refine awp_regs hF ?_
            refine dv (gyes_none rfl) (q_mv (v := .int .i64 (((a + b) / 2 + m : Nat) : Int)) rfl) rfl (by decide) (cok1 trivial) ?_
            refine dv (gyes_none rfl) (q_mv (v := .int .i64 ((s2 : Nat) : Int)) rfl) rfl (by decide) (cok1 trivial) ?_
            refine dv (gyes_none rfl) (OpQ.cast (v' := .int .i64 ((((a + b) / 2 + m) - s2 : Nat) : Int)) (q_int rfl rfl rfl) (congrArg _ ((i64_in (by omega)).trans (by omega)))) rfl (by decide) (cok2 trivial trivial) ?_
            refine dv (gyes_none rfl) (q_as (v := .int .i64 ((((a + b) / 2 + m) - s2 : Nat) : Int)) rfl) rfl (by decide) (cok1 trivial) ?_
            refine ⟨_, Wk.refl _ _, ?_⟩
            show awp _ _ _ _ _ _ _
            refine awp_join (fun st => ∃ (H21 : AHeap) (l2 : List Nat), st = ⟨220, U [(0, .slice (some ⟨d, 0, none⟩) n n), (1, .int .i64 ((a : Nat) : Int)), (2, .int .i64 ((m : Nat) : Int)), (3, .int .i64 ((b : Nat) : Int)), (4, .func (.func 23) #[] #[.pointer (some ⟨bn, 0, none⟩), .pointer (some ⟨bk, 0, none⟩)]), (18, .int .i64 (((a + b) / 2 : Nat) : Int)), (20, .int .i64 ((s2 : Nat) : Int)), (24, .int .i64 (((a + b) / 2 + m - s2 : Nat) : Int))], [], H21⟩ ∧ St H0 ((· ∈ [d])) (Off H0 [d]) H21 [(d, .cells true (l2.map i64v) 1)] ∧ (Rot (gkey names nb) l l2 a m b s2 ((a + b) / 2 + m - s2))) ?j1 ?j2
            case j1 =>
              refine awp_seq ?_
              refine awp_regs hF ?_
              refine dv (gyes_none rfl) (q_mv (v := .int .i64 ((s2 : Nat) : Int)) rfl) rfl (by decide) (cok1 trivial) ?_
              refine dv (gyes_none rfl) (q_mv (v := .int .i64 ((m : Nat) : Int)) rfl) rfl (by decide) (cok1 trivial) ?_
              refine dvb (gyes_none rfl) (q_int rfl rfl rfl) rfl (by decide) (cok2 trivial trivial) (fun c12 => ?_) (fun c12 => ?_)
              ·
                replace c12 := of_decide_eq_true c12
                refine dv (gyes_none rfl) (q_mv (v := .bool true) rfl) rfl (by decide) (cok1 trivial) ?_
                refine dv (gyes_some rfl rfl) (q_mv (v := .int .i64 ((m : Nat) : Int)) rfl) rfl (by decide) (cok1 trivial) ?_
                refine dv (gyes_some rfl rfl) (q_mv (v := .int .i64 ((((a + b) / 2 + m) - s2 : Nat) : Int)) rfl) rfl (by decide) (cok1 trivial) ?_
                refine dvb (gyes_some rfl rfl) (q_int rfl rfl rfl) rfl (by decide) (cok2 trivial trivial) (fun c13 => ?_) (fun c13 => ?_)
                ·
                  replace c13 := of_decide_eq_true c13
                  refine dv (gyes_none rfl) (q_pt (v := .bool true) rfl rfl) rfl (by decide) (call_ok rfl) ?_
                  refine ⟨_, Wk.refl _ _, ?_⟩
                  show awp _ _ _ _ _ _ _
                  refine awp_cond_t rfl ?_
                  refine awp_regs hF ?_
                  refine dv (gyes_none rfl) (q_mv (v := .slice (some ⟨d, 0, none⟩) n n) rfl) rfl (by decide) (cok1 trivial) ?_
                  refine dv (gyes_none rfl) (q_mv (v := .int .i64 ((s2 : Nat) : Int)) rfl) rfl (by decide) (cok1 trivial) ?_
                  refine dv (gyes_none rfl) (q_mv (v := .int .i64 ((m : Nat) : Int)) rfl) rfl (by decide) (cok1 trivial) ?_
                  refine dv (gyes_none rfl) (q_mv (v := .int .i64 ((((a + b) / 2 + m) - s2 : Nat) : Int)) rfl) rfl (by decide) (cok1 trivial) ?_
                  refine dv (gyes_none rfl) (q_mv (v := .func (.func 23) #[] #[.pointer (some ⟨bn, 0, none⟩), .pointer (some ⟨bk, 0, none⟩)]) rfl) rfl (by decide) (cok1 trivial) ?_
                  refine x_call [] hF (by kernel_rfl) (gyes_none rfl) Try.call56 rfl (args := [.slice (some ⟨d, 0, none⟩) n n, .int .i64 ((s2 : Nat) : Int), .int .i64 ((m : Nat) : Int), .int .i64 ((((a + b) / 2 + m) - s2 : Nat) : Int), .func (.func 23) #[] #[.pointer (some ⟨bn, 0, none⟩), .pointer (some ⟨bk, 0, none⟩)]]) rfl (rotate_ok n d bn bk nb vN names (E.kp s20.kp) l hn hn2 (s20.getj (j := 0) rfl) hl s2 m ((a + b) / 2 + m - s2) (by omega) (by omega) (by omega)) (show _ < _ by decide) (call_ok rfl) rfl rfl (fun _ _ _ _ hd => by cases hd) ?_
                  rintro _ H23 ⟨rfl, hk24, l27, hsw28, hse29, h25⟩
                  have s26 := s20.turn1 (j := 0) rfl hk24 h25
                  refine ⟨trivial, ?_⟩
                  show dList _ _ _ _ _ _ _ _ _ _
                  exact ⟨_, Wk.U [(0, .slice (some ⟨d, 0, none⟩) n n), (1, .int .i64 ((a : Nat) : Int)), (2, .int .i64 ((m : Nat) : Int)), (3, .int .i64 ((b : Nat) : Int)), (4, .func (.func 23) #[] #[.pointer (some ⟨bn, 0, none⟩), .pointer (some ⟨bk, 0, none⟩)]), (18, .int .i64 (((a + b) / 2 : Nat) : Int)), (20, .int .i64 ((s2 : Nat) : Int)), (24, .int .i64 (((a + b) / 2 + m - s2 : Nat) : Int))] ⟨rfl, rfl, rfl, rfl, rfl, rfl, rfl, rfl, trivial⟩, ⟨_, l27, rfl, s26, ⟨hs, hcut, hsw28.mono (by omega) (by omega) (by omega), hse29⟩⟩⟩
                ·
                  replace c13 := of_decide_eq_false c13
                  refine dv (gyes_none rfl) (q_pt (v := .bool false) rfl rfl) rfl (by decide) (call_ok rfl) ?_
                  refine ⟨_, Wk.refl _ _, ?_⟩
                  show awp _ _ _ _ _ _ _
                  refine awp_cond_f rfl ?_
                  refine awp_skip_wk ?_
                  exact ⟨_, Wk.U [(0, .slice (some ⟨d, 0, none⟩) n n), (1, .int .i64 ((a : Nat) : Int)), (2, .int .i64 ((m : Nat) : Int)), (3, .int .i64 ((b : Nat) : Int)), (4, .func (.func 23) #[] #[.pointer (some ⟨bn, 0, none⟩), .pointer (some ⟨bk, 0, none⟩)]), (18, .int .i64 (((a + b) / 2 : Nat) : Int)), (20, .int .i64 ((s2 : Nat) : Int)), (24, .int .i64 (((a + b) / 2 + m - s2 : Nat) : Int))] ⟨rfl, rfl, rfl, rfl, rfl, rfl, rfl, rfl, trivial⟩, ⟨_, l, rfl, s20, ⟨hs, hcut, .refl, fun t => rot_id hcut.sm hcut.me (by omega) t⟩⟩⟩
              ·
                replace c12 := of_decide_eq_false c12
                refine dv (gyes_none rfl) (q_mv (v := .bool false) rfl) rfl (by decide) (cok1 trivial) ?_
                refine dno rfl (.inl rfl) rfl (by decide) ?_
                refine dno rfl (.inl rfl) rfl (by decide) ?_
                refine dno rfl (.inl rfl) rfl (by decide) ?_
                refine dv (gyes_none rfl) (q_pf (v := .bool false) rfl rfl) rfl (by decide) (call_ok rfl) ?_
                refine ⟨_, Wk.refl _ _, ?_⟩
                show awp _ _ _ _ _ _ _
                refine awp_cond_f rfl ?_
                refine awp_skip_wk ?_
                exact ⟨_, Wk.U [(0, .slice (some ⟨d, 0, none⟩) n n), (1, .int .i64 ((a : Nat) : Int)), (2, .int .i64 ((m : Nat) : Int)), (3, .int .i64 ((b : Nat) : Int)), (4, .func (.func 23) #[] #[.pointer (some ⟨bn, 0, none⟩), .pointer (some ⟨bk, 0, none⟩)]), (18, .int .i64 (((a + b) / 2 : Nat) : Int)), (20, .int .i64 ((s2 : Nat) : Int)), (24, .int .i64 (((a + b) / 2 + m - s2 : Nat) : Int))] ⟨rfl, rfl, rfl, rfl, rfl, rfl, rfl, rfl, trivial⟩, ⟨_, l, rfl, s20, ⟨hs, hcut, .refl, fun t => rot_id hcut.sm hcut.me (by omega) t⟩⟩⟩
            case j2 =>
              rintro _ ⟨H21, l2, rfl, s22, hr⟩
              refine awp_join (fun st => ∃ (H30 : AHeap) (l3 : List Nat), st = ⟨220, U [(0, .slice (some ⟨d, 0, none⟩) n n), (1, .int .i64 ((a : Nat) : Int)), (2, .int .i64 ((m : Nat) : Int)), (3, .int .i64 ((b : Nat) : Int)), (4, .func (.func 23) #[] #[.pointer (some ⟨bn, 0, none⟩), .pointer (some ⟨bk, 0, none⟩)]), (18, .int .i64 (((a + b) / 2 : Nat) : Int)), (20, .int .i64 ((s2 : Nat) : Int)), (24, .int .i64 (((a + b) / 2 + m - s2 : Nat) : Int))], [], H30⟩ ∧ St H0 ((· ∈ [d])) (Off H0 [d]) H30 [(d, .cells true (l3.map i64v) 1)] ∧ (Sw a ((a + b) / 2) l2 l3 ∧ Srt (gkey names nb) l3 a ((a + b) / 2))) ?j1 ?j2
              case j1 =>
                refine awp_seq ?_
                have hln2 : l2.length = n := hr.sw.len.trans hn
                have hlt2 := hr.sw.lt hl
                have hbd := hr.bnd
                refine awp_regs hF ?_
                refine dv (gyes_none rfl) (q_mv (v := .int .i64 ((a : Nat) : Int)) rfl) rfl (by decide) (cok1 trivial) ?_
                refine dv (gyes_none rfl) (q_mv (v := .int .i64 ((s2 : Nat) : Int)) rfl) rfl (by decide) (cok1 trivial) ?_
                refine dvb (gyes_none rfl) (q_int rfl rfl rfl) rfl (by decide) (cok2 trivial trivial) (fun c14 => ?_) (fun c14 => ?_)
                ·
                  replace c14 := of_decide_eq_true c14
                  refine dv (gyes_none rfl) (q_mv (v := .bool true) rfl) rfl (by decide) (cok1 trivial) ?_
                  refine dv (gyes_some rfl rfl) (q_mv (v := .int .i64 ((s2 : Nat) : Int)) rfl) rfl (by decide) (cok1 trivial) ?_
                  refine dv (gyes_some rfl rfl) (q_mv (v := .int .i64 (((a + b) / 2 : Nat) : Int)) rfl) rfl (by decide) (cok1 trivial) ?_
                  refine dvb (gyes_some rfl rfl) (q_int rfl rfl rfl) rfl (by decide) (cok2 trivial trivial) (fun c15 => ?_) (fun c15 => ?_)
                  ·
                    replace c15 := of_decide_eq_true c15
                    refine dv (gyes_none rfl) (q_pt (v := .bool true) rfl rfl) rfl (by decide) (call_ok rfl) ?_
                    refine ⟨_, Wk.refl _ _, ?_⟩
                    show awp _ _ _ _ _ _ _
                    refine awp_cond_t rfl ?_
                    refine awp_regs hF ?_
                    refine dv (gyes_none rfl) (q_mv (v := .slice (some ⟨d, 0, none⟩) n n) rfl) rfl (by decide) (cok1 trivial) ?_
                    refine dv (gyes_none rfl) (q_mv (v := .int .i64 ((a : Nat) : Int)) rfl) rfl (by decide) (cok1 trivial) ?_
                    refine dv (gyes_none rfl) (q_mv (v := .int .i64 ((s2 : Nat) : Int)) rfl) rfl (by decide) (cok1 trivial) ?_
                    refine dv (gyes_none rfl) (q_mv (v := .int .i64 (((a + b) / 2 : Nat) : Int)) rfl) rfl (by decide) (cok1 trivial) ?_
                    refine dv (gyes_none rfl) (q_mv (v := .func (.func 23) #[] #[.pointer (some ⟨bn, 0, none⟩), .pointer (some ⟨bk, 0, none⟩)]) rfl) rfl (by decide) (cok1 trivial) ?_
                    refine x_call [] hF (by kernel_rfl) (gyes_none rfl) Try.call52 rfl (args := [.slice (some ⟨d, 0, none⟩) n n, .int .i64 ((a : Nat) : Int), .int .i64 ((s2 : Nat) : Int), .int .i64 (((a + b) / 2 : Nat) : Int), .func (.func 23) #[] #[.pointer (some ⟨bn, 0, none⟩), .pointer (some ⟨bk, 0, none⟩)]]) rfl (ih n d bn bk nb vN names (E.kp s22.kp) l2 hln2 hn2 (s22.getj (j := 0) rfl) hlt2 a s2 ((a + b) / 2) (hr.left ⟨by omega, by omega⟩) (by omega)) (show _ < _ by decide) (call_ok rfl) rfl rfl (fun _ _ _ _ hd => by cases hd) ?_
                    rintro _ H32 ⟨rfl, hk33, l36, hsw37, hso38, h34⟩
                    have s35 := s22.turn1 (j := 0) rfl hk33 h34
                    refine ⟨trivial, ?_⟩
                    show dList _ _ _ _ _ _ _ _ _ _
                    exact ⟨_, Wk.U [(0, .slice (some ⟨d, 0, none⟩) n n), (1, .int .i64 ((a : Nat) : Int)), (2, .int .i64 ((m : Nat) : Int)), (3, .int .i64 ((b : Nat) : Int)), (4, .func (.func 23) #[] #[.pointer (some ⟨bn, 0, none⟩), .pointer (some ⟨bk, 0, none⟩)]), (18, .int .i64 (((a + b) / 2 : Nat) : Int)), (20, .int .i64 ((s2 : Nat) : Int)), (24, .int .i64 (((a + b) / 2 + m - s2 : Nat) : Int))] ⟨rfl, rfl, rfl, rfl, rfl, rfl, rfl, rfl, trivial⟩, ⟨_, l36, rfl, s35, ⟨hsw37, hso38⟩⟩⟩
                  ·
                    replace c15 := of_decide_eq_false c15
                    refine dv (gyes_none rfl) (q_pt (v := .bool false) rfl rfl) rfl (by decide) (call_ok rfl) ?_
                    refine ⟨_, Wk.refl _ _, ?_⟩
                    show awp _ _ _ _ _ _ _
                    refine awp_cond_f rfl ?_
                    refine awp_skip_wk ?_
                    exact ⟨_, Wk.U [(0, .slice (some ⟨d, 0, none⟩) n n), (1, .int .i64 ((a : Nat) : Int)), (2, .int .i64 ((m : Nat) : Int)), (3, .int .i64 ((b : Nat) : Int)), (4, .func (.func 23) #[] #[.pointer (some ⟨bn, 0, none⟩), .pointer (some ⟨bk, 0, none⟩)]), (18, .int .i64 (((a + b) / 2 : Nat) : Int)), (20, .int .i64 ((s2 : Nat) : Int)), (24, .int .i64 (((a + b) / 2 + m - s2 : Nat) : Int))] ⟨rfl, rfl, rfl, rfl, rfl, rfl, rfl, rfl, trivial⟩, ⟨_, l2, rfl, s22, ⟨.refl, hr.left0 (by omega)⟩⟩⟩
                ·
                  replace c14 := of_decide_eq_false c14
                  refine dv (gyes_none rfl) (q_mv (v := .bool false) rfl) rfl (by decide) (cok1 trivial) ?_
                  refine dno rfl (.inl rfl) rfl (by decide) ?_
                  refine dno rfl (.inl rfl) rfl (by decide) ?_
                  refine dno rfl (.inl rfl) rfl (by decide) ?_
                  refine dv (gyes_none rfl) (q_pf (v := .bool false) rfl rfl) rfl (by decide) (call_ok rfl) ?_
                  refine ⟨_, Wk.refl _ _, ?_⟩
                  show awp _ _ _ _ _ _ _
                  refine awp_cond_f rfl ?_
                  refine awp_skip_wk ?_
                  exact ⟨_, Wk.U [(0, .slice (some ⟨d, 0, none⟩) n n), (1, .int .i64 ((a : Nat) : Int)), (2, .int .i64 ((m : Nat) : Int)), (3, .int .i64 ((b : Nat) : Int)), (4, .func (.func 23) #[] #[.pointer (some ⟨bn, 0, none⟩), .pointer (some ⟨bk, 0, none⟩)]), (18, .int .i64 (((a + b) / 2 : Nat) : Int)), (20, .int .i64 ((s2 : Nat) : Int)), (24, .int .i64 (((a + b) / 2 + m - s2 : Nat) : Int))] ⟨rfl, rfl, rfl, rfl, rfl, rfl, rfl, rfl, trivial⟩, ⟨_, l2, rfl, s22, ⟨.refl, hr.left0 (by omega)⟩⟩⟩
              case j2 =>
                rintro _ ⟨H30, l3, rfl, s31, h3⟩
                refine awp_seq ?_
                have hln2 : l2.length = n := hr.sw.len.trans hn
                have hlt2 := hr.sw.lt hl
                have hbd := hr.bnd
                have hln3 : l3.length = n := h3.1.len.trans hln2
                have hlt3 := h3.1.lt hlt2
                refine awp_regs hF ?_
                refine dv (gyes_none rfl) (q_mv (v := .int .i64 (((a + b) / 2 : Nat) : Int)) rfl) rfl (by decide) (cok1 trivial) ?_
                refine dv (gyes_none rfl) (q_mv (v := .int .i64 (((a + b) / 2 + m - s2 : Nat) : Int)) rfl) rfl (by decide) (cok1 trivial) ?_
                refine dvb (gyes_none rfl) (q_int rfl rfl rfl) rfl (by decide) (cok2 trivial trivial) (fun c16 => ?_) (fun c16 => ?_)
                ·
                  replace c16 := of_decide_eq_true c16
                  refine dv (gyes_none rfl) (q_mv (v := .bool true) rfl) rfl (by decide) (cok1 trivial) ?_
                  refine dv (gyes_some rfl rfl) (q_mv (v := .int .i64 (((a + b) / 2 + m - s2 : Nat) : Int)) rfl) rfl (by decide) (cok1 trivial) ?_
                  refine dv (gyes_some rfl rfl) (q_mv (v := .int .i64 ((b : Nat) : Int)) rfl) rfl (by decide) (cok1 trivial) ?_
                  refine dvb (gyes_some rfl rfl) (q_int rfl rfl rfl) rfl (by decide) (cok2 trivial trivial) (fun c17 => ?_) (fun c17 => ?_)
                  ·
                    replace c17 := of_decide_eq_true c17
                    refine dv (gyes_none rfl) (q_pt (v := .bool true) rfl rfl) rfl (by decide) (call_ok rfl) ?_
                    refine ⟨_, Wk.refl _ _, ?_⟩
                    show awp _ _ _ _ _ _ _
                    refine awp_cond_t rfl ?_
                    refine awp_regs hF ?_
                    refine dv (gyes_none rfl) (q_mv (v := .slice (some ⟨d, 0, none⟩) n n) rfl) rfl (by decide) (cok1 trivial) ?_
                    refine dv (gyes_none rfl) (q_mv (v := .int .i64 (((a + b) / 2 : Nat) : Int)) rfl) rfl (by decide) (cok1 trivial) ?_
                    refine dv (gyes_none rfl) (q_mv (v := .int .i64 (((a + b) / 2 + m - s2 : Nat) : Int)) rfl) rfl (by decide) (cok1 trivial) ?_
                    refine dv (gyes_none rfl) (q_mv (v := .int .i64 ((b : Nat) : Int)) rfl) rfl (by decide) (cok1 trivial) ?_
                    refine dv (gyes_none rfl) (q_mv (v := .func (.func 23) #[] #[.pointer (some ⟨bn, 0, none⟩), .pointer (some ⟨bk, 0, none⟩)]) rfl) rfl (by decide) (cok1 trivial) ?_
                    refine x_call [] hF (by kernel_rfl) (gyes_none rfl) Try.call52 rfl (args := [.slice (some ⟨d, 0, none⟩) n n, .int .i64 (((a + b) / 2 : Nat) : Int), .int .i64 (((a + b) / 2 + m - s2 : Nat) : Int), .int .i64 ((b : Nat) : Int), .func (.func 23) #[] #[.pointer (some ⟨bn, 0, none⟩), .pointer (some ⟨bk, 0, none⟩)]]) rfl (ih n d bn bk nb vN names (E.kp s31.kp) l3 hln3 hn2 (s31.getj (j := 0) rfl) hlt3 ((a + b) / 2) ((a + b) / 2 + m - s2) b (hr.right ⟨by omega, by omega⟩ h3.1) (by omega)) (show _ < _ by decide) (call_ok rfl) rfl rfl (fun _ _ _ _ hd => by cases hd) ?_
                    rintro _ H39 ⟨rfl, hk40, l43, hsw44, hso45, h41⟩
                    have s42 := s31.turn1 (j := 0) rfl hk40 h41
                    refine ⟨trivial, ?_⟩
                    show dList _ _ _ _ _ _ _ _ _ _
                    obtain ⟨hw1, hw2⟩ := hr.all h3.1 h3.2 hsw44 hso45
                    refine ⟨_, Wk.refl _ _, ?_⟩
                    repeat (with_reducible first | refine then_ret ?_ | refine blk_ret ?_ | refine then_exit ?_ | refine blk_exit ?_ | refine blk_exit' (by decide) ?_ | refine blk_normal ?_ | refine then_normal ?_ | refine retq_ret ?_ | refine retq_normal ?_ | refine ng_normal ?_ | refine ng_ret ?_ | refine ng_exit ?_)
                    refine ret_is (v := .tuple #[]) rfl .nil rfl ?_
                    exact ⟨rfl, s42.kp, _, hw1, hw2, s42.getj (j := 0) rfl⟩
                  ·
                    replace c17 := of_decide_eq_false c17
                    refine dv (gyes_none rfl) (q_pt (v := .bool false) rfl rfl) rfl (by decide) (call_ok rfl) ?_
                    refine ⟨_, Wk.refl _ _, ?_⟩
                    show awp _ _ _ _ _ _ _
                    refine awp_cond_f rfl ?_
                    refine awp_skip_wk ?_
                    obtain ⟨hw1, hw2⟩ := hr.all h3.1 h3.2 .refl (hr.right0 (by omega) h3.1)
                    refine ⟨_, Wk.refl _ _, ?_⟩
                    repeat (with_reducible first | refine then_ret ?_ | refine blk_ret ?_ | refine then_exit ?_ | refine blk_exit ?_ | refine blk_exit' (by decide) ?_ | refine blk_normal ?_ | refine then_normal ?_ | refine retq_ret ?_ | refine retq_normal ?_ | refine ng_normal ?_ | refine ng_ret ?_ | refine ng_exit ?_)
                    refine ret_is (v := .tuple #[]) rfl .nil rfl ?_
                    exact ⟨rfl, s31.kp, _, hw1, hw2, s31.getj (j := 0) rfl⟩
                ·
                  replace c16 := of_decide_eq_false c16
                  refine dv (gyes_none rfl) (q_mv (v := .bool false) rfl) rfl (by decide) (cok1 trivial) ?_
                  refine dno rfl (.inl rfl) rfl (by decide) ?_
                  refine dno rfl (.inl rfl) rfl (by decide) ?_
                  refine dno rfl (.inl rfl) rfl (by decide) ?_
                  refine dv (gyes_none rfl) (q_pf (v := .bool false) rfl rfl) rfl (by decide) (call_ok rfl) ?_
                  refine ⟨_, Wk.refl _ _, ?_⟩
                  show awp _ _ _ _ _ _ _
                  refine awp_cond_f rfl ?_
                  refine awp_skip_wk ?_
                  obtain ⟨hw1, hw2⟩ := hr.all h3.1 h3.2 .refl (hr.right0 (by omega) h3.1)
                  refine ⟨_, Wk.refl _ _, ?_⟩
                  repeat (with_reducible first | refine then_ret ?_ | refine blk_ret ?_ | refine then_exit ?_ | refine blk_exit ?_ | refine blk_exit' (by decide) ?_ | refine blk_normal ?_ | refine then_normal ?_ | refine retq_ret ?_ | refine retq_normal ?_ | refine ng_normal ?_ | refine ng_ret ?_ | refine ng_exit ?_)
                  refine ret_is (v := .tuple #[]) rfl .nil rfl ?_
                  exact ⟨rfl, s31.kp, _, hw1, hw2, s31.getj (j := 0) rfl⟩
theorem sym_ok : ∀ k, SymOk k
  | 0 => fun n d bn bk nb vN names E l hn hn2 hd hl a m b hs hk => by have := hs.am; have := hs.mb; omega
  | k + 1 => fun n d bn bk nb vN names E l hn hn2 hd hl a m b hs hk => sym_step k (sym_ok k) n d bn bk nb vN names E l hn hn2 hd hl a m b hs hk

end Go.Proofs.YtponfeigjmjbmaaA


/-
  Walks of functions of the given program, and what they compute.
-/
namespace Go.Proofs.YtponfeigjmjbmaaA
set_option linter.unusedVariables false
open Go Go.RowKit Go.Shelf Go.Proofs
structure Blk (key : Nat → Nat) (n c : Nat) (l0 l : List Nat) : Prop where
  len : l.length = n
  cn : 20 * c ≤ n
  a1 : 1 ≤ c → Srt key l 0 20 ∧ ∀ p, p < 20 → nth l p < 20
  a2 : 2 ≤ c → Srt key l 20 40
  rest : ∀ p, 20 * c ≤ p → p < n → nth l p = p
  sec : ∀ p, 20 ≤ p → p < n → 20 ≤ nth l p
  sw : Sw 0 n l0 l
structure End (key : Nat → Nat) (n : Nat) (l0 l : List Nat) : Prop where
  sw : Sw 0 n l0 l
  one : n ≤ 20 → Srt key l 0 n
  sm : 20 < n → SM key l 0 20 n
section
variable {key : Nat → Nat} {n c : Nat} {l0 l l' : List Nat}
theorem blk_start (hn : l0.length = n) (h0 : ∀ p, p < n → nth l0 p = p) : Blk key n 0 l0 l0 :=
  ⟨hn, by omega, fun h => absurd h (by omega), fun h => absurd h (by omega), fun p _ h => h0 p h, fun p h1 h2 => by rw [h0 p h2]; exact h1, .refl⟩
theorem blk_step (h : Blk key n c l0 l) (hc : 20 * c + 20 ≤ n) (hn : n ≤ 40) (hw : Sw (20 * c) (20 * c + 20) l l') (hs : Srt key l' (20 * c) (20 * c + 20)) : Blk key n (c + 1) l0 l' := by
  have hl := h.len
  have hr : ∀ p, 20 * (c + 1) ≤ p → p < n → nth l' p = p := fun p h1 h2 => by rw [hw.out (.inr (by omega))]; exact h.rest p (by omega) h2
  have hll : l'.length = n := hw.len.trans hl
  have hsw : Sw 0 n l0 l' := h.sw.trans (hw.mono (by omega) hc (by omega))
  rcases (show c = 0 ∨ c = 1 by omega) with rfl | rfl
  · refine ⟨hll, by omega, fun _ => ⟨hs, ?_⟩, fun h => absurd h (by omega), hr, fun p h1 h2 => ?_, hsw⟩
    · intro p hp
      exact hw.all (P := fun x => x < 20) (fun k k1 k2 => by rw [h.rest k (by omega) (by omega)]; omega) p (by omega) (by omega)
    · rw [hr p (by omega) h2]; exact h1
  · refine ⟨hll, by omega, fun _ => ⟨(h.a1 (Nat.le_refl _)).1.same fun k k1 k2 => hw.out (.inl (by omega)), fun p hp => by rw [hw.out (.inl (by omega))]; exact (h.a1 (Nat.le_refl _)).2 p hp⟩, fun _ => hs, hr, ?_, hsw⟩
    intro p h1 h2
    by_cases e : p < 40
    · exact hw.all (P := fun x => 20 ≤ x) (fun k k1 k2 => h.sec k (by omega) (by omega)) p (by omega) (by omega)
    · omega
theorem blk_last (h : Blk key n c l0 l) (hc : n < 20 * c + 20) (hc2 : c ≤ 2) (hn : n ≤ 40) (hw : Sw (20 * c) n l l') (hs : Srt key l' (20 * c) n) : End key n l0 l' := by
  have hcn := h.cn
  have hl := h.len
  have hll : l'.length = n := hw.len.trans hl
  have hsw : Sw 0 n l0 l' := h.sw.trans (hw.mono (by omega) (Nat.le_refl _) (by omega))
  have hsec : ∀ p, 20 ≤ p → p < n → 20 ≤ nth l' p := fun p h1 h2 => by
    by_cases e : p < 20 * c
    · rw [hw.out (.inl e)]; exact h.sec p h1 h2
    · rcases (show c = 0 ∨ 1 ≤ c by omega) with rfl | hc
      · omega
      · exact hw.all (P := fun x => 20 ≤ x) (fun k k1 k2 => h.sec k (by omega) (by omega)) p (by omega) h2
  have hfst : 1 ≤ c → Srt key l' 0 20 ∧ ∀ p, p < 20 → nth l' p < 20 := fun hc => ⟨(h.a1 hc).1.same fun k k1 k2 => hw.out (.inl (by omega)), fun p hp => by rw [hw.out (.inl (by omega))]; exact (h.a1 hc).2 p hp⟩
  refine ⟨hsw, fun h1 => ?_, fun h1 => ?_⟩
  · rcases (show c = 0 ∨ 1 ≤ c by omega) with rfl | hc
    · exact hs
    · exact (hfst hc).1.sub (Nat.le_refl _) h1
  · have hc1 : 1 ≤ c := by omega
    refine ⟨by omega, h1, by omega, (hfst hc1).1, ?_, fun p q q1 q2 q3 q4 => ?_⟩
    · rcases (show c = 1 ∨ c = 2 by omega) with rfl | rfl
      · exact hs
      · exact ((h.a2 (by omega)).same fun k k1 k2 => hw.out (.inl (by omega))).sub (Nat.le_refl _) hn
    · have := (hfst hc1).2 p q2
      have := hsec q q3 q4
      omega
end
set_option maxRecDepth 100000 in
set_option maxHeartbeats 4000000 in
theorem stable_ok {H0 : AHeap} (n d bn bk nb : Nat) (vN : Value) (names : List ByteArray) (E : SEnv H0 d bn bk nb vN names) (l : List Nat) (hn : l.length = n) (hn2 : n ≤ 1000) (hd : H0[d]? = some (.cells true (l.map i64v) 1)) (hl : ∀ x ∈ l, x < names.length) (hn40 : n ≤ 40) (h0 : ∀ p, p < n → nth l p = p) : ACalls Try.prog 39 [.slice (some ⟨d, 0, none⟩) n n, .int .i64 ((n : Nat) : Int), .func (.func 23) #[] #[.pointer (some ⟨bn, 0, none⟩), .pointer (some ⟨bk, 0, none⟩)]] H0 (fun v H' => v = .tuple #[] ∧ Kp (· ∈ [d]) H0 H' ∧ ∃ l', Sw 0 n l l' ∧ Srt (gkey names nb) l' 0 n ∧ H'[d]? = some (.cells true (l'.map i64v) 1)) := by
  have hF : Wd Fence.wide := .inl rfl
  have hM : Try.prog.follows .mixedOrders = true := by kernel_rfl
  have s0 : St H0 (· ∈ [d]) (Off H0 [d]) H0 [(d, .cells true (l.map i64v) 1)] := St.beginL [(d, .cells true (l.map i64v) 1)] (by simp) (allAt_mem ⟨hd, trivial⟩)
  refine acalls_st Try.func39 rfl Try.ntmps39 rfl ?_
  refine awp_seq ?_
  refine awp_regs hF ?_
  refine dv (gyes_none rfl) (q_as (v := .int .i64 20) rfl) rfl (by decide) (cok1 (cconst rfl)) ?_
  refine ⟨_, Wk.refl _ _, ?_⟩
  show awp _ _ _ _ _ _ _
  refine awp_seq ?_
  refine awp_regs hF ?_
  refine dv (gyes_none rfl) (q_mv (v := .int .i64 20) rfl) rfl (by decide) (cok1 trivial) ?_
  refine dv (gyes_none rfl) (q_as (v := .int .i64 0) rfl) rfl (by decide) (cok1 (cconst rfl)) ?_
  refine dv (gyes_none rfl) (q_as (v := .int .i64 20) rfl) rfl (by decide) (cok1 trivial) ?_
  refine ⟨_, Wk.refl _ _, ?_⟩
  show awp _ _ _ _ _ _ _
  refine awp_seq ?_
  refine awp_block ?_
  refine awp_wk (Wk.U [(0, .slice (some ⟨d, 0, none⟩) n n), (1, .int .i64 ((n : Nat) : Int)), (2, .func (.func 23) #[] #[.pointer (some ⟨bn, 0, none⟩), .pointer (some ⟨bk, 0, none⟩)]), (6, .int .i64 20), (7, .int .i64 ((20 * 0 : Nat) : Int)), (8, .int .i64 ((20 * 0 + 20 : Nat) : Int))] ⟨rfl, rfl, rfl, rfl, rfl, rfl, trivial⟩) ?_
  refine awp_loop (fun ((c, l2) : Nat × (List Nat)) st => ∃ (H1 : AHeap), st = ⟨63, U [(0, .slice (some ⟨d, 0, none⟩) n n), (1, .int .i64 ((n : Nat) : Int)), (2, .func (.func 23) #[] #[.pointer (some ⟨bn, 0, none⟩), .pointer (some ⟨bk, 0, none⟩)]), (6, .int .i64 20), (7, .int .i64 ((20 * c : Nat) : Int)), (8, .int .i64 ((20 * c + 20 : Nat) : Int))], [], H1⟩ ∧ St H0 ((· ∈ [d])) (Off H0 [d]) H1 [(d, .cells true (l2.map i64v) 1)] ∧ (Blk (gkey names nb) n c l l2)) (fun ((c, l2) : Nat × (List Nat)) => n - 20 * c) (x0 := (0, l)) ?h0 ?round
  case h0 =>
    exact ⟨_, rfl, s0, blk_start hn h0⟩
  case round =>
    rintro ⟨c, l2⟩ _ ⟨H1, rfl, s2, hb⟩
    dsimp only at *
    have hln : l2.length = n := hb.sw.len.trans hn
    have hlt := hb.sw.lt hl
    have hcn := hb.cn
    refine awp_seq ?_
    refine awp_seq ?_
    refine awp_regs hF ?_
    refine dv (gyes_none rfl) (q_mv (v := .int .i64 ((20 * c + 20 : Nat) : Int)) rfl) rfl (by decide) (cok1 trivial) ?_
    refine dv (gyes_none rfl) (q_mv (v := .int .i64 ((n : Nat) : Int)) rfl) rfl (by decide) (cok1 trivial) ?_
    refine dvb (gyes_none rfl) (q_int rfl rfl rfl) rfl (by decide) (cok2 trivial trivial) (fun c1 => ?_) (fun c1 => ?_)
    ·
      replace c1 := of_decide_eq_true c1
      refine ⟨_, Wk.refl _ _, ?_⟩
      show awp _ _ _ _ _ _ _
      refine awp_cond_t rfl ?_
      refine awp_skip_wk ?_
      refine ⟨_, Wk.refl _ _, ?_⟩
      show awp _ _ _ _ _ _ _
      refine awp_block ?_
      refine awp_seq ?_
      refine awp_regs hF ?_
      refine dv (gyes_none rfl) (q_mv (v := .slice (some ⟨d, 0, none⟩) n n) rfl) rfl (by decide) (cok1 trivial) ?_
      refine dv (gyes_none rfl) (q_mv (v := .int .i64 ((20 * c : Nat) : Int)) rfl) rfl (by decide) (cok1 trivial) ?_
      refine dv (gyes_none rfl) (q_mv (v := .int .i64 ((20 * c + 20 : Nat) : Int)) rfl) rfl (by decide) (cok1 trivial) ?_
      refine dv (gyes_none rfl) (q_mv (v := .func (.func 23) #[] #[.pointer (some ⟨bn, 0, none⟩), .pointer (some ⟨bk, 0, none⟩)]) rfl) rfl (by decide) (cok1 trivial) ?_
      refine x_call [] hF (by kernel_rfl) (gyes_none rfl) Try.call51 rfl (args := [.slice (some ⟨d, 0, none⟩) n n, .int .i64 ((20 * c : Nat) : Int), .int .i64 ((20 * c + 20 : Nat) : Int), .func (.func 23) #[] #[.pointer (some ⟨bn, 0, none⟩), .pointer (some ⟨bk, 0, none⟩)]]) rfl (insertion_ok n d bn bk nb vN names (E.kp s2.kp) l2 hln hn2 (s2.getj (j := 0) rfl) hlt (20 * c) (20 * c + 20) (by omega) (by omega) (fun p q h1 h2 h3 => by rw [hb.rest p h1 (by omega), hb.rest q (by omega) (by omega)]; exact h2)) (show _ < _ by decide) (call_ok rfl) rfl rfl (fun _ _ _ _ hd => by cases hd) ?_
      rintro _ H3 ⟨rfl, hk4, l7, hsw8, hso9, h5⟩
      have s6 := s2.turn1 (j := 0) rfl hk4 h5
      refine ⟨trivial, ?_⟩
      show dList _ _ _ _ _ _ _ _ _ _
      refine ⟨_, Wk.refl _ _, ?_⟩
      show awp _ _ _ _ _ _ _
      refine awp_seq ?_
      refine awp_regs hF ?_
      refine dv (gyes_none rfl) (q_mv (v := .int .i64 ((20 * c + 20 : Nat) : Int)) rfl) rfl (by decide) (cok1 trivial) ?_
      refine dv (gyes_none rfl) (q_as (v := .int .i64 ((20 * c + 20 : Nat) : Int)) rfl) rfl (by decide) (cok1 trivial) ?_
      refine ⟨_, Wk.refl _ _, ?_⟩
      show awp _ _ _ _ _ _ _
      refine awp_regs hF ?_
      refine dv (gyes_none rfl) (q_mv (v := .int .i64 ((20 * c + 20 : Nat) : Int)) rfl) rfl (by decide) (cok1 trivial) ?_
      refine dv (gyes_none rfl) (q_mv (v := .int .i64 20) rfl) rfl (by decide) (cok1 trivial) ?_
      refine dv (gyes_none rfl) (OpQ.cast (v' := .int .i64 ((20 * c + 20 + 20 : Nat) : Int)) (q_int rfl rfl rfl) (congrArg _ ((i64_in (by omega)).trans (by first | rfl | omega | (push_cast; rfl))))) rfl (by decide) (cok2 trivial trivial) ?_
      refine dv (gyes_none rfl) (q_as (v := .int .i64 ((20 * c + 20 + 20 : Nat) : Int)) rfl) rfl (by decide) (cok1 trivial) ?_
      refine ⟨_, Wk.U [(0, .slice (some ⟨d, 0, none⟩) n n), (1, .int .i64 ((n : Nat) : Int)), (2, .func (.func 23) #[] #[.pointer (some ⟨bn, 0, none⟩), .pointer (some ⟨bk, 0, none⟩)]), (6, .int .i64 20), (7, .int .i64 ((20 * (c + 1) : Nat) : Int)), (8, .int .i64 ((20 * (c + 1) + 20 : Nat) : Int))] ⟨rfl, rfl, rfl, rfl, rfl, rfl, trivial⟩, ((c + 1), l7), ⟨_, rfl, s6, blk_step hb (by omega) hn40 hsw8 hso9⟩, (by omega)⟩
    ·
      replace c1 := of_decide_eq_false c1
      refine ⟨_, Wk.refl _ _, ?_⟩
      show awp _ _ _ _ _ _ _
      refine awp_cond_f rfl ?_
      refine awp_exit_wk ?_
      refine ⟨_, Wk.refl _ _, ?_⟩
      show awp _ _ _ _ _ _ _
      refine awp_seq ?_
      refine awp_regs hF ?_
      refine dv (gyes_none rfl) (q_mv (v := .slice (some ⟨d, 0, none⟩) n n) rfl) rfl (by decide) (cok1 trivial) ?_
      refine dv (gyes_none rfl) (q_mv (v := .int .i64 ((20 * c : Nat) : Int)) rfl) rfl (by decide) (cok1 trivial) ?_
      refine dv (gyes_none rfl) (q_mv (v := .int .i64 ((n : Nat) : Int)) rfl) rfl (by decide) (cok1 trivial) ?_
      refine dv (gyes_none rfl) (q_mv (v := .func (.func 23) #[] #[.pointer (some ⟨bn, 0, none⟩), .pointer (some ⟨bk, 0, none⟩)]) rfl) rfl (by decide) (cok1 trivial) ?_
      refine x_call [] hF (by kernel_rfl) (gyes_none rfl) Try.call51 rfl (args := [.slice (some ⟨d, 0, none⟩) n n, .int .i64 ((20 * c : Nat) : Int), .int .i64 ((n : Nat) : Int), .func (.func 23) #[] #[.pointer (some ⟨bn, 0, none⟩), .pointer (some ⟨bk, 0, none⟩)]]) rfl (insertion_ok n d bn bk nb vN names (E.kp s2.kp) l2 hln hn2 (s2.getj (j := 0) rfl) hlt (20 * c) n (by omega) (by omega) (fun p q h1 h2 h3 => by rw [hb.rest p h1 (by omega), hb.rest q (by omega) (by omega)]; exact h2)) (show _ < _ by decide) (call_ok rfl) rfl rfl (fun _ _ _ _ hd => by cases hd) ?_
      rintro _ H10 ⟨rfl, hk11, l14, hsw15, hso16, h12⟩
      have s13 := s2.turn1 (j := 0) rfl hk11 h12
      refine ⟨trivial, ?_⟩
      show dList _ _ _ _ _ _ _ _ _ _
      refine ⟨_, Wk.refl _ _, ?_⟩
      show awp _ _ _ _ _ _ _
      refine awp_block ?_
      have hend : End (gkey names nb) n l l14 := blk_last hb (by omega) (by omega) hn40 hsw15 hso16
      refine awp_wk (Wk.U [(0, .slice (some ⟨d, 0, none⟩) n n), (1, .int .i64 ((n : Nat) : Int)), (2, .func (.func 23) #[] #[.pointer (some ⟨bn, 0, none⟩), .pointer (some ⟨bk, 0, none⟩)]), (6, .int .i64 20)] ⟨rfl, rfl, rfl, rfl, trivial⟩) ?_
      refine awp_loop (fun ((bs, l3) : Nat × (List Nat)) st => ∃ (H17 : AHeap), st = ⟨63, U [(0, .slice (some ⟨d, 0, none⟩) n n), (1, .int .i64 ((n : Nat) : Int)), (2, .func (.func 23) #[] #[.pointer (some ⟨bn, 0, none⟩), .pointer (some ⟨bk, 0, none⟩)]), (6, .int .i64 ((bs : Nat) : Int))], [], H17⟩ ∧ St H0 ((· ∈ [d])) (Off H0 [d]) H17 [(d, .cells true (l3.map i64v) 1)] ∧ ((bs = 20 ∧ End (gkey names nb) n l l3) ∨ (bs = 40 ∧ Sw 0 n l l3 ∧ Srt (gkey names nb) l3 0 n))) (fun ((bs, l3) : Nat × (List Nat)) => n - bs) (x0 := (20, l14)) ?h0 ?round
      case h0 =>
        exact ⟨_, rfl, s13, .inl ⟨rfl, hend⟩⟩
      case round =>
        rintro ⟨bs, l3⟩ _ ⟨H17, rfl, s18, hm⟩
        dsimp only at *
        have hln3 : l3.length = n := by rcases hm with h | h; exact h.2.sw.len.trans hn; exact h.2.1.len.trans hn
        have hlt3 : ∀ x ∈ l3, x < names.length := by rcases hm with h | h; exact h.2.sw.lt hl; exact h.2.1.lt hl
        refine awp_seq ?_
        refine awp_seq ?_
        refine awp_regs hF ?_
        refine dv (gyes_none rfl) (q_mv (v := .int .i64 ((bs : Nat) : Int)) rfl) rfl (by decide) (cok1 trivial) ?_
        refine dv (gyes_none rfl) (q_mv (v := .int .i64 ((n : Nat) : Int)) rfl) rfl (by decide) (cok1 trivial) ?_
        refine dvb (gyes_none rfl) (q_int rfl rfl rfl) rfl (by decide) (cok2 trivial trivial) (fun c2 => ?_) (fun c2 => ?_)
        ·
          replace c2 := of_decide_eq_true c2
          refine ⟨_, Wk.refl _ _, ?_⟩
          show awp _ _ _ _ _ _ _
          refine awp_cond_t rfl ?_
          refine awp_skip_wk ?_
          refine ⟨_, Wk.refl _ _, ?_⟩
          show awp _ _ _ _ _ _ _
          refine awp_block ?_
          refine awp_seq ?_
          refine awp_regs hF ?_
          refine dv (gyes_none rfl) (q_mv (v := .int .i64 ((bs : Nat) : Int)) rfl) rfl (by decide) (cok1 trivial) ?_
          refine dv (gyes_none rfl) (OpQ.cast (v' := .int .i64 ((2 * bs : Nat) : Int)) (q_int rfl rfl rfl) (congrArg _ ((i64_in (by omega)).trans (by first | rfl | omega | (push_cast; rfl))))) rfl (by decide) (cok2 (cconst rfl) trivial) ?_
          refine dv (gyes_none rfl) (q_as (v := .int .i64 0) rfl) rfl (by decide) (cok1 (cconst rfl)) ?_
          refine dv (gyes_none rfl) (q_as (v := .int .i64 ((2 * bs : Nat) : Int)) rfl) rfl (by decide) (cok1 trivial) ?_
          refine ⟨_, Wk.refl _ _, ?_⟩
          show awp _ _ _ _ _ _ _
          refine awp_seq ?_
          refine awp_block ?_
          have hbs : bs = 20 ∧ End (gkey names nb) n l l3 := by rcases hm with h | h; exact h; exact absurd h.1 (by omega)
          have hE := hbs.2
          have hsm := hE.sm (by omega)
          refine awp_wk (Wk.U [(0, .slice (some ⟨d, 0, none⟩) n n), (1, .int .i64 ((n : Nat) : Int)), (2, .func (.func 23) #[] #[.pointer (some ⟨bn, 0, none⟩), .pointer (some ⟨bk, 0, none⟩)]), (6, .int .i64 ((bs : Nat) : Int)), (7, .int .i64 0), (8, .int .i64 (((2 * bs) : Nat) : Int))] ⟨rfl, rfl, rfl, rfl, rfl, rfl, trivial⟩) ?_
          refine awp_loop (fun ((a, b, l4) : Nat × Nat × (List Nat)) st => ∃ (H19 : AHeap), st = ⟨63, U [(0, .slice (some ⟨d, 0, none⟩) n n), (1, .int .i64 ((n : Nat) : Int)), (2, .func (.func 23) #[] #[.pointer (some ⟨bn, 0, none⟩), .pointer (some ⟨bk, 0, none⟩)]), (6, .int .i64 ((bs : Nat) : Int)), (7, .int .i64 ((a : Nat) : Int)), (8, .int .i64 ((b : Nat) : Int))], [], H19⟩ ∧ St H0 ((· ∈ [d])) (Off H0 [d]) H19 [(d, .cells true (l4.map i64v) 1)] ∧ ((a = 0 ∧ b = 40 ∧ l4 = l3) ∨ (a = 40 ∧ b = 80 ∧ n = 40 ∧ Sw 0 n l l4 ∧ Srt (gkey names nb) l4 0 n))) (fun ((a, b, l4) : Nat × Nat × (List Nat)) => 80 - b) (x0 := (0, (2 * bs), l3)) ?h0 ?round
          case h0 =>
            exact ⟨_, rfl, s18, .inl ⟨rfl, by omega, rfl⟩⟩
          case round =>
            rintro ⟨a, b, l4⟩ _ ⟨H19, rfl, s20, hi4⟩
            dsimp only at *
            refine awp_seq ?_
            refine awp_seq ?_
            refine awp_regs hF ?_
            refine dv (gyes_none rfl) (q_mv (v := .int .i64 ((b : Nat) : Int)) rfl) rfl (by decide) (cok1 trivial) ?_
            refine dv (gyes_none rfl) (q_mv (v := .int .i64 ((n : Nat) : Int)) rfl) rfl (by decide) (cok1 trivial) ?_
            refine dvb (gyes_none rfl) (q_int rfl rfl rfl) rfl (by decide) (cok2 trivial trivial) (fun c3 => ?_) (fun c3 => ?_)
            ·
              replace c3 := of_decide_eq_true c3
              refine ⟨_, Wk.refl _ _, ?_⟩
              show awp _ _ _ _ _ _ _
              refine awp_cond_t rfl ?_
              refine awp_skip_wk ?_
              refine ⟨_, Wk.refl _ _, ?_⟩
              show awp _ _ _ _ _ _ _
              refine awp_block ?_
              refine awp_seq ?_
              have h4 : a = 0 ∧ b = 40 ∧ l4 = l3 := by rcases hi4 with h | h; exact h; exact absurd h.1 (by omega)
              obtain ⟨h4a, h4b, h4l⟩ := h4
              rw [h4l] at s20
              refine awp_regs hF ?_
              refine dv (gyes_none rfl) (q_mv (v := .slice (some ⟨d, 0, none⟩) n n) rfl) rfl (by decide) (cok1 trivial) ?_
              refine dv (gyes_none rfl) (q_mv (v := .int .i64 ((a : Nat) : Int)) rfl) rfl (by decide) (cok1 trivial) ?_
              refine dv (gyes_none rfl) (q_mv (v := .int .i64 ((a : Nat) : Int)) rfl) rfl (by decide) (cok1 trivial) ?_
              refine dv (gyes_none rfl) (q_mv (v := .int .i64 ((bs : Nat) : Int)) rfl) rfl (by decide) (cok1 trivial) ?_
              refine dv (gyes_none rfl) (OpQ.cast (v' := .int .i64 ((a + bs : Nat) : Int)) (q_int rfl rfl rfl) (congrArg _ ((i64_in (by omega)).trans (by first | rfl | omega | (push_cast; rfl))))) rfl (by decide) (cok2 trivial trivial) ?_
              refine dv (gyes_none rfl) (q_mv (v := .int .i64 ((b : Nat) : Int)) rfl) rfl (by decide) (cok1 trivial) ?_
              refine dv (gyes_none rfl) (q_mv (v := .func (.func 23) #[] #[.pointer (some ⟨bn, 0, none⟩), .pointer (some ⟨bk, 0, none⟩)]) rfl) rfl (by decide) (cok1 trivial) ?_
              refine x_call [] hF (by kernel_rfl) (gyes_none rfl) Try.call52 rfl (args := [.slice (some ⟨d, 0, none⟩) n n, .int .i64 ((a : Nat) : Int), .int .i64 ((a + bs : Nat) : Int), .int .i64 ((b : Nat) : Int), .func (.func 23) #[] #[.pointer (some ⟨bn, 0, none⟩), .pointer (some ⟨bk, 0, none⟩)]]) rfl ((show ACalls Try.prog 52 [.slice (some ⟨d, 0, none⟩) n n, .int .i64 ((a : Nat) : Int), .int .i64 ((a + bs : Nat) : Int), .int .i64 ((b : Nat) : Int), .func (.func 23) #[] #[.pointer (some ⟨bn, 0, none⟩), .pointer (some ⟨bk, 0, none⟩)]] H19 (fun v H' => v = .tuple #[] ∧ Kp (· ∈ [d]) H19 H' ∧ ∃ l', Sw 0 n l3 l' ∧ Srt (gkey names nb) l' 0 n ∧ H'[d]? = some (.cells true (l'.map i64v) 1)) by rw [show (a + bs) = 20 by omega, show a = 0 from h4a, show b = n by omega]; exact sym_ok n n d bn bk nb vN names (E.kp s20.kp) l3 hln3 hn2 (s20.getj (j := 0) rfl) hlt3 0 20 n hsm (by omega))) (show _ < _ by decide) (call_ok rfl) rfl rfl (fun _ _ _ _ hd => by cases hd) ?_
              rintro _ H21 ⟨rfl, hk22, l25, hsw26, hso27, h23⟩
              have s24 := s20.turn1 (j := 0) rfl hk22 h23
              refine ⟨trivial, ?_⟩
              show dList _ _ _ _ _ _ _ _ _ _
              refine ⟨_, Wk.refl _ _, ?_⟩
              show awp _ _ _ _ _ _ _
              refine awp_seq ?_
              refine awp_regs hF ?_
              refine dv (gyes_none rfl) (q_mv (v := .int .i64 ((b : Nat) : Int)) rfl) rfl (by decide) (cok1 trivial) ?_
              refine dv (gyes_none rfl) (q_as (v := .int .i64 ((b : Nat) : Int)) rfl) rfl (by decide) (cok1 trivial) ?_
              refine ⟨_, Wk.refl _ _, ?_⟩
              show awp _ _ _ _ _ _ _
              refine awp_regs hF ?_
              refine dv (gyes_none rfl) (q_mv (v := .int .i64 ((b : Nat) : Int)) rfl) rfl (by decide) (cok1 trivial) ?_
              refine dv (gyes_none rfl) (q_mv (v := .int .i64 ((bs : Nat) : Int)) rfl) rfl (by decide) (cok1 trivial) ?_
              refine dv (gyes_none rfl) (OpQ.cast (v' := .int .i64 ((2 * bs : Nat) : Int)) (q_int rfl rfl rfl) (congrArg _ ((i64_in (by omega)).trans (by first | rfl | omega | (push_cast; rfl))))) rfl (by decide) (cok2 (cconst rfl) trivial) ?_
              refine dv (gyes_none rfl) (OpQ.cast (v' := .int .i64 ((b + (2 * bs) : Nat) : Int)) (q_int rfl rfl rfl) (congrArg _ ((i64_in (by omega)).trans (by first | rfl | omega | (push_cast; rfl))))) rfl (by decide) (cok2 trivial trivial) ?_
              refine dv (gyes_none rfl) (q_as (v := .int .i64 ((b + (2 * bs) : Nat) : Int)) rfl) rfl (by decide) (cok1 trivial) ?_
              refine ⟨_, Wk.U [(0, .slice (some ⟨d, 0, none⟩) n n), (1, .int .i64 ((n : Nat) : Int)), (2, .func (.func 23) #[] #[.pointer (some ⟨bn, 0, none⟩), .pointer (some ⟨bk, 0, none⟩)]), (6, .int .i64 ((bs : Nat) : Int)), (7, .int .i64 ((b : Nat) : Int)), (8, .int .i64 (((b + (2 * bs)) : Nat) : Int))] ⟨rfl, rfl, rfl, rfl, rfl, rfl, trivial⟩, (b, (b + (2 * bs)), l25), ⟨_, rfl, s24, .inr ⟨by dsimp only; omega, by dsimp only; omega, by omega, by dsimp only; have q := hE.sw.trans hsw26; exact q, by dsimp only; exact hso27⟩⟩, (by dsimp only; omega)⟩
            ·
              replace c3 := of_decide_eq_false c3
              refine ⟨_, Wk.refl _ _, ?_⟩
              show awp _ _ _ _ _ _ _
              refine awp_cond_f rfl ?_
              refine awp_exit_wk ?_
              refine ⟨_, Wk.refl _ _, ?_⟩
              show awp _ _ _ _ _ _ _
              refine awp_seq ?_
              refine awp_seq ?_
              refine awp_regs hF ?_
              refine dv (gyes_none rfl) (q_mv (v := .int .i64 ((a : Nat) : Int)) rfl) rfl (by decide) (cok1 trivial) ?_
              refine dv (gyes_none rfl) (q_mv (v := .int .i64 ((bs : Nat) : Int)) rfl) rfl (by decide) (cok1 trivial) ?_
              refine dv (gyes_none rfl) (OpQ.cast (v' := .int .i64 ((a + bs : Nat) : Int)) (q_int rfl rfl rfl) (congrArg _ ((i64_in (by omega)).trans (by first | rfl | omega | (push_cast; rfl))))) rfl (by decide) (cok2 trivial trivial) ?_
              refine dv (gyes_none rfl) (q_as (v := .int .i64 ((a + bs : Nat) : Int)) rfl) rfl (by decide) (cok1 trivial) ?_
              refine ⟨_, Wk.refl _ _, ?_⟩
              show awp _ _ _ _ _ _ _
              refine awp_seq ?_
              refine awp_regs hF ?_
              refine dv (gyes_none rfl) (q_mv (v := .int .i64 ((a + bs : Nat) : Int)) rfl) rfl (by decide) (cok1 trivial) ?_
              refine dv (gyes_none rfl) (q_mv (v := .int .i64 ((n : Nat) : Int)) rfl) rfl (by decide) (cok1 trivial) ?_
              refine dvb (gyes_none rfl) (q_int rfl rfl rfl) rfl (by decide) (cok2 trivial trivial) (fun c4 => ?_) (fun c4 => ?_)
              ·
                replace c4 := of_decide_eq_true c4
                refine ⟨_, Wk.refl _ _, ?_⟩
                show awp _ _ _ _ _ _ _
                refine awp_cond_t rfl ?_
                have h4 : a = 0 ∧ b = 40 ∧ l4 = l3 := by rcases hi4 with h | h; exact h; exact absurd h.1 (by omega)
                obtain ⟨h4a, h4b, h4l⟩ := h4
                rw [h4l] at s20
                refine awp_regs hF ?_
                refine dv (gyes_none rfl) (q_mv (v := .slice (some ⟨d, 0, none⟩) n n) rfl) rfl (by decide) (cok1 trivial) ?_
                refine dv (gyes_none rfl) (q_mv (v := .int .i64 ((a : Nat) : Int)) rfl) rfl (by decide) (cok1 trivial) ?_
                refine dv (gyes_none rfl) (q_mv (v := .int .i64 ((a + bs : Nat) : Int)) rfl) rfl (by decide) (cok1 trivial) ?_
                refine dv (gyes_none rfl) (q_mv (v := .int .i64 ((n : Nat) : Int)) rfl) rfl (by decide) (cok1 trivial) ?_
                refine dv (gyes_none rfl) (q_mv (v := .func (.func 23) #[] #[.pointer (some ⟨bn, 0, none⟩), .pointer (some ⟨bk, 0, none⟩)]) rfl) rfl (by decide) (cok1 trivial) ?_
                refine x_call [] hF (by kernel_rfl) (gyes_none rfl) Try.call52 rfl (args := [.slice (some ⟨d, 0, none⟩) n n, .int .i64 ((a : Nat) : Int), .int .i64 ((a + bs : Nat) : Int), .int .i64 ((n : Nat) : Int), .func (.func 23) #[] #[.pointer (some ⟨bn, 0, none⟩), .pointer (some ⟨bk, 0, none⟩)]]) rfl ((show ACalls Try.prog 52 [.slice (some ⟨d, 0, none⟩) n n, .int .i64 ((a : Nat) : Int), .int .i64 ((a + bs : Nat) : Int), .int .i64 ((n : Nat) : Int), .func (.func 23) #[] #[.pointer (some ⟨bn, 0, none⟩), .pointer (some ⟨bk, 0, none⟩)]] H19 (fun v H' => v = .tuple #[] ∧ Kp (· ∈ [d]) H19 H' ∧ ∃ l', Sw 0 n l3 l' ∧ Srt (gkey names nb) l' 0 n ∧ H'[d]? = some (.cells true (l'.map i64v) 1)) by rw [show (a + bs) = 20 by omega, show a = 0 from h4a]; exact sym_ok n n d bn bk nb vN names (E.kp s20.kp) l3 hln3 hn2 (s20.getj (j := 0) rfl) hlt3 0 20 n hsm (by omega))) (show _ < _ by decide) (call_ok rfl) rfl rfl (fun _ _ _ _ hd => by cases hd) ?_
                rintro _ H28 ⟨rfl, hk29, l32, hsw33, hso34, h30⟩
                have s31 := s20.turn1 (j := 0) rfl hk29 h30
                refine ⟨trivial, ?_⟩
                show dList _ _ _ _ _ _ _ _ _ _
                refine ⟨_, Wk.refl _ _, ?_⟩
                show awp _ _ _ _ _ _ _
                refine awp_regs hF ?_
                refine dv (gyes_none rfl) (q_mv (v := .int .i64 ((bs : Nat) : Int)) rfl) rfl (by decide) (cok1 trivial) ?_
                refine dv (gyes_none rfl) (OpQ.cast (v' := .int .i64 ((bs * 2 : Nat) : Int)) (q_int rfl rfl rfl) (congrArg _ ((i64_in (by omega)).trans (by first | rfl | omega | (push_cast; rfl))))) rfl (by decide) (cok2 trivial (cconst rfl)) ?_
                refine dv (gyes_none rfl) (q_as (v := .int .i64 ((bs * 2 : Nat) : Int)) rfl) rfl (by decide) (cok1 trivial) ?_
                have hmE : (bs * 2 = 20 ∧ End (gkey names nb) n l l32) ∨ (bs * 2 = 40 ∧ Sw 0 n l l32 ∧ Srt (gkey names nb) l32 0 n) := .inr ⟨by omega, hE.sw.trans hsw33, hso34⟩
                refine ⟨_, Wk.U [(0, .slice (some ⟨d, 0, none⟩) n n), (1, .int .i64 ((n : Nat) : Int)), (2, .func (.func 23) #[] #[.pointer (some ⟨bn, 0, none⟩), .pointer (some ⟨bk, 0, none⟩)]), (6, .int .i64 (((bs * 2) : Nat) : Int))] ⟨rfl, rfl, rfl, rfl, trivial⟩, ((bs * 2), l32), ⟨_, rfl, s31, hmE⟩, (by omega)⟩
              ·
                replace c4 := of_decide_eq_false c4
                refine ⟨_, Wk.refl _ _, ?_⟩
                show awp _ _ _ _ _ _ _
                refine awp_cond_f rfl ?_
                refine awp_skip_wk ?_
                refine ⟨_, Wk.refl _ _, ?_⟩
                show awp _ _ _ _ _ _ _
                refine awp_regs hF ?_
                refine dv (gyes_none rfl) (q_mv (v := .int .i64 ((bs : Nat) : Int)) rfl) rfl (by decide) (cok1 trivial) ?_
                refine dv (gyes_none rfl) (OpQ.cast (v' := .int .i64 ((bs * 2 : Nat) : Int)) (q_int rfl rfl rfl) (congrArg _ ((i64_in (by omega)).trans (by first | rfl | omega | (push_cast; rfl))))) rfl (by decide) (cok2 trivial (cconst rfl)) ?_
                refine dv (gyes_none rfl) (q_as (v := .int .i64 ((bs * 2 : Nat) : Int)) rfl) rfl (by decide) (cok1 trivial) ?_
                have hmE : (bs * 2 = 20 ∧ End (gkey names nb) n l l4) ∨ (bs * 2 = 40 ∧ Sw 0 n l l4 ∧ Srt (gkey names nb) l4 0 n) := .inr ⟨by omega, (by rcases hi4 with h | h; exact absurd h.2.1 (by omega); exact h.2.2.2.1), (by rcases hi4 with h | h; exact absurd h.2.1 (by omega); exact h.2.2.2.2)⟩
                refine ⟨_, Wk.U [(0, .slice (some ⟨d, 0, none⟩) n n), (1, .int .i64 ((n : Nat) : Int)), (2, .func (.func 23) #[] #[.pointer (some ⟨bn, 0, none⟩), .pointer (some ⟨bk, 0, none⟩)]), (6, .int .i64 (((bs * 2) : Nat) : Int))] ⟨rfl, rfl, rfl, rfl, trivial⟩, ((bs * 2), l4), ⟨_, rfl, s20, hmE⟩, (by omega)⟩
        ·
          replace c2 := of_decide_eq_false c2
          refine ⟨_, Wk.refl _ _, ?_⟩
          show awp _ _ _ _ _ _ _
          refine awp_cond_f rfl ?_
          refine awp_exit_wk ?_
          have hfin : Sw 0 n l l3 ∧ Srt (gkey names nb) l3 0 n := by
            rcases hm with h | h
            · exact ⟨h.2.sw, h.2.one (by omega)⟩
            · exact h.2
          refine ⟨_, Wk.refl _ _, ?_⟩
          repeat (with_reducible first | refine then_ret ?_ | refine blk_ret ?_ | refine then_exit ?_ | refine blk_exit ?_ | refine blk_exit' (by decide) ?_ | refine blk_normal ?_ | refine then_normal ?_ | refine retq_ret ?_ | refine retq_normal ?_ | refine ng_normal ?_ | refine ng_ret ?_ | refine ng_exit ?_)
          refine ret_is (v := .tuple #[]) rfl .nil rfl ?_
          exact ⟨rfl, s18.kp, _, hfin.1, hfin.2, s18.getj (j := 0) rfl⟩
set_option maxRecDepth 100000 in
set_option maxHeartbeats 4000000 in
theorem sortstable_ok {H0 : AHeap} (n d bn bk nb : Nat) (vN : Value) (names : List ByteArray) (E : SEnv H0 d bn bk nb vN names) (l : List Nat) (hn : l.length = n) (hn2 : n ≤ 1000) (hd : H0[d]? = some (.cells true (l.map i64v) 1)) (hl : ∀ x ∈ l, x < names.length) (hn40 : n ≤ 40) (h0 : ∀ p, p < n → nth l p = p) : ACalls Try.prog 22 [.slice (some ⟨d, 0, none⟩) n n, .func (.func 23) #[] #[.pointer (some ⟨bn, 0, none⟩), .pointer (some ⟨bk, 0, none⟩)]] H0 (fun v H' => v = .tuple #[] ∧ Kp (· ∈ [d]) H0 H' ∧ ∃ l', Sw 0 n l l' ∧ Srt (gkey names nb) l' 0 n ∧ H'[d]? = some (.cells true (l'.map i64v) 1)) := by
  have hF : Wd Fence.wide := .inl rfl
  have hM : Try.prog.follows .mixedOrders = true := by kernel_rfl
  have s0 : St H0 (· ∈ [d]) (Off H0 [d]) H0 [(d, .cells true (l.map i64v) 1)] := St.beginL [(d, .cells true (l.map i64v) 1)] (by simp) (allAt_mem ⟨hd, trivial⟩)
  refine acalls_st Try.func22 rfl Try.ntmps22 rfl ?_
  refine awp_regs hF ?_
  refine dv (gyes_none rfl) (q_mv (v := .slice (some ⟨d, 0, none⟩) n n) rfl) rfl (by decide) (cok1 trivial) ?_
  refine dv (gyes_none rfl) (q_mv (v := .slice (some ⟨d, 0, none⟩) n n) rfl) rfl (by decide) (cok1 trivial) ?_
  refine dv (gyes_none rfl) (q_len_slice Try.underlying25 rfl (s0.rd (j := 0) rfl)) rfl (by decide) (cok1 trivial) ?_
  refine dv (gyes_none rfl) (q_mv (v := .func (.func 23) #[] #[.pointer (some ⟨bn, 0, none⟩), .pointer (some ⟨bk, 0, none⟩)]) rfl) rfl (by decide) (cok1 trivial) ?_
  refine x_call [] hF (by kernel_rfl) (gyes_none rfl) Try.call39 rfl (args := [.slice (some ⟨d, 0, none⟩) n n, .int .i64 ((n : Nat) : Int), .func (.func 23) #[] #[.pointer (some ⟨bn, 0, none⟩), .pointer (some ⟨bk, 0, none⟩)]]) rfl (stable_ok n d bn bk nb vN names (E.kp s0.kp) l hn hn2 (s0.getj (j := 0) rfl) hl hn40 h0) (show _ < _ by decide) (call_ok rfl) rfl rfl (fun _ _ _ _ hd => by cases hd) ?_
  rintro _ H1 ⟨rfl, hk2, l5, hsw6, hso7, h3⟩
  have s4 := s0.turn1 (j := 0) rfl hk2 h3
  refine ⟨trivial, ?_⟩
  show dList _ _ _ _ _ _ _ _ _ _
  refine ⟨_, Wk.refl _ _, ?_⟩
  repeat (with_reducible first | refine then_ret ?_ | refine blk_ret ?_ | refine then_exit ?_ | refine blk_exit ?_ | refine blk_exit' (by decide) ?_ | refine blk_normal ?_ | refine then_normal ?_ | refine retq_ret ?_ | refine retq_normal ?_ | refine ng_normal ?_ | refine ng_ret ?_ | refine ng_exit ?_)
  refine ret_is (v := .tuple #[]) rfl .nil rfl ?_
  exact ⟨rfl, s4.kp, _, hsw6, hso7, s4.getj (j := 0) rfl⟩

end Go.Proofs.YtponfeigjmjbmaaA


/-
  Walks of functions of the given program, and what they compute.
-/
namespace Go.Proofs.YtponfeigjmjbmaaA
set_option linter.unusedVariables false
open Go Go.RowKit Go.Shelf Go.Proofs
structure OrdL (key : Nat → Nat) (l : List Nat) (n : Nat) : Prop where
  perm : l.Perm (List.range n)
  srt : Srt key l 0 n
theorem nth_range {n p : Nat} (h : p < n) : nth (List.range n) p = p := by rw [nth_eq (by simpa using h)]; simp
def sortedB (l : List Nat) : Bool := (List.range (l.length - 1)).all fun i => decide (nth l i ≤ nth l (i + 1))
theorem sortedB_f {l : List Nat} {q : Nat} (h : q + 1 < l.length) (hn : ¬ nth l q ≤ nth l (q + 1)) : sortedB l = false := by
  unfold sortedB
  rw [List.all_eq_false]
  exact ⟨q, List.mem_range.2 (by omega), by simpa using hn⟩
theorem sortedB_t {l : List Nat} (h : ∀ q, q + 1 < l.length → nth l q ≤ nth l (q + 1)) : sortedB l = true := by
  unfold sortedB
  rw [List.all_eq_true]
  exact fun q hq => decide_eq_true (h q (by have := List.mem_range.1 hq; omega))
theorem sortedB_iff {l : List Nat} : sortedB l = true ↔ ∀ q, q + 1 < l.length → nth l q ≤ nth l (q + 1) :=
  ⟨fun h q hq => Decidable.byContradiction fun hn => by rw [sortedB_f hq hn] at h; exact (nomatch h), sortedB_t⟩
def sortedK (names : List ByteArray) (nb : Nat) : Bool := (List.range (names.length - 1)).all fun i => decide (gkey names nb i ≤ gkey names nb (i + 1))
theorem sortedK_iff {names : List ByteArray} {nb : Nat} : sortedK names nb = true ↔ ∀ q, q + 1 < names.length → gkey names nb q ≤ gkey names nb (q + 1) := by
  unfold sortedK
  rw [List.all_eq_true]
  exact ⟨fun h q hq => of_decide_eq_true (h q (List.mem_range.2 (by omega))), fun h q hq => decide_eq_true (h q (by have := List.mem_range.1 hq; omega))⟩
theorem incr_id {l : List Nat} {n : Nat} (hp : l.Perm (List.range n)) (h : ∀ p, p + 1 < n → nth l p < nth l (p + 1)) : ∀ p, p < n → nth l p = p := by
  have hl : l.length = n := by rw [hp.length_eq, List.length_range]
  have hlt : ∀ p, p < n → nth l p < n := fun p hpn => List.mem_range.1 (hp.mem_iff.1 (nthS_mem (by omega)))
  have up : ∀ k p, p + k < n → nth l p + k ≤ nth l (p + k) := by
    intro k
    induction k with
    | zero => intro p _; exact Nat.le_refl _
    | succ k ih =>
      intro p hk
      have h1 := ih p (by omega)
      have h2 := h (p + k) (by omega)
      rw [show p + (k + 1) = p + k + 1 by omega]
      omega
  intro p hpn
  have h1 := up p 0 (by omega)
  rw [Nat.zero_add] at h1
  have h2 := up (n - 1 - p) p (by omega)
  rw [show p + (n - 1 - p) = n - 1 by omega] at h2
  have h3 := hlt (n - 1) (by omega)
  omega
theorem OrdL.len {key : Nat → Nat} {l : List Nat} {n : Nat} (h : OrdL key l n) : l.length = n := by rw [h.perm.length_eq, List.length_range]
theorem OrdL.lt {key : Nat → Nat} {l : List Nat} {n : Nat} (h : OrdL key l n) : ∀ x ∈ l, x < n := fun x hx => List.mem_range.1 (h.perm.mem_iff.1 hx)
theorem OrdL.id_of {key : Nat → Nat} {l : List Nat} {n : Nat} (h : OrdL key l n) (hs : sortedB l = true) : ∀ p, p < n → nth l p = p := by
  have hl := h.len
  refine incr_id h.perm fun p hp => ?_
  have h1 := sortedB_iff.1 hs p (by omega)
  have h2 := h.srt p (p + 1) (Nat.zero_le _) (Nat.lt_succ_self _) hp
  have h3 : nth l p ≠ nth l (p + 1) := fun e => by rw [e] at h2; unfold lx at h2; omega
  omega
theorem OrdL.sorted {names : List ByteArray} {nb : Nat} {l : List Nat} (h : OrdL (gkey names nb) l names.length) : sortedB l = sortedK names nb := by
  have hl := h.len
  rw [Bool.eq_iff_iff]
  constructor
  · intro hs
    have hid := h.id_of hs
    refine sortedK_iff.2 fun q hq => ?_
    have h2 := (h.srt q (q + 1) (Nat.zero_le _) (Nat.lt_succ_self _) hq).le
    rwa [hid q (by omega), hid (q + 1) hq] at h2
  · intro hk
    have hm : ∀ k p, p + k < names.length → gkey names nb p ≤ gkey names nb (p + k) := by
      intro k
      induction k with
      | zero => intro p _; exact Nat.le_refl _
      | succ k ih => intro p hp; exact Nat.le_trans (ih p (by omega)) (sortedK_iff.1 hk (p + k) (by omega))
    refine sortedB_iff.2 fun q hq => ?_
    have h2 := h.srt q (q + 1) (Nat.zero_le _) (Nat.lt_succ_self _) (by omega)
    have hx := h.lt _ (nthS_mem (show q < l.length by omega))
    have hy := h.lt _ (nthS_mem (show q + 1 < l.length by omega))
    rcases h2 with h2 | h2
    · refine Decidable.byContradiction fun hn => ?_
      have h3 := hm (nth l q - nth l (q + 1)) (nth l (q + 1)) (by omega)
      rw [show nth l (q + 1) + (nth l q - nth l (q + 1)) = nth l q by omega] at h3
      omega
    · omega
def NumOk (n : Nat) (f b w s : Int) : Prop := 1 ≤ b ∧ b ≤ 256 ∧ 1 ≤ w ∧ w ≤ 256 ∧ 0 ≤ f ∧ f ≤ 256 - (n : Int) ∧ 0 ≤ s ∧ s ≤ 63 ∧ ¬ (f = 0 ∧ 0 < n)
set_option maxRecDepth 100000 in
set_option maxHeartbeats 4000000 in
theorem order_ok {H0 : AHeap} (vN : Value) (names : List ByteArray) (hN : Sl strv H0 vN names) (hsz : ∀ x ∈ names, x.size ≤ 140737488355328) (hn40 : names.length ≤ 40) (nb : Nat) (h1 : 1 ≤ nb) (h2 : nb ≤ 256) : ACalls Try.prog 8 [vN, .int .i64 ((nb : Nat) : Int)] H0 (fun v H' => ∃ b l, K0 H0 H' ∧ H0.length ≤ b ∧ v = .slice (some ⟨b, 0, none⟩) names.length names.length ∧ OrdL (gkey names nb) l names.length ∧ H'[b]? = some (.cells true (l.map i64v) 1)) := by
  have hF : Wd Fence.wide := .inl rfl
  have hM : Try.prog.follows .mixedOrders = true := by kernel_rfl
  have s0 := St.begin H0
  refine acalls_st Try.func8 rfl Try.ntmps8 rfl ?_
  refine awp_seq ?_
  refine awp_regs hF ?_
  refine x_new (fun b => .pointer (some ⟨b, 0, none⟩)) s0 (gyes_none rfl) (q_box (v := vN) (vs := [vN]) 1 rfl (Sl.lc (s0.sl hN)).1 (Sl.cells (s0.sl hN))) rfl (by decide) (cok1 trivial) (fun b1 H2 hb4 s3 => ?_)
  refine x_new (fun b => .pointer (some ⟨b, 0, none⟩)) s3 (gyes_none rfl) (q_box (v := .int .i64 ((nb : Nat) : Int)) (vs := [.int .i64 ((nb : Nat) : Int)]) 1 rfl (by exact trivial) rfl) rfl (by decide) (cok1 trivial) (fun b5 H6 hb8 s7 => ?_)
  refine dv (gyes_none rfl) (q_as (v := .slice none 0 0) rfl) rfl (by decide) (cok1 (cconst rfl)) ?_
  refine ⟨_, Wk.refl _ _, ?_⟩
  show awp _ _ _ _ _ _ _
  refine awp_seq ?_
  refine awp_seq ?_
  refine awp_regs hF ?_
  refine dv (gyes_none rfl) (q_load (v := .int .i64 ((nb : Nat) : Int)) Try.isAgg3 rfl (s7.rd (j := 0) rfl) rfl) rfl (by decide) (cok1 trivial) ?_
  refine dv (gyes_none rfl) (OpQ.cast (v' := .bool false) (q_int rfl rfl rfl) (congrArg Value.bool (decide_eq_false (by omega)))) rfl (by decide) (cok2 trivial (cconst rfl)) ?_
  refine dv (gyes_none rfl) (q_mv (v := .bool false) rfl) rfl (by decide) (cok1 trivial) ?_
  refine dv (gyes_some rfl rfl) (q_load (v := .int .i64 ((nb : Nat) : Int)) Try.isAgg3 rfl (s7.rd (j := 0) rfl) rfl) rfl (by decide) (cok1 trivial) ?_
  refine dv (gyes_some rfl rfl) (OpQ.cast (v' := .bool false) (q_int rfl rfl rfl) (congrArg Value.bool (decide_eq_false (by omega)))) rfl (by decide) (cok2 trivial (cconst rfl)) ?_
  refine dv (gyes_none rfl) (q_pf (v := .bool false) rfl rfl) rfl (by decide) (call_ok rfl) ?_
  refine ⟨_, Wk.refl _ _, ?_⟩
  show awp _ _ _ _ _ _ _
  refine awp_cond_f rfl ?_
  refine awp_skip_wk ?_
  refine ⟨_, Wk.refl _ _, ?_⟩
  show awp _ _ _ _ _ _ _
  refine awp_seq ?_
  refine awp_regs hF ?_
  refine dv (gyes_none rfl) (q_as (v := .slice none 0 0) rfl) rfl (by decide) (cok1 (cconst rfl)) ?_
  refine ⟨_, Wk.refl _ _, ?_⟩
  show awp _ _ _ _ _ _ _
  refine awp_seq ?_
  refine awp_seq ?_
  refine awp_regs hF ?_
  refine dv (gyes_none rfl) (q_load (v := vN) Try.isAgg23 rfl (s7.rd (j := 1) rfl) rfl) rfl (by decide) (cok1 trivial) ?_
  refine dv (gyes_none rfl) (q_len_sl (l := names) Try.underlying23 (s7.sl hN) rfl) rfl (by decide) (cok1 trivial) ?_
  refine dv (gyes_none rfl) (q_mv (v := .int .i64 0) rfl) rfl (by decide) (cok1 (cconst rfl)) ?_
  refine ⟨_, Wk.refl _ _, ?_⟩
  show awp _ _ _ _ _ _ _
  refine awp_block ?_
  refine awp_nil s7 5 1 rfl (fun b9 H10 hb12 s11 => ?_)
  refine awp_wk (Wk.U [(2, .pointer (some ⟨b1, 0, none⟩)), (3, .pointer (some ⟨b5, 0, none⟩)), (5, .slice (some ⟨b9, 0, none⟩) 0 0), (13, vN), (14, .int .i64 ((names.length : Nat) : Int)), (15, .int .i64 0)] ⟨rfl, rfl, rfl, rfl, rfl, rfl, trivial⟩) ?_
  refine awp_loop (fun (i : Nat) st => ∃ (H13 : AHeap) (bo : Nat), st = ⟨27, U [(2, .pointer (some ⟨b1, 0, none⟩)), (3, .pointer (some ⟨b5, 0, none⟩)), (5, .slice (some ⟨bo, 0, none⟩) i i), (13, vN), (14, .int .i64 ((names.length : Nat) : Int)), (15, .int .i64 ((i : Nat) : Int))], [], H13⟩ ∧ St H0 (none0) (Rd H0) H13 [(bo, .cells true ((List.range i).map i64v) 1), (b5, .cells true [.int .i64 ((nb : Nat) : Int)] 1), (b1, .cells true [vN] 1)] ∧ (i ≤ names.length)) (fun (i : Nat) => names.length - i) (x0 := (0)) ?h0 ?round
  case h0 =>
    exact ⟨_, _, rfl, s11, Nat.zero_le _⟩
  case round =>
    rintro i _ ⟨H13, bo, rfl, s14, hi⟩
    refine awp_seq ?_
    refine awp_regs hF ?_
    refine dvb (gyes_none rfl) (q_int rfl rfl rfl) rfl (by decide) (cok2 trivial trivial) (fun c1 => ?_) (fun c1 => ?_)
    ·
      replace c1 := of_decide_eq_true c1
      refine ⟨_, Wk.refl _ _, ?_⟩
      show awp _ _ _ _ _ _ _
      refine awp_seq ?_
      refine awp_cond_t rfl ?_
      refine awp_skip_wk ?_
      refine ⟨_, Wk.refl _ _, ?_⟩
      show awp _ _ _ _ _ _ _
      refine awp_seq ?_
      refine awp_block ?_
      refine awp_seq ?_
      refine awp_regs hF ?_
      refine dv (gyes_none rfl) (q_mv (v := .int .i64 ((i : Nat) : Int)) rfl) rfl (by decide) (cok1 trivial) ?_
      refine dv (gyes_none rfl) (q_as (v := .int .i64 ((i : Nat) : Int)) rfl) rfl (by decide) (cok1 trivial) ?_
      refine ⟨_, Wk.refl _ _, ?_⟩
      show awp _ _ _ _ _ _ _
      refine awp_regs hF ?_
      refine dv (gyes_none rfl) (q_mv (v := .slice (some ⟨bo, 0, none⟩) i i) rfl) rfl (by decide) (cok1 trivial) ?_
      refine dv (gyes_none rfl) (q_mv (v := .int .i64 ((i : Nat) : Int)) rfl) rfl (by decide) (cok1 trivial) ?_
      refine x_new (fun b => .slice (some ⟨b, 0, none⟩) 1 1) s14 (gyes_none rfl) (q_buildSliceL (ds := [.int .i64 ((i : Nat) : Int)]) [.int .i64 ((i : Nat) : Int)] rfl Try.underlying25 Try.sizeOf3 Try.zeroValue3 rfl (by decide) (by decide) ⟨rfl, trivial⟩ (lvsC (by exact trivial) lvs0) rfl rfl) rfl (by decide) (cok1 trivial) (fun b15 H16 hb18 s17 => ?_)
      refine x_append (l := [i]) (f := i64v) [] hF s17 (by kernel_rfl) (j := 1) (i + 1) rfl (gyes_none rfl) Try.underlying25 Try.underlying25 Try.type3 rfl rfl (by decide) rfl rfl rfl rfl (s17.slj (l := [i]) (f := i64v) (j := 0) rfl rfl (Nat.le_refl _)) (fun x => lc_scalar rfl) (by simp) (by show (2 * (i + 1) + 1000) * 8 ≤ _; omega) trivial trivial (by decide) rfl rfl (vs' := (List.range (i + 1)).map i64v) (by simp [List.range_succ]) (fun b19 H20 hb22 s21 => ⟨?_, ?_⟩)
      · exact trivial
      refine dv (gyes_none rfl) (q_as (v := .slice (some ⟨b19, 0, none⟩) (i + 1) (i + 1)) rfl) rfl (by decide) (cok1 trivial) ?_
      refine ⟨_, Wk.refl _ _, ?_⟩
      show awp _ _ _ _ _ _ _
      refine awp_regs hF ?_
      refine dv (gyes_none rfl) (OpQ.cast (v' := .int .i64 ((i + 1 : Nat) : Int)) (q_int rfl rfl rfl) (congrArg _ ((i64_in (by omega)).trans (by first | rfl | omega | (push_cast; rfl))))) rfl (by decide) (cok2 trivial (cconst rfl)) ?_
      refine dv (gyes_none rfl) (q_mv (v := .int .i64 ((i + 1 : Nat) : Int)) rfl) rfl (by decide) (cok1 trivial) ?_
      refine ⟨_, Wk.U [(2, .pointer (some ⟨b1, 0, none⟩)), (3, .pointer (some ⟨b5, 0, none⟩)), (5, .slice (some ⟨b19, 0, none⟩) (i + 1) (i + 1)), (13, vN), (14, .int .i64 ((names.length : Nat) : Int)), (15, .int .i64 (((i + 1) : Nat) : Int))] ⟨rfl, rfl, rfl, rfl, rfl, rfl, trivial⟩, (i + 1), ⟨_, _, rfl, (s21.sub (.cons _ (.cons_cons _ (.cons_cons _ (.cons_cons _ (.refl _)))))), (by omega)⟩, (by omega)⟩
    ·
      replace c1 := of_decide_eq_false c1
      refine ⟨_, Wk.refl _ _, ?_⟩
      show awp _ _ _ _ _ _ _
      refine awp_seq ?_
      refine awp_cond_f rfl ?_
      refine awp_exit_wk ?_
      refine ⟨_, Wk.refl _ _, ?_⟩
      show awp _ _ _ _ _ _ _
      refine awp_seq ?_
      have hie : i = names.length := by omega
      refine awp_regs hF ?_
      refine dv (gyes_none rfl) (q_mv (v := .slice (some ⟨bo, 0, none⟩) i i) rfl) rfl (by decide) (cok1 trivial) ?_
      refine dv (gyes_none rfl) (q_makeFuncL [.pointer (some ⟨b1, 0, none⟩), .pointer (some ⟨b5, 0, none⟩)] ⟨rfl, rfl, trivial⟩) rfl (by decide) (cok2 trivial trivial) ?_
      refine x_call [] hF (by kernel_rfl) (gyes_none rfl) Try.call22 rfl (args := [.slice (some ⟨bo, 0, none⟩) i i, .func (.func 23) #[] #[.pointer (some ⟨b1, 0, none⟩), .pointer (some ⟨b5, 0, none⟩)]]) rfl (sortstable_ok i bo b1 b5 nb vN names ⟨⟨(s14.rd (j := 2) rfl), (nin1 (s14.nej (i := 2) (j := 0) rfl rfl (by decide)))⟩, ⟨(s14.rd (j := 1) rfl), (nin1 (s14.nej (i := 1) (j := 0) rfl rfl (by decide)))⟩, s14.offz (ks := [bo]) (by simp) hN, hsz, h1, h2⟩ (List.range i) (by simp) (by omega) (s14.getj (j := 0) rfl) (fun x hx => by have := List.mem_range.1 hx; omega) (by omega) (fun p hp => nth_range hp)) (show _ < _ by decide) (call_ok rfl) rfl rfl (fun _ _ _ _ hd => by cases hd) ?_
      rintro _ H23 ⟨rfl, hk24, l25, hsw26, hso27, h28⟩
      have s29 := s14.turn1 (j := 0) rfl hk24 h28
      refine ⟨trivial, ?_⟩
      show dList _ _ _ _ _ _ _ _ _ _
      refine ⟨_, Wk.refl _ _, ?_⟩
      show awp _ _ _ _ _ _ _
      refine awp_seq ?_
      refine awp_regs hF ?_
      refine dv (gyes_none rfl) (q_mv (v := .slice (some ⟨bo, 0, none⟩) i i) rfl) rfl (by decide) (cok1 trivial) ?_
      refine dv (gyes_none rfl) (q_as (v := .slice (some ⟨bo, 0, none⟩) i i) rfl) rfl (by decide) (cok1 trivial) ?_
      refine ⟨_, Wk.refl _ _, ?_⟩
      show awp _ _ _ _ _ _ _
      refine awp_ret_wk ?_
      refine ⟨_, Wk.refl _ _, ?_⟩
      repeat (with_reducible first | refine then_ret ?_ | refine blk_ret ?_ | refine then_exit ?_ | refine blk_exit ?_ | refine blk_exit' (by decide) ?_ | refine blk_normal ?_ | refine then_normal ?_ | refine retq_ret ?_ | refine retq_normal ?_ | refine ng_normal ?_ | refine ng_ret ?_ | refine ng_exit ?_)
      refine ret_is (v := .slice (some ⟨bo, 0, none⟩) i i) rfl (.tmp rfl .nil) rfl ?_
      exact ⟨_, _, s29.kp, s29.out (j := 0) rfl, by rw [hie], ⟨by rw [← hie]; exact hsw26.perm, by rw [← hie]; exact hso27⟩, s29.getj (j := 0) rfl⟩
set_option maxRecDepth 100000 in
set_option maxHeartbeats 4000000 in
theorem isNaNi_ok {H0 : AHeap} (x : Nat) : ACalls Try.prog 57 [.int .i64 ((x : Nat) : Int)] H0 (Rets (.bool false) H0) := by
  have hF : Wd Fence.wide := .inl rfl
  have hM : Try.prog.follows .mixedOrders = true := by kernel_rfl
  have s0 := St.begin H0
  refine acalls_st Try.func57 rfl Try.ntmps57 rfl ?_
  refine awp_seq ?_
  refine awp_regs hF ?_
  refine dv (gyes_none rfl) (q_as (v := .bool false) rfl) rfl (by decide) (cok1 (cconst rfl)) ?_
  refine ⟨_, Wk.refl _ _, ?_⟩
  show awp _ _ _ _ _ _ _
  refine awp_seq ?_
  refine awp_regs hF ?_
  refine dv (gyes_none rfl) (q_mv (v := .int .i64 ((x : Nat) : Int)) rfl) rfl (by decide) (cok1 trivial) ?_
  refine dv (gyes_none rfl) (q_mv (v := .int .i64 ((x : Nat) : Int)) rfl) rfl (by decide) (cok1 trivial) ?_
  refine dv (gyes_none rfl) (OpQ.cast (v' := .bool false) (q_int rfl rfl rfl) (congrArg Value.bool (bne_self_eq_false _))) rfl (by decide) (cok2 trivial trivial) ?_
  refine dv (gyes_none rfl) (q_as (v := .bool false) rfl) rfl (by decide) (cok1 trivial) ?_
  refine ⟨_, Wk.refl _ _, ?_⟩
  show awp _ _ _ _ _ _ _
  refine awp_ret_wk ?_
  refine ⟨_, Wk.refl _ _, ?_⟩
  repeat (with_reducible first | refine then_ret ?_ | refine blk_ret ?_ | refine then_exit ?_ | refine blk_exit ?_ | refine blk_exit' (by decide) ?_ | refine blk_normal ?_ | refine then_normal ?_ | refine retq_ret ?_ | refine retq_normal ?_ | refine ng_normal ?_ | refine ng_ret ?_ | refine ng_exit ?_)
  exact ret_none (v := .bool false) rfl s0.kp (.tmp rfl .nil) rfl rfl ⟨rfl, rfl⟩
set_option maxRecDepth 100000 in
set_option maxHeartbeats 4000000 in
theorem less_ok {H0 : AHeap} (x y : Nat) : ACalls Try.prog 53 [.int .i64 ((x : Nat) : Int), .int .i64 ((y : Nat) : Int)] H0 (Rets (.bool (decide (((x : Nat) : Int) < ((y : Nat) : Int)))) H0) := by
  have hF : Wd Fence.wide := .inl rfl
  have hM : Try.prog.follows .mixedOrders = true := by kernel_rfl
  have s0 := St.begin H0
  refine acalls_st Try.func53 rfl Try.ntmps53 rfl ?_
  refine awp_seq ?_
  refine awp_regs hF ?_
  refine dv (gyes_none rfl) (q_as (v := .bool false) rfl) rfl (by decide) (cok1 (cconst rfl)) ?_
  refine ⟨_, Wk.refl _ _, ?_⟩
  show awp _ _ _ _ _ _ _
  refine awp_seq ?_
  refine awp_regs hF ?_
  refine dv (gyes_none rfl) (q_mv (v := .int .i64 ((x : Nat) : Int)) rfl) rfl (by decide) (cok1 trivial) ?_
  refine dv (gyes_none rfl) (q_call0 Try.call57 rfl (isNaNi_ok x)) rfl (by decide) (cok2 trivial trivial) ?_
  refine dv (gyes_none rfl) (q_mv (v := .bool false) rfl) rfl (by decide) (cok1 trivial) ?_
  refine dno rfl (.inl rfl) rfl (by decide) ?_
  refine dno rfl (.inl rfl) rfl (by decide) ?_
  refine dno rfl (.inl rfl) rfl (by decide) ?_
  refine dv (gyes_none rfl) (q_pf (v := .bool false) rfl rfl) rfl (by decide) (call_ok rfl) ?_
  refine dv (gyes_none rfl) (q_mv (v := .bool false) rfl) rfl (by decide) (cok1 trivial) ?_
  refine dv (gyes_some rfl rfl) (q_mv (v := .int .i64 ((x : Nat) : Int)) rfl) rfl (by decide) (cok1 trivial) ?_
  refine dv (gyes_some rfl rfl) (q_mv (v := .int .i64 ((y : Nat) : Int)) rfl) rfl (by decide) (cok1 trivial) ?_
  refine dv (gyes_some rfl rfl) (q_int rfl rfl rfl) rfl (by decide) (cok2 trivial trivial) ?_
  refine dv (gyes_none rfl) (q_pf (v := .bool (decide ((((x : Nat) : Int) : Int) < ((y : Nat) : Int)))) rfl rfl) rfl (by decide) (call_ok rfl) ?_
  refine dv (gyes_none rfl) (q_as (v := .bool (decide ((((x : Nat) : Int) : Int) < ((y : Nat) : Int)))) rfl) rfl (by decide) (cok1 trivial) ?_
  refine ⟨_, Wk.refl _ _, ?_⟩
  show awp _ _ _ _ _ _ _
  refine awp_ret_wk ?_
  refine ⟨_, Wk.refl _ _, ?_⟩
  repeat (with_reducible first | refine then_ret ?_ | refine blk_ret ?_ | refine then_exit ?_ | refine blk_exit ?_ | refine blk_exit' (by decide) ?_ | refine blk_normal ?_ | refine then_normal ?_ | refine retq_ret ?_ | refine retq_normal ?_ | refine ng_normal ?_ | refine ng_ret ?_ | refine ng_exit ?_)
  exact ret_none (v := .bool (decide ((((x : Nat) : Int) : Int) < ((y : Nat) : Int)))) rfl s0.kp (.tmp rfl .nil) rfl rfl ⟨by first | rfl | (congr 1; symm; first | exact decide_eq_true (by omega) | exact decide_eq_false (by omega)), rfl⟩
set_option maxRecDepth 100000 in
set_option maxHeartbeats 4000000 in
theorem issorted_ok {H0 : AHeap} (v : Value) (l : List Nat) (hl : Sl i64v H0 v l) (hn : l.length ≤ 1000) : ACalls Try.prog 42 [v] H0 (Rets (.bool (sortedB l)) H0) := by
  have hF : Wd Fence.wide := .inl rfl
  have hM : Try.prog.follows .mixedOrders = true := by kernel_rfl
  have s0 := St.begin H0
  refine acalls_st Try.func42 rfl Try.ntmps42 rfl ?_
  refine awp_seq ?_
  refine awp_regs hF ?_
  refine dv (gyes_none rfl) (q_as (v := .bool false) rfl) rfl (by decide) (cok1 (cconst rfl)) ?_
  refine ⟨_, Wk.refl _ _, ?_⟩
  show awp _ _ _ _ _ _ _
  refine awp_seq ?_
  refine awp_seq ?_
  refine awp_regs hF ?_
  refine dv (gyes_none rfl) (q_mv (v := v) rfl) rfl (by decide) (cok1 trivial) ?_
  refine dv (gyes_none rfl) (q_len_sl (l := l) Try.underlying25 (s0.sl hl) rfl) rfl (by decide) (cok1 trivial) ?_
  refine dv (gyes_none rfl) (OpQ.cast (v' := .int .i64 (((l.length : Nat) : Int) - 1)) (q_int rfl rfl rfl) (congrArg _ (i64_in (by omega)))) rfl (by decide) (cok2 trivial (cconst rfl)) ?_
  refine dv (gyes_none rfl) (q_as (v := .int .i64 (((l.length : Nat) : Int) - 1)) rfl) rfl (by decide) (cok1 trivial) ?_
  refine ⟨_, Wk.refl _ _, ?_⟩
  show awp _ _ _ _ _ _ _
  refine awp_block ?_
  refine awp_wk (Wk.U [(0, v), (3, .int .i64 (((l.length : Nat) : Int) - 1))] ⟨rfl, rfl, trivial⟩) ?_
  refine awp_loop (fun (i : Int) st => ∃ (H1 : AHeap), st = ⟨21, U [(0, v), (3, .int .i64 i)], [], H1⟩ ∧ St H0 (none0) (Rd H0) H1 [] ∧ (-1 ≤ i ∧ i < l.length ∧ ∀ q, i ≤ (q : Nat) → q + 1 < l.length → nth l q ≤ nth l (q + 1))) (fun (i : Int) => (i + 1).toNat) (x0 := ((((l.length : Nat) : Int) - 1))) ?h0 ?round
  case h0 =>
    exact ⟨_, rfl, s0, ⟨by omega, by omega, fun q h1 h2 => by omega⟩⟩
  case round =>
    rintro i _ ⟨H1, rfl, s2, hi⟩
    refine awp_seq ?_
    refine awp_seq ?_
    refine awp_regs hF ?_
    refine dv (gyes_none rfl) (q_mv (v := .int .i64 i) rfl) rfl (by decide) (cok1 trivial) ?_
    refine dvb (gyes_none rfl) (q_int rfl rfl rfl) rfl (by decide) (cok2 trivial (cconst rfl)) (fun c1 => ?_) (fun c1 => ?_)
    ·
      replace c1 := of_decide_eq_true c1
      refine ⟨_, Wk.refl _ _, ?_⟩
      show awp _ _ _ _ _ _ _
      refine awp_cond_t rfl ?_
      refine awp_skip_wk ?_
      refine ⟨_, Wk.refl _ _, ?_⟩
      show awp _ _ _ _ _ _ _
      refine awp_seq ?_
      refine awp_block ?_
      refine awp_seq ?_
      refine awp_regt hF hM (by kernel_rfl) (by kernel_rfl) ?_
      refine dv (gyes_none rfl) (q_mv (v := v) rfl) rfl (by decide) (cok1 trivial) ?_
      refine dv (gyes_none rfl) (q_mv (v := .int .i64 i) rfl) rfl (by decide) (cok1 trivial) ?_
      refine dv (gyes_none rfl) (q_index_slI (l := l) (z := i) Try.underlying25 Try.sizeOf3 (s2.sl hl) rfl rfl (by omega) (by omega)) rfl (by decide) (cok2 trivial trivial) ?_
      refine dv (gyes_none rfl) (q_load_sl (l := l) (i := i.toNat) Try.isAgg3 (s2.sl hl) rfl (by omega)) rfl (by decide) (cok1 trivial) ?_
      refine dv (gyes_none rfl) (q_mv (v := v) rfl) rfl (by decide) (cok1 trivial) ?_
      refine dv (gyes_none rfl) (q_mv (v := .int .i64 i) rfl) rfl (by decide) (cok1 trivial) ?_
      refine dv (gyes_none rfl) (OpQ.cast (v' := .int .i64 (i - 1)) (q_int rfl rfl rfl) (congrArg _ (i64_in (by omega)))) rfl (by decide) (cok2 trivial (cconst rfl)) ?_
      refine dv (gyes_none rfl) (q_index_slI (l := l) (z := (i - 1)) Try.underlying25 Try.sizeOf3 (s2.sl hl) rfl rfl (by omega) (by omega)) rfl (by decide) (cok2 trivial trivial) ?_
      refine dv (gyes_none rfl) (q_load_sl (l := l) (i := (((i - 1)).toNat)) Try.isAgg3 (s2.sl hl) rfl (by omega)) rfl (by decide) (cok1 trivial) ?_
      refine dvb (gyes_none rfl) (q_call0 Try.call53 rfl (less_ok (nth l i.toNat) (nth l (((i - 1)).toNat)))) rfl (by decide) (call_ok rfl) (fun c2 => ?_) (fun c2 => ?_)
      ·
        replace c2 := of_decide_eq_true c2
        refine ⟨_, Wk.refl _ _, ?_⟩
        show awp _ _ _ _ _ _ _
        refine awp_cond_t rfl ?_
        refine awp_seq ?_
        refine awp_regs hF ?_
        refine dv (gyes_none rfl) (q_as (v := .bool false) rfl) rfl (by decide) (cok1 (cconst rfl)) ?_
        refine ⟨_, Wk.refl _ _, ?_⟩
        show awp _ _ _ _ _ _ _
        refine awp_ret_wk ?_
        refine ⟨_, Wk.refl _ _, ?_⟩
        repeat (with_reducible first | refine then_ret ?_ | refine blk_ret ?_ | refine then_exit ?_ | refine blk_exit ?_ | refine blk_exit' (by decide) ?_ | refine blk_normal ?_ | refine then_normal ?_ | refine retq_ret ?_ | refine retq_normal ?_ | refine ng_normal ?_ | refine ng_ret ?_ | refine ng_exit ?_)
        exact ret_none (v := .bool false) rfl s2.kp (.tmp rfl .nil) rfl rfl ⟨congrArg _ (sortedB_f (q := (i - 1).toNat) (by omega) (by rw [show (i - 1).toNat + 1 = i.toNat by omega]; omega)).symm, rfl⟩
      ·
        replace c2 := of_decide_eq_false c2
        have hle := c2
        refine ⟨_, Wk.refl _ _, ?_⟩
        show awp _ _ _ _ _ _ _
        refine awp_cond_f rfl ?_
        refine awp_skip_wk ?_
        refine ⟨_, Wk.refl _ _, ?_⟩
        show awp _ _ _ _ _ _ _
        refine awp_regs hF ?_
        refine dv (gyes_none rfl) (q_mv (v := .int .i64 i) rfl) rfl (by decide) (cok1 trivial) ?_
        refine dv (gyes_none rfl) (OpQ.cast (v' := .int .i64 (i - 1)) (q_int rfl rfl rfl) (congrArg _ (i64_in (by omega)))) rfl (by decide) (cok2 trivial (cconst rfl)) ?_
        refine dv (gyes_none rfl) (q_as (v := .int .i64 (i - 1)) rfl) rfl (by decide) (cok1 trivial) ?_
        refine ⟨_, Wk.U [(0, v), (3, .int .i64 (i - 1))] ⟨rfl, rfl, trivial⟩, (i - 1), ⟨_, rfl, s2, ⟨by omega, by omega, fun q h1 h2 => by
              by_cases e : i ≤ (q : Nat)
              · exact hi.2.2 q e h2
              · have e2 : (i - 1).toNat = q := by omega
                have e3 : i.toNat = q + 1 := by omega
                rw [e2, e3] at hle
                omega⟩⟩, (by omega)⟩
    ·
      replace c1 := of_decide_eq_false c1
      refine ⟨_, Wk.refl _ _, ?_⟩
      show awp _ _ _ _ _ _ _
      refine awp_cond_f rfl ?_
      refine awp_exit_wk ?_
      refine ⟨_, Wk.refl _ _, ?_⟩
      show awp _ _ _ _ _ _ _
      refine awp_seq ?_
      refine awp_regs hF ?_
      refine dv (gyes_none rfl) (q_as (v := .bool true) rfl) rfl (by decide) (cok1 (cconst rfl)) ?_
      refine ⟨_, Wk.refl _ _, ?_⟩
      show awp _ _ _ _ _ _ _
      refine awp_ret_wk ?_
      refine ⟨_, Wk.refl _ _, ?_⟩
      repeat (with_reducible first | refine then_ret ?_ | refine blk_ret ?_ | refine then_exit ?_ | refine blk_exit ?_ | refine blk_exit' (by decide) ?_ | refine blk_normal ?_ | refine then_normal ?_ | refine retq_ret ?_ | refine retq_normal ?_ | refine ng_normal ?_ | refine ng_ret ?_ | refine ng_exit ?_)
      exact ret_none (v := .bool true) rfl s2.kp (.tmp rfl .nil) rfl rfl ⟨congrArg _ (sortedB_t fun q hq => hi.2.2 q (by omega) hq).symm, rfl⟩
set_option maxRecDepth 100000 in
set_option maxHeartbeats 4000000 in
theorem within_ok {H0 : AHeap} (n a b : Int) : ACalls Try.prog 41 [.int .i64 n, .int .i64 a, .int .i64 b] H0 (Rets (.bool (decide (a ≤ n ∧ n ≤ b))) H0) := by
  have hF : Wd Fence.wide := .inl rfl
  have hM : Try.prog.follows .mixedOrders = true := by kernel_rfl
  have s0 := St.begin H0
  refine acalls_st Try.func41 rfl Try.ntmps41 rfl ?_
  refine awp_seq ?_
  refine awp_regs hF ?_
  refine dv (gyes_none rfl) (q_as (v := .bool false) rfl) rfl (by decide) (cok1 (cconst rfl)) ?_
  refine ⟨_, Wk.refl _ _, ?_⟩
  show awp _ _ _ _ _ _ _
  refine awp_seq ?_
  refine awp_regs hF ?_
  refine dv (gyes_none rfl) (q_mv (v := .int .i64 n) rfl) rfl (by decide) (cok1 trivial) ?_
  refine dv (gyes_none rfl) (q_mv (v := .int .i64 a) rfl) rfl (by decide) (cok1 trivial) ?_
  refine dvb (gyes_none rfl) (q_int rfl rfl rfl) rfl (by decide) (cok2 trivial trivial) (fun c1 => ?_) (fun c1 => ?_)
  ·
    replace c1 := of_decide_eq_true c1
    refine dv (gyes_none rfl) (q_mv (v := .bool true) rfl) rfl (by decide) (cok1 trivial) ?_
    refine dv (gyes_some rfl rfl) (q_mv (v := .int .i64 n) rfl) rfl (by decide) (cok1 trivial) ?_
    refine dv (gyes_some rfl rfl) (q_mv (v := .int .i64 b) rfl) rfl (by decide) (cok1 trivial) ?_
    refine dv (gyes_some rfl rfl) (q_int rfl rfl rfl) rfl (by decide) (cok2 trivial trivial) ?_
    refine dv (gyes_none rfl) (q_pt (v := .bool (decide ((n : Int) ≤ b))) rfl rfl) rfl (by decide) (call_ok rfl) ?_
    refine dv (gyes_none rfl) (q_as (v := .bool (decide ((n : Int) ≤ b))) rfl) rfl (by decide) (cok1 trivial) ?_
    refine ⟨_, Wk.refl _ _, ?_⟩
    show awp _ _ _ _ _ _ _
    refine awp_ret_wk ?_
    refine ⟨_, Wk.refl _ _, ?_⟩
    repeat (with_reducible first | refine then_ret ?_ | refine blk_ret ?_ | refine then_exit ?_ | refine blk_exit ?_ | refine blk_exit' (by decide) ?_ | refine blk_normal ?_ | refine then_normal ?_ | refine retq_ret ?_ | refine retq_normal ?_ | refine ng_normal ?_ | refine ng_ret ?_ | refine ng_exit ?_)
    exact ret_none (v := .bool (decide ((n : Int) ≤ b))) rfl s0.kp (.tmp rfl .nil) rfl rfl ⟨congrArg _ (by first | exact (decide_eq_false (by omega)).symm | exact (decide_eq_true (by omega)).symm | (rw [Bool.eq_iff_iff, decide_eq_true_iff, decide_eq_true_iff]; omega)), rfl⟩
  ·
    replace c1 := of_decide_eq_false c1
    refine dv (gyes_none rfl) (q_mv (v := .bool false) rfl) rfl (by decide) (cok1 trivial) ?_
    refine dno rfl (.inl rfl) rfl (by decide) ?_
    refine dno rfl (.inl rfl) rfl (by decide) ?_
    refine dno rfl (.inl rfl) rfl (by decide) ?_
    refine dv (gyes_none rfl) (q_pf (v := .bool false) rfl rfl) rfl (by decide) (call_ok rfl) ?_
    refine dv (gyes_none rfl) (q_as (v := .bool false) rfl) rfl (by decide) (cok1 trivial) ?_
    refine ⟨_, Wk.refl _ _, ?_⟩
    show awp _ _ _ _ _ _ _
    refine awp_ret_wk ?_
    refine ⟨_, Wk.refl _ _, ?_⟩
    repeat (with_reducible first | refine then_ret ?_ | refine blk_ret ?_ | refine then_exit ?_ | refine blk_exit ?_ | refine blk_exit' (by decide) ?_ | refine blk_normal ?_ | refine then_normal ?_ | refine retq_ret ?_ | refine retq_normal ?_ | refine ng_normal ?_ | refine ng_ret ?_ | refine ng_exit ?_)
    exact ret_none (v := .bool false) rfl s0.kp (.tmp rfl .nil) rfl rfl ⟨congrArg _ (by first | exact (decide_eq_false (by omega)).symm | exact (decide_eq_true (by omega)).symm | (rw [Bool.eq_iff_iff, decide_eq_true_iff, decide_eq_true_iff]; omega)), rfl⟩
theorem ACalls.castV {P : Program} {f : FuncId} {a : List Value} {H : AHeap} {H' : AHeap} {v v' : Value} (h : ACalls P f a H (Rets v H')) (e : v = v') : ACalls P f a H (Rets v' H') := e ▸ h
set_option maxRecDepth 100000 in
set_option maxHeartbeats 4000000 in
theorem right_good {H0 : AHeap} (vN : Value) (names : List ByteArray) (hN : Sl strv H0 vN names) (hsz : ∀ x ∈ names, x.size ≤ 140737488355328) (hn40 : names.length ≤ 40) (f nb nw sh : Nat) (h : 1 ≤ nb ∧ nb ≤ 256 ∧ 1 ≤ nw ∧ nw ≤ 256 ∧ f + names.length ≤ 256 ∧ sh ≤ 63 ∧ ¬ (f = 0 ∧ 0 < names.length)) : ACalls Try.prog 25 [vN, .int .i64 ((f : Nat) : Int), .int .i64 ((nb : Nat) : Int), .int .i64 ((nw : Nat) : Int), .int .i64 ((sh : Nat) : Int)] H0 (Rets (.bool (sortedK names nb)) H0) := by
  have hF : Wd Fence.wide := .inl rfl
  have hM : Try.prog.follows .mixedOrders = true := by kernel_rfl
  have s0 := St.begin H0
  refine acalls_st Try.func25 rfl Try.ntmps25 rfl ?_
  refine awp_seq ?_
  refine awp_regs hF ?_
  refine dv (gyes_none rfl) (q_as (v := .bool false) rfl) rfl (by decide) (cok1 (cconst rfl)) ?_
  refine ⟨_, Wk.refl _ _, ?_⟩
  show awp _ _ _ _ _ _ _
  refine awp_seq ?_
  refine awp_regs hF ?_
  refine dv (gyes_none rfl) (q_mv (v := vN) rfl) rfl (by decide) (cok1 trivial) ?_
  refine dv (gyes_none rfl) (q_len_sl (l := names) Try.underlying23 (s0.sl hN) rfl) rfl (by decide) (cok1 trivial) ?_
  refine dv (gyes_none rfl) (q_as (v := .int .i64 ((names.length : Nat) : Int)) rfl) rfl (by decide) (cok1 trivial) ?_
  refine ⟨_, Wk.refl _ _, ?_⟩
  show awp _ _ _ _ _ _ _
  refine awp_seq ?_
  refine awp_seq ?_
  refine awp_regs hF ?_
  refine dv (gyes_none rfl) (q_mv (v := .int .i64 ((names.length : Nat) : Int)) rfl) rfl (by decide) (cok1 trivial) ?_
  refine dv (gyes_none rfl) (OpQ.cast (v' := .bool false) (q_int rfl rfl rfl) (congrArg Value.bool (decide_eq_false (by omega)))) rfl (by decide) (cok2 trivial (cconst rfl)) ?_
  refine dv (gyes_none rfl) (q_mv (v := .bool false) rfl) rfl (by decide) (cok1 trivial) ?_
  refine dv (gyes_some rfl rfl) (q_mv (v := .int .i64 ((nb : Nat) : Int)) rfl) rfl (by decide) (cok1 trivial) ?_
  refine dv (gyes_some rfl rfl) (q_call0 Try.call41 rfl (ACalls.castV (v' := .bool true) (within_ok ((nb : Nat) : Int) 1 256) (congrArg Value.bool (decide_eq_true (by omega))))) rfl (by decide) (call_ok rfl) ?_
  refine dv (gyes_some rfl rfl) (q_not (b := true) rfl) rfl (by decide) (cok1 trivial) ?_
  refine dv (gyes_none rfl) (q_pf (v := .bool false) rfl rfl) rfl (by decide) (call_ok rfl) ?_
  refine dv (gyes_none rfl) (q_mv (v := .bool false) rfl) rfl (by decide) (cok1 trivial) ?_
  refine dv (gyes_some rfl rfl) (q_mv (v := .int .i64 ((nw : Nat) : Int)) rfl) rfl (by decide) (cok1 trivial) ?_
  refine dv (gyes_some rfl rfl) (q_call0 Try.call41 rfl (ACalls.castV (v' := .bool true) (within_ok ((nw : Nat) : Int) 1 256) (congrArg Value.bool (decide_eq_true (by omega))))) rfl (by decide) (call_ok rfl) ?_
  refine dv (gyes_some rfl rfl) (q_not (b := true) rfl) rfl (by decide) (cok1 trivial) ?_
  refine dv (gyes_none rfl) (q_pf (v := .bool false) rfl rfl) rfl (by decide) (call_ok rfl) ?_
  refine dv (gyes_none rfl) (q_mv (v := .bool false) rfl) rfl (by decide) (cok1 trivial) ?_
  refine dv (gyes_some rfl rfl) (q_mv (v := .int .i64 ((f : Nat) : Int)) rfl) rfl (by decide) (cok1 trivial) ?_
  refine dv (gyes_some rfl rfl) (q_mv (v := .int .i64 ((names.length : Nat) : Int)) rfl) rfl (by decide) (cok1 trivial) ?_
  refine dv (gyes_some rfl rfl) (OpQ.cast (v' := .int .i64 ((256 - names.length : Nat) : Int)) (q_int rfl rfl rfl) (congrArg _ ((i64_in (by omega)).trans (by omega)))) rfl (by decide) (cok2 (cconst rfl) trivial) ?_
  refine dv (gyes_some rfl rfl) (q_call0 Try.call41 rfl (ACalls.castV (v' := .bool true) (within_ok ((f : Nat) : Int) 0 ((256 - names.length : Nat) : Int)) (congrArg Value.bool (decide_eq_true (by omega))))) rfl (by decide) (call_ok rfl) ?_
  refine dv (gyes_some rfl rfl) (q_not (b := true) rfl) rfl (by decide) (cok1 trivial) ?_
  refine dv (gyes_none rfl) (q_pf (v := .bool false) rfl rfl) rfl (by decide) (call_ok rfl) ?_
  refine dv (gyes_none rfl) (q_mv (v := .bool false) rfl) rfl (by decide) (cok1 trivial) ?_
  refine dv (gyes_some rfl rfl) (q_mv (v := .int .i64 ((sh : Nat) : Int)) rfl) rfl (by decide) (cok1 trivial) ?_
  refine dv (gyes_some rfl rfl) (q_call0 Try.call41 rfl (ACalls.castV (v' := .bool true) (within_ok ((sh : Nat) : Int) 0 63) (congrArg Value.bool (decide_eq_true (by omega))))) rfl (by decide) (call_ok rfl) ?_
  refine dv (gyes_some rfl rfl) (q_not (b := true) rfl) rfl (by decide) (cok1 trivial) ?_
  refine dv (gyes_none rfl) (q_pf (v := .bool false) rfl rfl) rfl (by decide) (call_ok rfl) ?_
  refine dv (gyes_none rfl) (q_mv (v := .bool false) rfl) rfl (by decide) (cok1 trivial) ?_
  refine dv (gyes_some rfl rfl) (q_mv (v := .int .i64 ((f : Nat) : Int)) rfl) rfl (by decide) (cok1 trivial) ?_
  refine dvb (gyes_some rfl rfl) (q_int rfl rfl rfl) rfl (by decide) (cok2 trivial (cconst rfl)) (fun c1 => ?_) (fun c1 => ?_)
  ·
    replace c1 := eq_of_beq c1
    refine dv (gyes_some rfl rfl) (q_mv (v := .bool true) rfl) rfl (by decide) (cok1 trivial) ?_
    refine dv (gyes_some rfl rfl) (q_mv (v := .int .i64 ((names.length : Nat) : Int)) rfl) rfl (by decide) (cok1 trivial) ?_
    refine dvb (gyes_some rfl rfl) (q_int rfl rfl rfl) rfl (by decide) (cok2 trivial (cconst rfl)) (fun c2 => ?_) (fun c2 => ?_)
    ·
      replace c2 := of_decide_eq_true c2
      exfalso; omega
    ·
      replace c2 := of_decide_eq_false c2
      refine dv (gyes_some rfl rfl) (q_pt (v := .bool false) rfl rfl) rfl (by decide) (call_ok rfl) ?_
      refine dv (gyes_none rfl) (q_pf (v := .bool false) rfl rfl) rfl (by decide) (call_ok rfl) ?_
      refine ⟨_, Wk.refl _ _, ?_⟩
      show awp _ _ _ _ _ _ _
      refine awp_cond_f rfl ?_
      refine awp_skip_wk ?_
      refine ⟨_, Wk.refl _ _, ?_⟩
      show awp _ _ _ _ _ _ _
      refine awp_seq ?_
      refine awp_regs hF ?_
      refine dv (gyes_none rfl) (q_mv (v := vN) rfl) rfl (by decide) (cok1 trivial) ?_
      refine dv (gyes_none rfl) (q_mv (v := .int .i64 ((nb : Nat) : Int)) rfl) rfl (by decide) (cok1 trivial) ?_
      refine x_call [] hF (by kernel_rfl) (gyes_none rfl) Try.call8 rfl (args := [vN, .int .i64 ((nb : Nat) : Int)]) rfl (order_ok vN names (s0.sl hN) hsz hn40 nb (by omega) (by omega)) (show _ < _ by decide) (call_ok rfl) rfl rfl (fun _ _ _ _ hd => by cases hd) ?_
      rintro _ H3 ⟨b1, l2, hk4, hb5, rfl, ho6, hg7⟩
      have s8 := s0.callN hk4 hb5 hg7
      refine ⟨trivial, ?_⟩
      show dList _ _ _ _ _ _ _ _ _ _
      refine dv (gyes_none rfl) (q_call0 Try.call42 rfl (ACalls.castV (v' := .bool (sortedK names nb)) (issorted_ok _ l2 (s8.slj (j := 0) rfl ho6.len (Nat.le_refl _)) (by rw [ho6.len]; omega)) (congrArg Value.bool ho6.sorted))) rfl (by decide) (cok2 trivial trivial) ?_
      refine dv (gyes_none rfl) (q_as (v := .bool (sortedK names nb)) rfl) rfl (by decide) (cok1 trivial) ?_
      refine ⟨_, Wk.refl _ _, ?_⟩
      show awp _ _ _ _ _ _ _
      refine awp_ret_wk ?_
      refine ⟨_, Wk.refl _ _, ?_⟩
      repeat (with_reducible first | refine then_ret ?_ | refine blk_ret ?_ | refine then_exit ?_ | refine blk_exit ?_ | refine blk_exit' (by decide) ?_ | refine blk_normal ?_ | refine then_normal ?_ | refine retq_ret ?_ | refine retq_normal ?_ | refine ng_normal ?_ | refine ng_ret ?_ | refine ng_exit ?_)
      exact ret_none (v := .bool (sortedK names nb)) rfl s8.kp (.tmp rfl .nil) rfl rfl ⟨rfl, rfl⟩
  ·
    replace c1 := ne_of_beq_false c1
    refine dv (gyes_some rfl rfl) (q_mv (v := .bool false) rfl) rfl (by decide) (cok1 trivial) ?_
    refine dno rfl (.inl rfl) rfl (by decide) ?_
    refine dno rfl (.inl rfl) rfl (by decide) ?_
    refine dv (gyes_some rfl rfl) (q_pf (v := .bool false) rfl rfl) rfl (by decide) (call_ok rfl) ?_
    refine dv (gyes_none rfl) (q_pf (v := .bool false) rfl rfl) rfl (by decide) (call_ok rfl) ?_
    refine ⟨_, Wk.refl _ _, ?_⟩
    show awp _ _ _ _ _ _ _
    refine awp_cond_f rfl ?_
    refine awp_skip_wk ?_
    refine ⟨_, Wk.refl _ _, ?_⟩
    show awp _ _ _ _ _ _ _
    refine awp_seq ?_
    refine awp_regs hF ?_
    refine dv (gyes_none rfl) (q_mv (v := vN) rfl) rfl (by decide) (cok1 trivial) ?_
    refine dv (gyes_none rfl) (q_mv (v := .int .i64 ((nb : Nat) : Int)) rfl) rfl (by decide) (cok1 trivial) ?_
    refine x_call [] hF (by kernel_rfl) (gyes_none rfl) Try.call8 rfl (args := [vN, .int .i64 ((nb : Nat) : Int)]) rfl (order_ok vN names (s0.sl hN) hsz hn40 nb (by omega) (by omega)) (show _ < _ by decide) (call_ok rfl) rfl rfl (fun _ _ _ _ hd => by cases hd) ?_
    rintro _ H11 ⟨b9, l10, hk12, hb13, rfl, ho14, hg15⟩
    have s16 := s0.callN hk12 hb13 hg15
    refine ⟨trivial, ?_⟩
    show dList _ _ _ _ _ _ _ _ _ _
    refine dv (gyes_none rfl) (q_call0 Try.call42 rfl (ACalls.castV (v' := .bool (sortedK names nb)) (issorted_ok _ l10 (s16.slj (j := 0) rfl ho14.len (Nat.le_refl _)) (by rw [ho14.len]; omega)) (congrArg Value.bool ho14.sorted))) rfl (by decide) (cok2 trivial trivial) ?_
    refine dv (gyes_none rfl) (q_as (v := .bool (sortedK names nb)) rfl) rfl (by decide) (cok1 trivial) ?_
    refine ⟨_, Wk.refl _ _, ?_⟩
    show awp _ _ _ _ _ _ _
    refine awp_ret_wk ?_
    refine ⟨_, Wk.refl _ _, ?_⟩
    repeat (with_reducible first | refine then_ret ?_ | refine blk_ret ?_ | refine then_exit ?_ | refine blk_exit ?_ | refine blk_exit' (by decide) ?_ | refine blk_normal ?_ | refine then_normal ?_ | refine retq_ret ?_ | refine retq_normal ?_ | refine ng_normal ?_ | refine ng_ret ?_ | refine ng_exit ?_)
    exact ret_none (v := .bool (sortedK names nb)) rfl s16.kp (.tmp rfl .nil) rfl rfl ⟨rfl, rfl⟩

end Go.Proofs.YtponfeigjmjbmaaA


/-
  Ends whose results hold what the caller had: nothing is changed, what is new is dropped.
-/
namespace Go.Proofs.YtponfeigjmjbmaaA
set_option linter.unusedVariables false
open Go Go.RowKit Go.Proofs
theorem Sl.vsub {α : Type} {f : α → Value} {H : AHeap} {v : Value} {l : List α} (h : Sl f H v l) : VSub (keep0 H.length) v v := by
  rcases h with ⟨rfl, _⟩ | ⟨b, o, c, vs, rfl, hR, _⟩
  · exact .scalar rfl
  · exact .slice (if_pos hR.lt)
theorem vsub_aggL {φ : Nat → Option Nat} {l : List Value} (h : LSub φ l l) : VSub φ (.agg l.toArray) (.agg l.toArray) := .agg rfl fun i hi => by
  have := h.at i
  simpa [Array.getD_eq_getD_getElem?, List.getD_eq_getElem?_getD] using this
section
variable {P : Program} {N0 H : AHeap} {nt : Nat} {T : Nat → Value} {fn : Func} {Q : Value → AHeap → Prop} {vs : List Value} {v : Value} {s : ASt}
theorem ret_noneV (hs : s = ⟨nt, T, [], H⟩) (k : K0 N0 H) (hr : ARes P s fn.results.toList vs) (hv : retv vs = v) (hn : VSub (keep0 N0.length) v v) (hQ : Q v N0) : Ret P N0 fn Q s := by
  subst hs hv
  exact ⟨.nil, .inr ⟨vs, _, _, N0, hr, gc_none k, hn, hQ⟩⟩
end
def keep2 (n b0 c0 : Nat) : Nat → Option Nat := fun b => if b < n then some b else if b = n then some b0 else if b = n + 1 then some c0 else none
end Go.Proofs.YtponfeigjmjbmaaA

