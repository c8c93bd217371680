/-
  Walks of functions of the given program, and what they compute.
-/
import Derived.Test.YtmoldjiooccppaaB5
import Derived.Test.YtmoldjiooccppaaV2
import Derived.Test.YtmoldjiooccppaaProg
import Derived.KernelRfl
namespace Go.Proofs.YtmoldjiooccppaaA
set_option linter.unusedVariables false
open Go Go.RowKit Go.Shelf Go.Proofs
/-- What the closure of SysvWalks does where its number is the next one. -/
theorem find2_ok {H0 : AHeap} (s : ByteArray) (hs : s.size ≤ 140737488355328) (B C : List Nat) (names : List ByteArray) (vB vC vN : Value) (hSB : Sl u32v H0 vB B) (hSC : Sl u32v H0 vC C) (hN : Sl strv H0 vN names) (hB1 : B.length < 4294967296) (hBv : ∀ x ∈ B, x < 4294967296) (hCv : ∀ x ∈ C, x < 4294967296) (hC1 : C.length ≤ 4294967296) :
    ACalls Try.prog 13 [.agg #[vB, vC], .string s, vN] H0 (Rets (.tuple #[.int .i64 (((findL (walkL B C s) names s).getD 0 : Nat) : Int), .bool (findL (walkL B C s) names s).isSome]) H0) := by
  have h := find_ok rfl s hs B C names vB vC vN hSB hSC hN hB1 hBv hCv hC1
  generalize findL (walkL B C s) names s = o at h ⊢
  cases o <;> exact h
theorem check2_ok {H0 : AHeap} (B C : List Nat) (names : List ByteArray) (vB vC vN : Value) (hB : Sl u32v H0 vB B) (hC : Sl u32v H0 vC C) (hN : Sl strv H0 vN names) (hNs : ∀ s ∈ names, s.size ≤ 140737488355328) (hB1 : B.length < 4294967296) (hBv : ∀ x ∈ B, x < 4294967296) (hCv : ∀ x ∈ C, x < 4294967296) (hC2 : C.length ≤ 4294967296) (hNl : names.length ≤ 1000000) (o : Option Nat) (ho : o = chkO B C names) :
    ACalls Try.prog 14 [.agg #[vB, vC], vN] H0 (Rets (.tuple #[.int .i64 ((o.getD 0 : Nat) : Int), .bool o.isNone]) H0) := by
  subst ho
  have h := check_ok B C names vB vC vN hB hC hN hNs hB1 hBv hCv hC2 hNl
  generalize chkO B C names = o at h ⊢
  cases o <;> exact h
theorem nth_mem {α : Type} [Inhabited α] {l : List α} {k : Nat} (h : k < l.length) : nth l k ∈ l := by rw [nth_eq h]; exact List.getElem_mem h
theorem hasName_iff {nm : List ByteArray} {s : ByteArray} {x : Nat} (hx : x < nm.length) : hasName nm s x ↔ nth nm x = s := by
  unfold hasName; rw [List.getElem?_eq_getElem hx, nth_eq hx]; simp
theorem hasName_out {nm : List ByteArray} {s : ByteArray} {x : Nat} (hx : ¬ x < nm.length) : ¬ hasName nm s x := has_out hx
def fskip (W : List Nat) (nm : List ByteArray) (s : ByteArray) (k : Nat) : Nat := ((W.drop k).find? fun x => decide (hasName nm s x)).getD 0
theorem fskip_end (W : List Nat) (nm : List ByteArray) (s : ByteArray) {k : Nat} (h : W.length ≤ k) : fskip W nm s k = 0 := by
  unfold fskip; rw [List.drop_eq_nil_iff.2 h]; rfl
theorem fskip_yes {W : List Nat} {nm : List ByteArray} {s : ByteArray} {k : Nat} (hk : k < W.length) (h : hasName nm s (nth W k)) : fskip W nm s k = nth W k := by
  unfold fskip
  rw [List.drop_eq_getElem_cons hk, List.find?_cons, ← nth_eq hk, decide_eq_true h]; rfl
theorem fskip_no {W : List Nat} {nm : List ByteArray} {s : ByteArray} {k : Nat} (hk : k < W.length) (h : ¬ hasName nm s (nth W k)) : fskip W nm s k = fskip W nm s (k + 1) := by
  unfold fskip
  rw [List.drop_eq_getElem_cons hk, List.find?_cons, ← nth_eq hk, decide_eq_false h]
theorem fskip_all (W : List Nat) (nm : List ByteArray) (s : ByteArray) : fskip W nm s 0 = (findL W nm s).getD 0 := rfl
theorem go_pos {C : List Nat} : ∀ (n x : Nat), ∀ y ∈ walkGo C n x, 0 < y ∧ y < C.length
  | 0, x, y, h => by simp [walkGo] at h
  | n + 1, x, y, h => by
    rw [walkGo] at h
    split at h
    · simp at h
    · rcases List.mem_cons.1 h with rfl | h
      · omega
      · exact go_pos n _ y h
theorem walk_in {B C : List Nat} {s : ByteArray} {y : Nat} (h : y ∈ walkL B C s) : 0 < y ∧ y < C.length := by
  unfold walkL at h
  split at h
  · exact go_pos _ _ y h
  · simp at h
theorem find_pos {B C : List Nat} {nm : List ByteArray} {s t : ByteArray} : (findL (walkL B C s) nm t).isSome = decide (0 < (findL (walkL B C s) nm t).getD 0) := by
  cases h : findL (walkL B C s) nm t with
  | none => rfl
  | some x =>
    have h1 := (walk_in (List.mem_of_find?_eq_some h)).1
    simp [h1]
theorem go_len {C : List Nat} : ∀ (n x : Nat), (walkGo C n x).length ≤ n
  | 0, x => by simp [walkGo]
  | n + 1, x => by
    rw [walkGo]
    split
    · simp
    · simp; exact go_len n _
theorem walk_len (B C : List Nat) (s : ByteArray) : (walkL B C s).length ≤ C.length := by
  unfold walkL
  split
  · exact go_len _ _
  · simp
theorem in_take {W : List Nat} {k i : Nat} (hk : k < W.length) : decide (i ∈ W.take (k + 1)) = (decide (i ∈ W.take k) || decide (nth W k = i)) := by
  rw [List.take_add_one, List.getElem?_eq_getElem hk, nth_eq hk]
  simp only [Option.toList_some, List.mem_append, List.mem_singleton, Bool.decide_or]
  congr 1
  exact decide_eq_decide.2 eq_comm
set_option maxRecDepth 100000 in
set_option maxHeartbeats 4000000 in
theorem wclos_ok {H0 : AHeap} (W : List Nat) (vW : Value) (bR bN bW n k : Nat) (hnd : [bR, bN, bW].Nodup) (hW : SlZ i64v (fun b vs sz => Rd H0 b vs sz ∧ b ∉ [bR, bN, bW]) vW W) (hR : H0[bR]? = some (.cells true [.bool true] 1)) (hN : H0[bN]? = some (.cells true [.int .i64 ((n : Nat) : Int)] 1)) (hWc : H0[bW]? = some (.cells true [vW] 1)) (hk : W[n]? = some k) (hl : W.length ≤ 1000000) : ACalls Try.prog 12 [.int .i64 ((k : Nat) : Int), .pointer (some ⟨bR, 0, none⟩), .pointer (some ⟨bN, 0, none⟩), .pointer (some ⟨bW, 0, none⟩)] H0 (fun v H' => v = .bool true ∧ Kp (· ∈ [bR, bN, bW]) H0 H' ∧ AllAt H' [(bR, .cells true [.bool true] 1), (bN, .cells true [.int .i64 ((n + 1 : Nat) : Int)] 1), (bW, .cells true [vW] 1)]) := by
  have hF : Wd Fence.wide := .inl rfl
  have hM : Try.prog.follows .mixedOrders = true := by kernel_rfl
  have hn : n < W.length := (List.getElem?_eq_some_iff.1 hk).1
  have hkk : k = nth W n := by rw [List.getElem?_eq_getElem hn] at hk; rw [nth_eq hn]; exact (Option.some.inj hk).symm
  have s0 : St H0 (· ∈ [bR, bN, bW]) (fun b vs sz => Rd H0 b vs sz ∧ b ∉ [bR, bN, bW]) H0 [(bR, .cells true [.bool true] 1), (bN, .cells true [.int .i64 ((n : Nat) : Int)] 1), (bW, .cells true [vW] 1)] := St.beginL [(bR, .cells true [.bool true] 1), (bN, .cells true [.int .i64 ((n : Nat) : Int)] 1), (bW, .cells true [vW] 1)] hnd (allAt_mem ⟨hR, hN, hWc, trivial⟩)
  refine acalls_st Try.func12 rfl Try.ntmps12 rfl ?_
  refine awp_seq ?_
  refine awp_regs hF ?_
  refine dv (gyes_none rfl) (q_as (v := .bool false) rfl) rfl (by decide) (cok1 (cconst rfl)) ?_
  refine ⟨_, Wk.refl _ _, ?_⟩
  show awp _ _ _ _ _ _ _
  refine awp_seq ?_
  refine awp_regs hF ?_
  refine dv (gyes_none rfl) (q_load (v := .bool true) Try.isAgg4 rfl (s0.rd (j := 0) rfl) rfl) rfl (by decide) (cok1 trivial) ?_
  refine dv (gyes_none rfl) (q_mv (v := .bool true) rfl) rfl (by decide) (cok1 trivial) ?_
  refine dv (gyes_some rfl rfl) (q_load (v := .int .i64 ((n : Nat) : Int)) Try.isAgg3 rfl (s0.rd (j := 1) rfl) rfl) rfl (by decide) (cok1 trivial) ?_
  refine dv (gyes_some rfl rfl) (q_load (v := vW) Try.isAgg29 rfl (s0.rd (j := 2) rfl) rfl) rfl (by decide) (cok1 trivial) ?_
  refine dv (gyes_some rfl rfl) (q_len_sl (l := W) Try.underlying29 (s0.sl hW) rfl) rfl (by decide) (cok1 trivial) ?_
  refine dv (gyes_some rfl rfl) (OpQ.cast (v' := .bool true) (q_int rfl rfl rfl) (congrArg Value.bool (decide_eq_true (by omega)))) rfl (by decide) (cok2 trivial trivial) ?_
  refine dv (gyes_none rfl) (q_pt (v := .bool true) rfl rfl) rfl (by decide) (call_ok rfl) ?_
  refine dv (gyes_none rfl) (q_mv (v := .bool true) rfl) rfl (by decide) (cok1 trivial) ?_
  refine dv (gyes_some rfl rfl) (q_mv (v := .int .i64 ((k : Nat) : Int)) rfl) rfl (by decide) (cok1 trivial) ?_
  refine dv (gyes_some rfl rfl) (q_load (v := vW) Try.isAgg29 rfl (s0.rd (j := 2) rfl) rfl) rfl (by decide) (cok1 trivial) ?_
  refine dv (gyes_some rfl rfl) (q_load (v := .int .i64 ((n : Nat) : Int)) Try.isAgg3 rfl (s0.rd (j := 1) rfl) rfl) rfl (by decide) (cok1 trivial) ?_
  refine dv (gyes_some rfl rfl) (q_index_sl (l := W) (i := n) Try.underlying29 Try.sizeOf3 (s0.sl hW) rfl rfl (by omega)) rfl (by decide) (cok2 trivial trivial) ?_
  refine dv (gyes_some rfl rfl) (q_load_sl (l := W) (i := n) Try.isAgg3 (s0.sl hW) rfl (by omega)) rfl (by decide) (cok1 trivial) ?_
  refine dv (gyes_some rfl rfl) (OpQ.cast (v' := .bool true) (q_int rfl rfl rfl) (congrArg Value.bool (by simp only [beq_iff_eq]; exact congrArg _ hkk))) rfl (by decide) (cok2 trivial trivial) ?_
  refine dv (gyes_none rfl) (q_pt (v := .bool true) rfl rfl) rfl (by decide) (call_ok rfl) ?_
  refine x_store1 [] hF s0 (by kernel_rfl) (gyes_none rfl) (j := 0) (v := .bool true) rfl Try.sizeOf4 rfl rfl rfl (lc_scalar rfl) (Nat.le_of_ble_eq_true rfl) trivial trivial rfl rfl (F' := [(bR, .cells true [.bool true] 1), (bN, .cells true [.int .i64 ((n : Nat) : Int)] 1), (bW, .cells true [vW] 1)]) rfl (fun H1 s2 => ⟨?_, ?_⟩)
  · exact trivial
  refine ⟨_, Wk.refl _ _, ?_⟩
  show awp _ _ _ _ _ _ _
  refine awp_seq ?_
  refine awp_regs hF ?_
  refine dv (gyes_none rfl) (q_load (v := .int .i64 ((n : Nat) : Int)) Try.isAgg3 rfl (s2.rd (j := 1) rfl) rfl) rfl (by decide) (cok1 trivial) ?_
  refine dv (gyes_none rfl) (OpQ.cast (v' := .int .i64 ((n + 1 : Nat) : Int)) (q_int rfl rfl rfl) (congrArg _ ((i64_in (by omega)).trans (by first | rfl | omega | (push_cast; rfl))))) rfl (by decide) (cok2 trivial (cconst rfl)) ?_
  refine x_store1 [] hF s2 (by kernel_rfl) (gyes_none rfl) (j := 1) (v := .int .i64 ((n + 1 : Nat) : Int)) rfl Try.sizeOf3 rfl rfl rfl (lc_scalar rfl) (Nat.le_of_ble_eq_true rfl) trivial trivial rfl rfl (F' := [(bR, .cells true [.bool true] 1), (bN, .cells true [.int .i64 ((n + 1 : Nat) : Int)] 1), (bW, .cells true [vW] 1)]) rfl (fun H3 s4 => ⟨?_, ?_⟩)
  · exact trivial
  refine ⟨_, Wk.refl _ _, ?_⟩
  show awp _ _ _ _ _ _ _
  refine awp_seq ?_
  refine awp_regs hF ?_
  refine dv (gyes_none rfl) (q_as (v := .bool true) rfl) rfl (by decide) (cok1 (cconst rfl)) ?_
  refine ⟨_, Wk.refl _ _, ?_⟩
  show awp _ _ _ _ _ _ _
  refine awp_ret_wk ?_
  refine ⟨_, Wk.refl _ _, ?_⟩
  repeat (with_reducible first | refine then_ret ?_ | refine blk_ret ?_ | refine then_exit ?_ | refine blk_exit ?_ | refine blk_exit' (by decide) ?_ | refine blk_normal ?_ | refine then_normal ?_ | refine retq_ret ?_ | refine retq_normal ?_ | refine ng_normal ?_ | refine ng_ret ?_ | refine ng_exit ?_)
  refine ret_is rfl (.tmp rfl .nil) rfl ?_
  exact ⟨rfl, s4.kp, s4.getj (j := 0) rfl, s4.getj (j := 1) rfl, s4.getj (j := 2) rfl, trivial⟩
/-- The walk, with the closure. -/
theorem wrun_ok {H : AHeap} (s : ByteArray) (hs : s.size ≤ 140737488355328) (B C : List Nat) (vB vC vW : Value) {b0 b1 bR bN bW : Nat} (hB1 : B.length < 4294967296) (hBv : ∀ x ∈ B, x < 4294967296) (hCv : ∀ x ∈ C, x < 4294967296) (hC1 : C.length ≤ 4294967296) (hl : (walkL B C s).length ≤ 1000000)
    (hnd : [bR, bN, bW].Nodup) (h0 : H[b0]? = some (.cells true [vB, vC] 1)) (h1 : H[b1]? = some (.cells true [.string s] 1)) (n0 : b0 ∉ [bR, bN, bW]) (n1 : b1 ∉ [bR, bN, bW]) (hB : SlZ u32v (Off H [bR, bN, bW]) vB B) (hC : SlZ u32v (Off H [bR, bN, bW]) vC C) (hW : SlZ i64v (Off H [bR, bN, bW]) vW (walkL B C s))
    (hR : H[bR]? = some (.cells true [.bool true] 1)) (hN : H[bN]? = some (.cells true [.int .i64 0] 1)) (hWc : H[bW]? = some (.cells true [vW] 1)) :
    ACalls Try.prog 21 [.func (.func 12) #[] #[.pointer (some ⟨bR, 0, none⟩), .pointer (some ⟨bN, 0, none⟩), .pointer (some ⟨bW, 0, none⟩)], .pointer (some ⟨b0, 0, none⟩), .pointer (some ⟨b1, 0, none⟩)] H
      (fun v H' => v = .tuple #[] ∧ Kp (· ∈ [bR, bN, bW]) H H' ∧ AllAt H' [(bR, .cells true [.bool true] 1), (bN, .cells true [.int .i64 (((walkL B C s).length : Nat) : Int)] 1), (bW, .cells true [vW] 1)]) := by
  refine (walk1_ok rfl s hs B C vB vC hB1 hBv hCv hC1 _ b0 b1 (fun k H' => Kp (· ∈ [bR, bN, bW]) H H' ∧ AllAt H' [(bR, .cells true [.bool true] 1), (bN, .cells true [.int .i64 ((k : Nat) : Int)] 1), (bW, .cells true [vW] 1)]) (fun _ _ => False) ?_ ?_ ?_).mono ?_
  · exact ⟨.refl _ _, hR, hN, hWc, trivial⟩
  · rintro k H1 ⟨hk, _⟩
    exact ⟨kp_at hk h0 n0, kp_at hk h1 n1, (hB.off hk).offsl, (hC.off hk).offsl⟩
  · rintro k H1 x ⟨hk, ha⟩ hx
    refine ylds_func Try.call12 ((wclos_ok (walkL B C s) vW bR bN bW k x hnd (hW.off hk) ha.1 ha.2.1 ha.2.2.1 hx hl).mono ?_)
    rintro v H' ⟨rfl, h2, h3⟩
    exact ⟨true, rfl, fun _ => ⟨hk.trans h2, h3⟩, fun h => nomatch h⟩
  · rintro v H' ⟨rfl, ⟨h2, h3⟩ | ⟨_, _, h⟩⟩
    · exact ⟨rfl, h2, h3⟩
    · exact h.elim

end Go.Proofs.YtmoldjiooccppaaA
