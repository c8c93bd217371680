/-
  Walks over abstract states: texts of one claim, merged.
-/
import Derived.Test.YtmoldjiooccppaaM2
import Derived.Test.YtmoldjiooccppaaProg
import Derived.KernelRfl
/-
  Walks of functions of the given program, and what they compute.
-/
namespace Go.Proofs.YtmoldjiooccppaaA
set_option linter.unusedVariables false
open Go Go.RowKit Go.Shelf Go.Proofs
theorem St.turn2 {H0 : AHeap} {X : Nat → Prop} {Z : Rs} {H H' : AHeap} {F : List (Nat × AObj)} (h : St H0 X Z H F) {j9 jl b9 bl bn : Nat} {o9 ol o9' on : AObj} (h9 : F[j9]? = some (b9, o9)) (hl : F[jl]? = some (bl, ol)) (hij : j9 ≠ jl) (k : Kp (· ∈ [b9, bl]) H H') (hb : H.length ≤ bn ∨ bn ∈ [b9, bl]) (hne : bn ≠ b9) (h9' : H'[b9]? = some o9') (hn : H'[bn]? = some on) : St H0 X Z H' ((F.set j9 (b9, o9')).set jl (bn, on)) := by
  have m9 : b9 ∈ F.map (·.1) := List.mem_map.2 ⟨_, List.mem_of_getElem? h9, rfl⟩
  have ml : bl ∈ F.map (·.1) := List.mem_map.2 ⟨_, List.mem_of_getElem? hl, rfl⟩
  have hjl := (List.getElem?_eq_some_iff.1 hl).1
  refine h.turn k _ ?_ (fun p hp => ?_) (fun b hb => ?_)
  · have e1 : ((F.set j9 (b9, o9')).set jl (bn, on)).map (·.1) = (F.map (·.1)).set jl bn := by rw [List.map_set, keys_set h9]
    rw [e1]
    refine nodup_of_inj fun i j x hi hj => ?_
    rw [List.getElem?_set] at hi hj
    have nb : ∀ q, q ≠ jl → (F.map (·.1))[q]? ≠ some bn := fun q hq e => by
      rw [List.getElem?_map] at e
      obtain ⟨y, hy, hy2⟩ := Option.map_eq_some_iff.1 e
      rcases hb with hb | hb
      · have := lt_of_some (h.getj (b := y.1) (o := y.2) hy)
        omega
      · rcases List.mem_cons.1 hb with hb | hb
        · exact hne hb
        · have hb : bn = bl := by simpa using hb
          exact h.ne hy hl hq (hy2.trans hb)
    by_cases ei : jl = i
    · by_cases ej : jl = j
      · omega
      · rw [if_pos ei, if_pos (by simpa using hjl)] at hi
        rw [if_neg ej] at hj
        cases hi
        exact absurd hj (nb j (Ne.symm ej))
    · rw [if_neg ei] at hi
      by_cases ej : jl = j
      · rw [if_pos ej, if_pos (by simpa using hjl)] at hj
        cases hj
        exact absurd hi (nb i (Ne.symm ei))
      · rw [if_neg ej] at hj
        exact nodup_inj h.nd hi hj
  · rcases mem_set_cases hp with rfl | ⟨i, hi, hp⟩
    · refine .inr ⟨hn, hb.imp id fun hb => ?_⟩
      rcases List.mem_cons.1 hb with hb | hb
      · exact absurd hb hne
      · have hb : bn = bl := by simpa using hb
        show bn ∈ _
        rw [hb]; exact ml
    · rw [List.getElem?_set] at hp
      by_cases e : j9 = i
      · rw [if_pos e, if_pos (List.getElem?_eq_some_iff.1 h9).1] at hp
        cases hp
        exact .inr ⟨h9', .inr m9⟩
      · rw [if_neg e] at hp
        refine .inl ⟨List.mem_of_getElem? hp, fun hm => ?_⟩
        rcases List.mem_cons.1 hm with hm | hm
        · exact h.ne hp h9 (Ne.symm e) hm
        · have hm : p.1 = bl := by simpa using hm
          exact h.ne hp hl hi hm
  · rcases List.mem_cons.1 hb with rfl | hb
    · exact m9
    · have hb : b = bl := by simpa using hb
      rw [hb]; exact ml
theorem St.turn1 {H0 : AHeap} {X : Nat → Prop} {Z : Rs} {H H' : AHeap} {F : List (Nat × AObj)} (h : St H0 X Z H F) {j b : Nat} {o o' : AObj} (hj : F[j]? = some (b, o)) (k : Kp (· ∈ [b]) H H') (h' : H'[b]? = some o') : St H0 X Z H' (F.set j (b, o')) := by
  have m9 : b ∈ F.map (·.1) := List.mem_map.2 ⟨_, List.mem_of_getElem? hj, rfl⟩
  refine h.turn k _ (by rw [keys_set hj]; exact h.nd) (fun p hp => ?_) (fun c hc => ?_)
  · rcases mem_set_cases hp with rfl | ⟨i, hi, hp⟩
    · exact .inr ⟨h', .inr m9⟩
    · exact .inl ⟨List.mem_of_getElem? hp, fun hm => h.ne hp hj hi (by simpa using hm)⟩
  · have hc : c = b := by simpa using hc
    rw [hc]; exact m9
theorem x_newB {Fc : Fence} {n : Nat} {P : Program} {N0 : AHeap} {ops : Array Oper} {rest : List Oper} {K : ASt → Prop} {nt : Nat} {T : Nat → Value} {D : List Nat} {d : Tmp} {tab : List Nat} {i : Nat} {H0 : AHeap} {X : Nat → Prop} {Z : Rs} {H : AHeap} {F : List (Nat × AObj)} {ty : TypeId} {pos : String} {af : Array Edge} {g : Option (Nat × Bool)} {t te : TypeId} {z : Value} (hS : St H0 X Z H F) (hg : GYes ops ⟨some d, .alloc t, ty, pos, af, g⟩ T) (hz : ∀ w, (zeroValue t).run P w = .ok z w) (hvs : z.cells = #[.pointer none, .slice none 0 0]) (hn : d < nt) (hc : ∀ x ∈ (Op.alloc t).operands, cOk H x)
    (hk : ∀ b c H', H.length ≤ b → H.length ≤ c → St H0 X Z H' ((b, .typed te [] 1) :: (c, .typed t [.pointer none, .slice (some ⟨b, 0, none⟩) 0 0] 2) :: F) → dList Fc n P N0 ops tab (i + 1) rest K ⟨nt, upd T d (.pointer (some ⟨c, 0, none⟩)), D, H'⟩) : dList Fc n P N0 ops tab i (⟨some d, .alloc t, ty, pos, af, g⟩ :: rest) K ⟨nt, T, D, H⟩ := by
  refine dn hg (q_allocB (te := te) hz hvs) rfl hn hc rfl (hk _ _ _ (Nat.le_refl _) (Nat.le_succ _) ?_)
  have h := (hS.push (.typed te [] 1)).push (.typed t [.pointer none, .slice (some ⟨H.length, 0, none⟩) 0 0] 2)
  rw [List.append_assoc, List.length_append] at h
  exact h.perm (.swap _ _ _)
set_option maxRecDepth 100000 in
set_option maxHeartbeats 4000000 in
theorem copyCheck_n {H0 : AHeap} (bb r n : Nat) (h1 : H0[bb]? = some (.typed 66 [.pointer none, .slice (some ⟨r, 0, none⟩) n n] 2)) : ACalls Try.prog 36 [.pointer (some ⟨bb, 0, none⟩)] H0 (fun v H' => v = .tuple #[] ∧ Kp (· ∈ [bb]) H0 H' ∧ H'[bb]? = some (.typed 66 [.pointer (some ⟨bb, 0, none⟩), .slice (some ⟨r, 0, none⟩) n n] 2)) := by
  have hF : Wd Fence.wide := .inl rfl
  have hM : Try.prog.follows .mixedOrders = true := by kernel_rfl
  have s0 : St H0 (· ∈ [bb]) (Off H0 [bb]) H0 [(bb, .typed 66 [.pointer none, .slice (some ⟨r, 0, none⟩) n n] 2)] := St.beginL [(bb, .typed 66 [.pointer none, .slice (some ⟨r, 0, none⟩) n n] 2)] (by simp) (allAt_mem ⟨h1, trivial⟩)
  refine acalls_st Try.func36 rfl Try.ntmps36 rfl ?_
  refine awp_seq ?_
  refine awp_regs hF ?_
  refine dv (gyes_none rfl) (q_mv (v := .pointer (some ⟨bb, 0, none⟩)) rfl) rfl (by decide) (cok1 trivial) ?_
  refine dv (gyes_none rfl) (q_nilCheck rfl (by rw [s0.getj (j := 0) rfl]; simp)) rfl (by decide) (cok1 trivial) ?_
  refine dv (gyes_none rfl) (q_field Try.underlying66 rfl Try.sizeOf63 rfl (s0.rdT (j := 0) rfl)) rfl (by decide) (cok1 trivial) ?_
  refine dv (gyes_none rfl) (q_load (v := .pointer none) Try.isAgg63 rfl (s0.rdT (j := 0) rfl) rfl) rfl (by decide) (cok1 trivial) ?_
  refine dv (gyes_none rfl) (q_ptrnil_t Try.underlying63 rfl rfl) rfl (by decide) (cok2 trivial (cconst rfl)) ?_
  refine ⟨_, Wk.refl _ _, ?_⟩
  show awp _ _ _ _ _ _ _
  refine awp_cond_t rfl ?_
  refine awp_regs hF ?_
  refine dv (gyes_none rfl) (q_mv (v := .pointer (some ⟨bb, 0, none⟩)) rfl) rfl (by decide) (cok1 trivial) ?_
  refine dv (gyes_none rfl) (q_mv (v := .pointer (some ⟨bb, 0, none⟩)) rfl) rfl (by decide) (cok1 trivial) ?_
  refine dv (gyes_none rfl) (q_toUnsafe (H := H0) Try.underlying63 Try.underlying78 Try.type66 (by decide) rfl (s0.getj (j := 0) rfl) (Nat.zero_lt_succ _)) rfl (by decide) (cok1 trivial) ?_
  refine dv (gyes_none rfl) (q_noEscape Try.func38 (by kernel_rfl) (by kernel_rfl) (by kernel_rfl) (by kernel_rfl) rfl) rfl (by decide) (cok2 trivial trivial) ?_
  refine dv (gyes_none rfl) (q_fromUnsafe (H := H0) Try.underlying78 Try.underlying63 Try.type66  rfl (s0.getj (j := 0) rfl) (by decide) (by kernel_rfl)) rfl (by decide) (cok1 trivial) ?_
  refine dv (gyes_none rfl) (q_nilCheck rfl (by rw [s0.getj (j := 0) rfl]; simp)) rfl (by decide) (cok1 trivial) ?_
  refine dv (gyes_none rfl) (q_field Try.underlying66 rfl Try.sizeOf63 rfl (s0.rdT (j := 0) rfl)) rfl (by decide) (cok1 trivial) ?_
  refine x_store1T [] hF s0 (by kernel_rfl) (gyes_none rfl) (j := 0) (v := .pointer (some ⟨bb, 0, none⟩)) rfl Try.sizeOf63 rfl rfl rfl (lc_ptr (by rw [s0.getj (j := 0) rfl]; simp)) (Nat.le_of_ble_eq_true rfl) trivial trivial rfl rfl (F' := [(bb, .typed 66 [.pointer (some ⟨bb, 0, none⟩), .slice (some ⟨r, 0, none⟩) n n] 2)]) rfl (fun H1 s2 => ⟨?_, ?_⟩)
  · exact trivial
  refine ⟨_, Wk.refl _ _, ?_⟩
  repeat (with_reducible first | refine then_ret ?_ | refine blk_ret ?_ | refine then_exit ?_ | refine blk_exit ?_ | refine blk_exit' (by decide) ?_ | refine blk_normal ?_ | refine then_normal ?_ | refine retq_ret ?_ | refine retq_normal ?_ | refine ng_normal ?_ | refine ng_ret ?_ | refine ng_exit ?_)
  refine ret_is (v := .tuple #[]) rfl .nil rfl ?_
  exact ⟨rfl, s2.kp, s2.getj (j := 0) rfl⟩
set_option maxRecDepth 100000 in
set_option maxHeartbeats 4000000 in
theorem copyCheck_u {H0 : AHeap} (bb r n : Nat) (hb : Rd H0 bb [.pointer (some ⟨bb, 0, none⟩), .slice (some ⟨r, 0, none⟩) n n] 2) : ACalls Try.prog 36 [.pointer (some ⟨bb, 0, none⟩)] H0 (Rets (.tuple #[]) H0) := by
  have hF : Wd Fence.wide := .inl rfl
  have hM : Try.prog.follows .mixedOrders = true := by kernel_rfl
  have s0 := St.begin H0
  refine acalls_st Try.func36 rfl Try.ntmps36 rfl ?_
  refine awp_seq ?_
  refine awp_regs hF ?_
  refine dv (gyes_none rfl) (q_mv (v := .pointer (some ⟨bb, 0, none⟩)) rfl) rfl (by decide) (cok1 trivial) ?_
  refine dv (gyes_none rfl) (q_nilCheck rfl (Rd.live (s0.zrd hb))) rfl (by decide) (cok1 trivial) ?_
  refine dv (gyes_none rfl) (q_field Try.underlying66 rfl Try.sizeOf63 rfl (s0.zrd hb)) rfl (by decide) (cok1 trivial) ?_
  refine dv (gyes_none rfl) (q_load (v := .pointer (some ⟨bb, 0, none⟩)) Try.isAgg63 rfl (s0.zrd hb) rfl) rfl (by decide) (cok1 trivial) ?_
  refine dv (gyes_none rfl) (q_ptrnil_f Try.underlying63 rfl (Rd.live (s0.zrd hb)) rfl) rfl (by decide) (cok2 trivial (cconst rfl)) ?_
  refine ⟨_, Wk.refl _ _, ?_⟩
  show awp _ _ _ _ _ _ _
  refine awp_cond_f rfl ?_
  refine awp_seq ?_
  refine awp_regs hF ?_
  refine dv (gyes_none rfl) (q_mv (v := .pointer (some ⟨bb, 0, none⟩)) rfl) rfl (by decide) (cok1 trivial) ?_
  refine dv (gyes_none rfl) (q_nilCheck rfl (Rd.live (s0.zrd hb))) rfl (by decide) (cok1 trivial) ?_
  refine dv (gyes_none rfl) (q_field Try.underlying66 rfl Try.sizeOf63 rfl (s0.zrd hb)) rfl (by decide) (cok1 trivial) ?_
  refine dv (gyes_none rfl) (q_load (v := .pointer (some ⟨bb, 0, none⟩)) Try.isAgg63 rfl (s0.zrd hb) rfl) rfl (by decide) (cok1 trivial) ?_
  refine dv (gyes_none rfl) (q_mv (v := .pointer (some ⟨bb, 0, none⟩)) rfl) rfl (by decide) (cok1 trivial) ?_
  refine dv (gyes_none rfl) (q_ptrself Try.underlying63 Try.type66 rfl (Rd.live (s0.zrd hb)) rfl) rfl (by decide) (cok2 trivial trivial) ?_
  refine ⟨_, Wk.refl _ _, ?_⟩
  show awp _ _ _ _ _ _ _
  refine awp_cond_f rfl ?_
  refine awp_skip_wk ?_
  refine ⟨_, Wk.refl _ _, ?_⟩
  repeat (with_reducible first | refine then_ret ?_ | refine blk_ret ?_ | refine then_exit ?_ | refine blk_exit ?_ | refine blk_exit' (by decide) ?_ | refine blk_normal ?_ | refine then_normal ?_ | refine retq_ret ?_ | refine retq_normal ?_ | refine ng_normal ?_ | refine ng_ret ?_ | refine ng_exit ?_)
  exact ret_none (v := .tuple #[]) rfl s0.kp .nil rfl rfl ⟨rfl, rfl⟩
set_option maxRecDepth 100000 in
set_option maxHeartbeats 4000000 in
theorem wstr_n {H0 : AHeap} (bb r n : Nat) (l : List UInt8) (hn : l.length = n) (hnd : [bb, r].Nodup) (h1 : H0[bb]? = some (.typed 66 [.pointer none, .slice (some ⟨r, 0, none⟩) n n] 2)) (h2 : H0[r]? = some (.typed 5 (l.map bytv) 1)) (t : ByteArray) (hsz : n + t.size ≤ 100000000) : ACalls Try.prog 29 [.pointer (some ⟨bb, 0, none⟩), .string t] H0 (fun v H' => ∃ rn, v = .tuple #[.int .i64 ((t.size : Nat) : Int), .nilIface] ∧ Kp (· ∈ [bb, r]) H0 H' ∧ (H0.length ≤ rn ∨ rn ∈ [bb, r]) ∧ rn ≠ bb ∧ H'[bb]? = some (.typed 66 [.pointer (some ⟨bb, 0, none⟩), .slice (some ⟨rn, 0, none⟩) (n + t.size) (n + t.size)] 2) ∧ H'[rn]? = some (.typed 5 ((l ++ t.data.toList).map bytv) 1)) := by
  have hF : Wd Fence.wide := .inl rfl
  have hM : Try.prog.follows .mixedOrders = true := by kernel_rfl
  have s0 : St H0 (· ∈ [bb, r]) (Off H0 [bb, r]) H0 [(bb, .typed 66 [.pointer none, .slice (some ⟨r, 0, none⟩) n n] 2), (r, .typed 5 (l.map bytv) 1)] := St.beginL [(bb, .typed 66 [.pointer none, .slice (some ⟨r, 0, none⟩) n n] 2), (r, .typed 5 (l.map bytv) 1)] hnd (allAt_mem ⟨h1, h2, trivial⟩)
  refine acalls_st Try.func29 rfl Try.ntmps29 rfl ?_
  refine awp_seq ?_
  refine awp_regs hF ?_
  refine dv (gyes_none rfl) (q_as (v := .int .i64 0) rfl) rfl (by decide) (cok1 (cconst rfl)) ?_
  refine dv (gyes_none rfl) (q_as (v := .nilIface) rfl) rfl (by decide) (cok1 (cconst rfl)) ?_
  refine ⟨_, Wk.refl _ _, ?_⟩
  show awp _ _ _ _ _ _ _
  refine awp_seq ?_
  refine awp_regs hF ?_
  refine dv (gyes_none rfl) (q_mv (v := .pointer (some ⟨bb, 0, none⟩)) rfl) rfl (by decide) (cok1 trivial) ?_
  refine x_call [] hF (by kernel_rfl) (gyes_none rfl) Try.call36 rfl (args := [.pointer (some ⟨bb, 0, none⟩)]) rfl (copyCheck_n bb r n (s0.getj (j := 0) rfl)) (show _ < _ by decide) (call_ok rfl) rfl rfl (fun _ _ _ _ hd => by cases hd) ?_
  rintro _ H1 ⟨rfl, hk2, h3⟩
  have s4 := s0.turn1 (j := 0) rfl hk2 h3
  refine ⟨trivial, ?_⟩
  show dList _ _ _ _ _ _ _ _ _ _
  refine ⟨_, Wk.refl _ _, ?_⟩
  show awp _ _ _ _ _ _ _
  refine awp_seq ?_
  refine awp_regs hF ?_
  refine dv (gyes_none rfl) (q_mv (v := .pointer (some ⟨bb, 0, none⟩)) rfl) rfl (by decide) (cok1 trivial) ?_
  refine dv (gyes_none rfl) (q_mv (v := .pointer (some ⟨bb, 0, none⟩)) rfl) rfl (by decide) (cok1 trivial) ?_
  refine dv (gyes_none rfl) (q_nilCheck rfl (by rw [s4.getj (j := 0) rfl]; simp)) rfl (by decide) (cok1 trivial) ?_
  refine dv (gyes_none rfl) (q_field Try.underlying66 rfl Try.sizeOf64 rfl (s4.rdT (j := 0) rfl)) rfl (by decide) (cok1 trivial) ?_
  refine dv (gyes_none rfl) (q_load (v := .slice (some ⟨r, 0, none⟩) n n) Try.isAgg64 rfl (s4.rdT (j := 0) rfl) rfl) rfl (by decide) (cok1 trivial) ?_
  refine dv (gyes_none rfl) (q_mv (v := .string t) rfl) rfl (by decide) (cok1 trivial) ?_
  refine x_appendT [] hF s4 (by kernel_rfl) (j := 1) (n + t.size) rfl (gyes_none rfl) Try.underlying64 Try.underlying9 Try.type5 rfl rfl (by decide) rfl rfl rfl rfl hn.symm (by show (2 * _ + 1000) * 1 ≤ _; omega) trivial trivial (by decide) rfl rfl (fun b5 H6 hb8 s7 => ⟨?_, ?_⟩)
  · exact trivial
  refine dv (gyes_none rfl) (q_nilCheck rfl (by rw [s7.getj (j := 0) rfl]; simp)) rfl (by decide) (cok1 trivial) ?_
  refine dv (gyes_none rfl) (q_field Try.underlying66 rfl Try.sizeOf64 rfl (s7.rdT (j := 0) rfl)) rfl (by decide) (cok1 trivial) ?_
  refine x_store1T [] hF s7 (by kernel_rfl) (gyes_none rfl) (j := 0) (v := .slice (some ⟨b5, 0, none⟩) (n + t.size) (n + t.size)) rfl Try.sizeOf64 rfl rfl rfl (lc_slice (by rw [s7.getj (j := 1) rfl]; simp)) (Nat.le_of_ble_eq_true rfl) trivial trivial rfl rfl (F' := [(bb, .typed 66 [.pointer (some ⟨bb, 0, none⟩), .slice (some ⟨b5, 0, none⟩) (n + t.size) (n + t.size)] 2), (b5, .typed 5 ((l ++ t.data.toList).map bytv) 1)]) rfl (fun H9 s10 => ⟨?_, ?_⟩)
  · exact trivial
  refine ⟨_, Wk.refl _ _, ?_⟩
  show awp _ _ _ _ _ _ _
  refine awp_seq ?_
  refine awp_regs hF ?_
  refine dv (gyes_none rfl) (q_mv (v := .string t) rfl) rfl (by decide) (cok1 trivial) ?_
  refine dv (gyes_none rfl) (q_len_str Try.underlying9 rfl) rfl (by decide) (cok1 trivial) ?_
  refine dv (gyes_none rfl) (q_as (v := .int .i64 ((t.size : Nat) : Int)) rfl) rfl (by decide) (cok1 trivial) ?_
  refine dv (gyes_none rfl) (q_as (v := .nilIface) rfl) rfl (by decide) (cok1 (cconst rfl)) ?_
  refine ⟨_, Wk.refl _ _, ?_⟩
  show awp _ _ _ _ _ _ _
  refine awp_ret_wk ?_
  refine ⟨_, Wk.refl _ _, ?_⟩
  repeat (with_reducible first | refine then_ret ?_ | refine blk_ret ?_ | refine then_exit ?_ | refine blk_exit ?_ | refine blk_exit' (by decide) ?_ | refine blk_normal ?_ | refine then_normal ?_ | refine retq_ret ?_ | refine retq_normal ?_ | refine ng_normal ?_ | refine ng_ret ?_ | refine ng_exit ?_)
  refine ret_is (v := .tuple #[.int .i64 ((t.size : Nat) : Int), .nilIface]) rfl (.tmp rfl (.tmp rfl .nil)) rfl ?_
  exact ⟨_, rfl, s10.kp, s10.own _ (List.mem_of_getElem? (i := 1) rfl), s10.nej (i := 1) (j := 0) rfl rfl (by decide), s10.getj (j := 0) rfl, s10.getj (j := 1) rfl⟩
set_option maxRecDepth 100000 in
set_option maxHeartbeats 4000000 in
theorem wstr_u {H0 : AHeap} (bb r n : Nat) (l : List UInt8) (hn : l.length = n) (hnd : [bb, r].Nodup) (h1 : H0[bb]? = some (.typed 66 [.pointer (some ⟨bb, 0, none⟩), .slice (some ⟨r, 0, none⟩) n n] 2)) (h2 : H0[r]? = some (.typed 5 (l.map bytv) 1)) (t : ByteArray) (hsz : n + t.size ≤ 100000000) : ACalls Try.prog 29 [.pointer (some ⟨bb, 0, none⟩), .string t] H0 (fun v H' => ∃ rn, v = .tuple #[.int .i64 ((t.size : Nat) : Int), .nilIface] ∧ Kp (· ∈ [bb, r]) H0 H' ∧ (H0.length ≤ rn ∨ rn ∈ [bb, r]) ∧ rn ≠ bb ∧ H'[bb]? = some (.typed 66 [.pointer (some ⟨bb, 0, none⟩), .slice (some ⟨rn, 0, none⟩) (n + t.size) (n + t.size)] 2) ∧ H'[rn]? = some (.typed 5 ((l ++ t.data.toList).map bytv) 1)) := by
  have hF : Wd Fence.wide := .inl rfl
  have hM : Try.prog.follows .mixedOrders = true := by kernel_rfl
  have s0 : St H0 (· ∈ [bb, r]) (Off H0 [bb, r]) H0 [(bb, .typed 66 [.pointer (some ⟨bb, 0, none⟩), .slice (some ⟨r, 0, none⟩) n n] 2), (r, .typed 5 (l.map bytv) 1)] := St.beginL [(bb, .typed 66 [.pointer (some ⟨bb, 0, none⟩), .slice (some ⟨r, 0, none⟩) n n] 2), (r, .typed 5 (l.map bytv) 1)] hnd (allAt_mem ⟨h1, h2, trivial⟩)
  refine acalls_st Try.func29 rfl Try.ntmps29 rfl ?_
  refine awp_seq ?_
  refine awp_regs hF ?_
  refine dv (gyes_none rfl) (q_as (v := .int .i64 0) rfl) rfl (by decide) (cok1 (cconst rfl)) ?_
  refine dv (gyes_none rfl) (q_as (v := .nilIface) rfl) rfl (by decide) (cok1 (cconst rfl)) ?_
  refine ⟨_, Wk.refl _ _, ?_⟩
  show awp _ _ _ _ _ _ _
  refine awp_seq ?_
  refine awp_regs hF ?_
  refine dv (gyes_none rfl) (q_mv (v := .pointer (some ⟨bb, 0, none⟩)) rfl) rfl (by decide) (cok1 trivial) ?_
  refine dv (gyes_none rfl) (q_call0 Try.call36 rfl (copyCheck_u bb r n (s0.rdT (j := 0) rfl))) rfl (by decide) (cok2 trivial trivial) ?_
  refine ⟨_, Wk.refl _ _, ?_⟩
  show awp _ _ _ _ _ _ _
  refine awp_seq ?_
  refine awp_regs hF ?_
  refine dv (gyes_none rfl) (q_mv (v := .pointer (some ⟨bb, 0, none⟩)) rfl) rfl (by decide) (cok1 trivial) ?_
  refine dv (gyes_none rfl) (q_mv (v := .pointer (some ⟨bb, 0, none⟩)) rfl) rfl (by decide) (cok1 trivial) ?_
  refine dv (gyes_none rfl) (q_nilCheck rfl (by rw [s0.getj (j := 0) rfl]; simp)) rfl (by decide) (cok1 trivial) ?_
  refine dv (gyes_none rfl) (q_field Try.underlying66 rfl Try.sizeOf64 rfl (s0.rdT (j := 0) rfl)) rfl (by decide) (cok1 trivial) ?_
  refine dv (gyes_none rfl) (q_load (v := .slice (some ⟨r, 0, none⟩) n n) Try.isAgg64 rfl (s0.rdT (j := 0) rfl) rfl) rfl (by decide) (cok1 trivial) ?_
  refine dv (gyes_none rfl) (q_mv (v := .string t) rfl) rfl (by decide) (cok1 trivial) ?_
  refine x_appendT [] hF s0 (by kernel_rfl) (j := 1) (n + t.size) rfl (gyes_none rfl) Try.underlying64 Try.underlying9 Try.type5 rfl rfl (by decide) rfl rfl rfl rfl hn.symm (by show (2 * _ + 1000) * 1 ≤ _; omega) trivial trivial (by decide) rfl rfl (fun b1 H2 hb4 s3 => ⟨?_, ?_⟩)
  · exact trivial
  refine dv (gyes_none rfl) (q_nilCheck rfl (by rw [s3.getj (j := 0) rfl]; simp)) rfl (by decide) (cok1 trivial) ?_
  refine dv (gyes_none rfl) (q_field Try.underlying66 rfl Try.sizeOf64 rfl (s3.rdT (j := 0) rfl)) rfl (by decide) (cok1 trivial) ?_
  refine x_store1T [] hF s3 (by kernel_rfl) (gyes_none rfl) (j := 0) (v := .slice (some ⟨b1, 0, none⟩) (n + t.size) (n + t.size)) rfl Try.sizeOf64 rfl rfl rfl (lc_slice (by rw [s3.getj (j := 1) rfl]; simp)) (Nat.le_of_ble_eq_true rfl) trivial trivial rfl rfl (F' := [(bb, .typed 66 [.pointer (some ⟨bb, 0, none⟩), .slice (some ⟨b1, 0, none⟩) (n + t.size) (n + t.size)] 2), (b1, .typed 5 ((l ++ t.data.toList).map bytv) 1)]) rfl (fun H5 s6 => ⟨?_, ?_⟩)
  · exact trivial
  refine ⟨_, Wk.refl _ _, ?_⟩
  show awp _ _ _ _ _ _ _
  refine awp_seq ?_
  refine awp_regs hF ?_
  refine dv (gyes_none rfl) (q_mv (v := .string t) rfl) rfl (by decide) (cok1 trivial) ?_
  refine dv (gyes_none rfl) (q_len_str Try.underlying9 rfl) rfl (by decide) (cok1 trivial) ?_
  refine dv (gyes_none rfl) (q_as (v := .int .i64 ((t.size : Nat) : Int)) rfl) rfl (by decide) (cok1 trivial) ?_
  refine dv (gyes_none rfl) (q_as (v := .nilIface) rfl) rfl (by decide) (cok1 (cconst rfl)) ?_
  refine ⟨_, Wk.refl _ _, ?_⟩
  show awp _ _ _ _ _ _ _
  refine awp_ret_wk ?_
  refine ⟨_, Wk.refl _ _, ?_⟩
  repeat (with_reducible first | refine then_ret ?_ | refine blk_ret ?_ | refine then_exit ?_ | refine blk_exit ?_ | refine blk_exit' (by decide) ?_ | refine blk_normal ?_ | refine then_normal ?_ | refine retq_ret ?_ | refine retq_normal ?_ | refine ng_normal ?_ | refine ng_ret ?_ | refine ng_exit ?_)
  refine ret_is (v := .tuple #[.int .i64 ((t.size : Nat) : Int), .nilIface]) rfl (.tmp rfl (.tmp rfl .nil)) rfl ?_
  exact ⟨_, rfl, s6.kp, s6.own _ (List.mem_of_getElem? (i := 1) rfl), s6.nej (i := 1) (j := 0) rfl rfl (by decide), s6.getj (j := 0) rfl, s6.getj (j := 1) rfl⟩
set_option maxRecDepth 100000 in
set_option maxHeartbeats 4000000 in
theorem bstr_ok {H0 : AHeap} (bb r n : Nat) (l : List UInt8) (hn : l.length = n) (hn0 : 0 < n) (hn1 : n ≤ 100000000) (hnd : [bb, r].Nodup) (h1 : H0[bb]? = some (.typed 66 [.pointer (some ⟨bb, 0, none⟩), .slice (some ⟨r, 0, none⟩) n n] 2)) (h2 : H0[r]? = some (.typed 5 (l.map bytv) 1)) : ACalls Try.prog 31 [.pointer (some ⟨bb, 0, none⟩)] H0 (fun v H' => v = .string ⟨l.toArray⟩ ∧ Kp (· ∈ [bb, r]) H0 H' ∧ H'[bb]? = some (.typed 66 [.pointer (some ⟨bb, 0, none⟩), .slice (some ⟨r, 0, none⟩) n n] 2) ∧ H'[r]? = some .dead) := by
  have hF : Wd Fence.wide := .inl rfl
  have hM : Try.prog.follows .mixedOrders = true := by kernel_rfl
  have hl0 : l ≠ [] := fun e => by rw [e] at hn; simp at hn; omega
  have s0 : St H0 (· ∈ [bb, r]) (Off H0 [bb, r]) H0 [(bb, .typed 66 [.pointer (some ⟨bb, 0, none⟩), .slice (some ⟨r, 0, none⟩) n n] 2), (r, .typed 5 (l.map bytv) 1)] := St.beginL [(bb, .typed 66 [.pointer (some ⟨bb, 0, none⟩), .slice (some ⟨r, 0, none⟩) n n] 2), (r, .typed 5 (l.map bytv) 1)] hnd (allAt_mem ⟨h1, h2, trivial⟩)
  refine acalls_st Try.func31 rfl Try.ntmps31 rfl ?_
  refine awp_seq ?_
  refine awp_regs hF ?_
  refine dv (gyes_none rfl) (q_as (v := .string (⟨#[]⟩ : ByteArray)) rfl) rfl (by decide) (cok1 (cconst rfl)) ?_
  refine ⟨_, Wk.refl _ _, ?_⟩
  show awp _ _ _ _ _ _ _
  refine awp_seq ?_
  refine awp_regt hF hM (by kernel_rfl) (by kernel_rfl) ?_
  refine dv (gyes_none rfl) (q_mv (v := .pointer (some ⟨bb, 0, none⟩)) rfl) rfl (by decide) (cok1 trivial) ?_
  refine dv (gyes_none rfl) (q_nilCheck rfl (by rw [s0.getj (j := 0) rfl]; simp)) rfl (by decide) (cok1 trivial) ?_
  refine dv (gyes_none rfl) (q_field Try.underlying66 rfl Try.sizeOf64 rfl (s0.rdT (j := 0) rfl)) rfl (by decide) (cok1 trivial) ?_
  refine dv (gyes_none rfl) (q_load (v := .slice (some ⟨r, 0, none⟩) n n) Try.isAgg64 rfl (s0.rdT (j := 0) rfl) rfl) rfl (by decide) (cok1 trivial) ?_
  refine dv (gyes_none rfl) (q_sliceData rfl hn0 (s0.getj (j := 1) rfl)) rfl (by decide) (cok1 trivial) ?_
  refine dv (gyes_none rfl) (q_mv (v := .pointer (some ⟨bb, 0, none⟩)) rfl) rfl (by decide) (cok1 trivial) ?_
  refine dv (gyes_none rfl) (q_nilCheck rfl (by rw [s0.getj (j := 0) rfl]; simp)) rfl (by decide) (cok1 trivial) ?_
  refine dv (gyes_none rfl) (q_field Try.underlying66 rfl Try.sizeOf64 rfl (s0.rdT (j := 0) rfl)) rfl (by decide) (cok1 trivial) ?_
  refine dv (gyes_none rfl) (q_load (v := .slice (some ⟨r, 0, none⟩) n n) Try.isAgg64 rfl (s0.rdT (j := 0) rfl) rfl) rfl (by decide) (cok1 trivial) ?_
  refine dv (gyes_none rfl) (q_len_slice Try.underlying64 rfl (s0.rdT (j := 1) rfl)) rfl (by decide) (cok1 trivial) ?_
  refine x_unsafeString [] hF s0 (by kernel_rfl) (j := 1) (gyes_none rfl) Try.underlying75 (by kernel_rfl) rfl (by show Value.int _ _ = _; rw [hn]) hl0 (by omega) rfl trivial trivial (by decide) rfl rfl (fun H1 s2 => ⟨?_, ?_⟩)
  · exact trivial
  refine dv (gyes_none rfl) (q_as (v := .string ⟨l.toArray⟩) rfl) rfl (by decide) (cok1 trivial) ?_
  refine ⟨_, Wk.refl _ _, ?_⟩
  show awp _ _ _ _ _ _ _
  refine awp_ret_wk ?_
  refine ⟨_, Wk.refl _ _, ?_⟩
  repeat (with_reducible first | refine then_ret ?_ | refine blk_ret ?_ | refine then_exit ?_ | refine blk_exit ?_ | refine blk_exit' (by decide) ?_ | refine blk_normal ?_ | refine then_normal ?_ | refine retq_ret ?_ | refine retq_normal ?_ | refine ng_normal ?_ | refine ng_ret ?_ | refine ng_exit ?_)
  refine ret_is (v := .string ⟨l.toArray⟩) rfl (.tmp rfl .nil) rfl ?_
  exact ⟨rfl, s2.kp, s2.getj (j := 0) rfl, s2.getj (j := 1) rfl⟩

end Go.Proofs.YtmoldjiooccppaaA


/-
  Walks of functions of the given program, and what they compute.
-/
namespace Go.Proofs.YtmoldjiooccppaaA
set_option linter.unusedVariables false
open Go Go.RowKit Go.Shelf Go.Proofs
set_option maxRecDepth 100000 in
set_option maxHeartbeats 4000000 in
theorem sized_ok {H0 : AHeap} (k : Nat) (h1 : 1 ≤ k) (h8 : k ≤ 8) : ACalls Try.prog 33 [.int .i64 ((k : Nat) : Int)] H0 (Rets (.bool true) H0) := by
  have hF : Wd Fence.wide := .inl rfl
  have hM : Try.prog.follows .mixedOrders = true := by kernel_rfl
  have s0 := St.begin H0
  refine acalls_st Try.func33 rfl Try.ntmps33 rfl ?_
  refine awp_seq ?_
  refine awp_regs hF ?_
  refine dv (gyes_none rfl) (q_as (v := .bool false) rfl) rfl (by decide) (cok1 (cconst rfl)) ?_
  refine ⟨_, Wk.refl _ _, ?_⟩
  show awp _ _ _ _ _ _ _
  refine awp_seq ?_
  refine awp_regs hF ?_
  refine dv (gyes_none rfl) (q_mv (v := .int .i64 ((k : Nat) : Int)) rfl) rfl (by decide) (cok1 trivial) ?_
  refine dv (gyes_none rfl) (OpQ.cast (v' := .bool true) (q_int rfl rfl rfl) (congrArg Value.bool (decide_eq_true (by omega)))) rfl (by decide) (cok2 trivial (cconst rfl)) ?_
  refine dv (gyes_none rfl) (q_mv (v := .bool true) rfl) rfl (by decide) (cok1 trivial) ?_
  refine dv (gyes_some rfl rfl) (q_mv (v := .int .i64 ((k : Nat) : Int)) rfl) rfl (by decide) (cok1 trivial) ?_
  refine dv (gyes_some rfl rfl) (OpQ.cast (v' := .bool true) (q_int rfl rfl rfl) (congrArg Value.bool (decide_eq_true (by omega)))) rfl (by decide) (cok2 trivial (cconst rfl)) ?_
  refine dv (gyes_none rfl) (q_pt (v := .bool true) rfl rfl) rfl (by decide) (call_ok rfl) ?_
  refine dv (gyes_none rfl) (q_as (v := .bool true) rfl) rfl (by decide) (cok1 trivial) ?_
  refine ⟨_, Wk.refl _ _, ?_⟩
  show awp _ _ _ _ _ _ _
  refine awp_ret_wk ?_
  refine ⟨_, Wk.refl _ _, ?_⟩
  repeat (with_reducible first | refine then_ret ?_ | refine blk_ret ?_ | refine then_exit ?_ | refine blk_exit ?_ | refine blk_exit' (by decide) ?_ | refine blk_normal ?_ | refine then_normal ?_ | refine retq_ret ?_ | refine retq_normal ?_ | refine ng_normal ?_ | refine ng_ret ?_ | refine ng_exit ?_)
  exact ret_none (v := .bool true) rfl s0.kp (.tmp rfl .nil) rfl rfl ⟨rfl, rfl⟩
theorem or_byte {n b : Nat} (h : b < 256) : n * 2 ^ 8 ||| b = b + 256 * n := by
  rw [← Nat.shiftLeft_eq, ← Nat.shiftLeft_add_eq_or_of_lt h, Nat.shiftLeft_eq]; omega
set_option maxRecDepth 100000 in
set_option maxHeartbeats 4000000 in
theorem get_ok {H0 : AHeap} (s : ByteArray) (hs : s.size ≤ 8) : ACalls Try.prog 34 [.string s] H0 (Rets (.int .u64 ((getB s : Nat) : Int)) H0) := by
  have hF : Wd Fence.wide := .inl rfl
  have hM : Try.prog.follows .mixedOrders = true := by kernel_rfl
  have s0 := St.begin H0
  refine acalls_st Try.func34 rfl Try.ntmps34 rfl ?_
  refine awp_seq ?_
  refine awp_regs hF ?_
  refine dv (gyes_none rfl) (q_as (v := .int .u64 0) rfl) rfl (by decide) (cok1 (cconst rfl)) ?_
  refine ⟨_, Wk.refl _ _, ?_⟩
  show awp _ _ _ _ _ _ _
  refine awp_seq ?_
  refine awp_seq ?_
  refine awp_regs hF ?_
  refine dv (gyes_none rfl) (q_mv (v := .string s) rfl) rfl (by decide) (cok1 trivial) ?_
  refine dv (gyes_none rfl) (q_len_str Try.underlying9 rfl) rfl (by decide) (cok1 trivial) ?_
  refine dvb (gyes_none rfl) (q_int rfl rfl rfl) rfl (by decide) (cok2 trivial (cconst rfl)) (fun c1 => ?_) (fun c1 => ?_)
  ·
    replace c1 := of_decide_eq_true c1
    exfalso; omega
  ·
    replace c1 := of_decide_eq_false c1
    refine ⟨_, Wk.refl _ _, ?_⟩
    show awp _ _ _ _ _ _ _
    refine awp_cond_f rfl ?_
    refine awp_skip_wk ?_
    refine ⟨_, Wk.refl _ _, ?_⟩
    show awp _ _ _ _ _ _ _
    refine awp_seq ?_
    refine awp_regs hF ?_
    refine dv (gyes_none rfl) (q_as (v := .int .u64 0) rfl) rfl (by decide) (cok1 (cconst rfl)) ?_
    refine ⟨_, Wk.refl _ _, ?_⟩
    show awp _ _ _ _ _ _ _
    refine awp_seq ?_
    refine awp_seq ?_
    refine awp_regs hF ?_
    refine dv (gyes_none rfl) (q_mv (v := .string s) rfl) rfl (by decide) (cok1 trivial) ?_
    refine dv (gyes_none rfl) (q_len_str Try.underlying9 rfl) rfl (by decide) (cok1 trivial) ?_
    refine dv (gyes_none rfl) (OpQ.cast (v' := .int .i64 (((s.size : Nat) : Int) - 1)) (q_int rfl rfl rfl) (congrArg _ (i64_in (by omega)))) rfl (by decide) (cok2 trivial (cconst rfl)) ?_
    refine dv (gyes_none rfl) (q_as (v := .int .i64 (((s.size : Nat) : Int) - 1)) rfl) rfl (by decide) (cok1 trivial) ?_
    refine ⟨_, Wk.refl _ _, ?_⟩
    show awp _ _ _ _ _ _ _
    refine awp_block ?_
    refine awp_wk (Wk.U [(0, .string s), (3, .int .u64 0), (4, .int .i64 (((s.size : Nat) : Int) - 1))] ⟨rfl, rfl, rfl, trivial⟩) ?_
    refine awp_loop (fun ((i, n) : Int × Nat) st => ∃ (H1 : AHeap), st = ⟨23, U [(0, .string s), (3, .int .u64 ((n : Nat) : Int)), (4, .int .i64 i)], [], H1⟩ ∧ St H0 (none0) (Rd H0) H1 [] ∧ (-1 ≤ i ∧ i < s.size ∧ n = getN ((bl s).drop (i + 1).toNat) ∧ n < 256 ^ (s.size - (i + 1).toNat))) (fun ((i, n) : Int × Nat) => (i + 1).toNat) (x0 := ((((s.size : Nat) : Int) - 1), 0)) ?h0 ?round
    case h0 =>
      exact ⟨_, rfl, s0, ⟨by omega, by omega, by rw [List.drop_eq_nil_iff.2 (by rw [bl_length]; omega)]; rfl, Nat.pow_pos (by decide)⟩⟩
    case round =>
      rintro ⟨i, n⟩ _ ⟨H1, rfl, s2, hn⟩
      dsimp only at *
      refine awp_seq ?_
      refine awp_seq ?_
      refine awp_regs hF ?_
      refine dv (gyes_none rfl) (q_mv (v := .int .i64 i) rfl) rfl (by decide) (cok1 trivial) ?_
      refine dvb (gyes_none rfl) (q_int rfl rfl rfl) rfl (by decide) (cok2 trivial (cconst rfl)) (fun c2 => ?_) (fun c2 => ?_)
      ·
        replace c2 := of_decide_eq_true c2
        have hb := byt_lt s i.toNat
        have hn7 : n < 72057594037927936 := Nat.lt_of_lt_of_le hn.2.2.2 (Nat.pow_le_pow_right (by decide) (by omega) : 256 ^ _ ≤ 256 ^ 7)
        refine ⟨_, Wk.refl _ _, ?_⟩
        show awp _ _ _ _ _ _ _
        refine awp_cond_t rfl ?_
        refine awp_skip_wk ?_
        refine ⟨_, Wk.refl _ _, ?_⟩
        show awp _ _ _ _ _ _ _
        refine awp_seq ?_
        refine awp_block ?_
        refine awp_regs hF ?_
        refine dv (gyes_none rfl) (q_mv (v := .int .u64 ((n : Nat) : Int)) rfl) rfl (by decide) (cok1 trivial) ?_
        refine dv (gyes_none rfl) (q_shlN (a := n) (c := 8) rfl rfl rfl (by decide) (by show n * 2 ^ 8 < 2 ^ 64; omega)) rfl (by decide) (cok2 trivial (cconst rfl)) ?_
        refine dv (gyes_none rfl) (q_mv (v := .string s) rfl) rfl (by decide) (cok1 trivial) ?_
        refine dv (gyes_none rfl) (q_mv (v := .int .i64 i) rfl) rfl (by decide) (cok1 trivial) ?_
        refine dv (gyes_none rfl) (q_bytI (z := i) Try.underlying9 rfl rfl (by omega) (by omega)) rfl (by decide) (cok2 trivial trivial) ?_
        refine dv (gyes_none rfl) (q_convin (a := ((byt s (i.toNat) : Nat) : Int)) Try.underlying5 Try.underlying42 rfl (u64_in (by omega))) rfl (by decide) (cok1 trivial) ?_
        refine dv (gyes_none rfl) (OpQ.cast (v' := .int .u64 ((byt s i.toNat + 256 * n : Nat) : Int)) (q_orN (a := (n * 2 ^ 8)) (b := (byt s (i.toNat))) rfl rfl rfl (by show n * 2 ^ 8 < 2 ^ 64; omega) (by show _ < 2 ^ 64; omega)) (congrArg _ (congrArg _ (or_byte hb)))) rfl (by decide) (cok2 trivial trivial) ?_
        refine dv (gyes_none rfl) (q_as (v := .int .u64 ((byt s i.toNat + 256 * n : Nat) : Int)) rfl) rfl (by decide) (cok1 trivial) ?_
        refine ⟨_, Wk.refl _ _, ?_⟩
        show awp _ _ _ _ _ _ _
        refine awp_regs hF ?_
        refine dv (gyes_none rfl) (q_mv (v := .int .i64 i) rfl) rfl (by decide) (cok1 trivial) ?_
        refine dv (gyes_none rfl) (OpQ.cast (v' := .int .i64 (i - 1)) (q_int rfl rfl rfl) (congrArg _ (i64_in (by omega)))) rfl (by decide) (cok2 trivial (cconst rfl)) ?_
        refine dv (gyes_none rfl) (q_as (v := .int .i64 (i - 1)) rfl) rfl (by decide) (cok1 trivial) ?_
        refine ⟨_, Wk.U [(0, .string s), (3, .int .u64 (((byt s i.toNat + 256 * n) : Nat) : Int)), (4, .int .i64 (i - 1))] ⟨rfl, rfl, rfl, trivial⟩, ((i - 1), (byt s i.toNat + 256 * n)), ⟨_, rfl, s2, ⟨by omega, by omega, by dsimp only; rw [show (i - 1 + 1).toNat = i.toNat by omega, getN_step (by omega), hn.2.2.1, show i.toNat + 1 = (i + 1).toNat by omega], by
              dsimp only
              have h1 : 256 ^ (s.size - (i - 1 + 1).toNat) = 256 ^ (s.size - (i + 1).toNat) * 256 := by rw [← Nat.pow_succ]; congr 1; omega
              have := hn.2.2.2
              omega⟩⟩, (by omega)⟩
      ·
        replace c2 := of_decide_eq_false c2
        refine ⟨_, Wk.refl _ _, ?_⟩
        show awp _ _ _ _ _ _ _
        refine awp_cond_f rfl ?_
        refine awp_exit_wk ?_
        refine ⟨_, Wk.refl _ _, ?_⟩
        show awp _ _ _ _ _ _ _
        refine awp_seq ?_
        refine awp_regs hF ?_
        refine dv (gyes_none rfl) (q_mv (v := .int .u64 ((n : Nat) : Int)) rfl) rfl (by decide) (cok1 trivial) ?_
        refine dv (gyes_none rfl) (q_as (v := .int .u64 ((n : Nat) : Int)) rfl) rfl (by decide) (cok1 trivial) ?_
        refine ⟨_, Wk.refl _ _, ?_⟩
        show awp _ _ _ _ _ _ _
        refine awp_ret_wk ?_
        refine ⟨_, Wk.refl _ _, ?_⟩
        repeat (with_reducible first | refine then_ret ?_ | refine blk_ret ?_ | refine then_exit ?_ | refine blk_exit ?_ | refine blk_exit' (by decide) ?_ | refine blk_normal ?_ | refine then_normal ?_ | refine retq_ret ?_ | refine retq_normal ?_ | refine ng_normal ?_ | refine ng_ret ?_ | refine ng_exit ?_)
        exact ret_none (v := .int .u64 ((n : Nat) : Int)) rfl s2.kp (.tmp rfl .nil) rfl rfl ⟨by rw [hn.2.2.1, show (i + 1).toNat = 0 by omega]; rfl, rfl⟩
set_option maxRecDepth 100000 in
set_option maxHeartbeats 4000000 in
theorem part_ok {H0 : AHeap} (s : ByteArray) (a n : Nat) (hs : s.size ≤ 140737488355328) (ha : a < 18446744073709551616) (hn : n < 18446744073709551616) : ACalls Try.prog 25 [.string s, .int .u64 ((a : Nat) : Int), .int .u64 ((n : Nat) : Int)] H0 (Rets (.tuple #[.string (partV s a n), .bool (decide (a + n ≤ s.size))]) H0) := by
  have hF : Wd Fence.wide := .inl rfl
  have hM : Try.prog.follows .mixedOrders = true := by kernel_rfl
  have s0 := St.begin H0
  refine acalls_st Try.func25 rfl Try.ntmps25 rfl ?_
  refine awp_seq ?_
  refine awp_regs hF ?_
  refine dv (gyes_none rfl) (q_as (v := .string (⟨#[]⟩ : ByteArray)) rfl) rfl (by decide) (cok1 (cconst rfl)) ?_
  refine dv (gyes_none rfl) (q_as (v := .bool false) rfl) rfl (by decide) (cok1 (cconst rfl)) ?_
  refine ⟨_, Wk.refl _ _, ?_⟩
  show awp _ _ _ _ _ _ _
  refine awp_seq ?_
  refine awp_regs hF ?_
  refine dv (gyes_none rfl) (q_mv (v := .string s) rfl) rfl (by decide) (cok1 trivial) ?_
  refine dv (gyes_none rfl) (q_len_str Try.underlying9 rfl) rfl (by decide) (cok1 trivial) ?_
  refine dv (gyes_none rfl) (q_convin (a := ((s.size : Nat) : Int)) Try.underlying3 Try.underlying42 rfl (u64_in (by omega))) rfl (by decide) (cok1 trivial) ?_
  refine dv (gyes_none rfl) (q_as (v := .int .u64 ((s.size : Nat) : Int)) rfl) rfl (by decide) (cok1 trivial) ?_
  refine ⟨_, Wk.refl _ _, ?_⟩
  show awp _ _ _ _ _ _ _
  refine awp_seq ?_
  refine awp_seq ?_
  refine awp_regs hF ?_
  refine dv (gyes_none rfl) (q_mv (v := .int .u64 ((a : Nat) : Int)) rfl) rfl (by decide) (cok1 trivial) ?_
  refine dv (gyes_none rfl) (q_mv (v := .int .u64 ((s.size : Nat) : Int)) rfl) rfl (by decide) (cok1 trivial) ?_
  refine dvb (gyes_none rfl) (q_int rfl rfl rfl) rfl (by decide) (cok2 trivial trivial) (fun c1 => ?_) (fun c1 => ?_)
  ·
    replace c1 := of_decide_eq_true c1
    refine dv (gyes_none rfl) (q_mv (v := .bool true) rfl) rfl (by decide) (cok1 trivial) ?_
    refine dno rfl (.inl rfl) rfl (by decide) ?_
    refine dno rfl (.inl rfl) rfl (by decide) ?_
    refine dno rfl (.inl rfl) rfl (by decide) ?_
    refine dno rfl (.inl rfl) rfl (by decide) ?_
    refine dno rfl (.inl rfl) rfl (by decide) ?_
    refine dv (gyes_none rfl) (q_pt (v := .bool true) rfl rfl) rfl (by decide) (call_ok rfl) ?_
    refine ⟨_, Wk.refl _ _, ?_⟩
    show awp _ _ _ _ _ _ _
    refine awp_cond_t rfl ?_
    refine awp_seq ?_
    refine awp_regs hF ?_
    refine dv (gyes_none rfl) (q_as (v := .string (⟨#[]⟩ : ByteArray)) rfl) rfl (by decide) (cok1 (cconst rfl)) ?_
    refine dv (gyes_none rfl) (q_as (v := .bool false) rfl) rfl (by decide) (cok1 (cconst rfl)) ?_
    refine ⟨_, Wk.refl _ _, ?_⟩
    show awp _ _ _ _ _ _ _
    refine awp_ret_wk ?_
    refine ⟨_, Wk.refl _ _, ?_⟩
    repeat (with_reducible first | refine then_ret ?_ | refine blk_ret ?_ | refine then_exit ?_ | refine blk_exit ?_ | refine blk_exit' (by decide) ?_ | refine blk_normal ?_ | refine then_normal ?_ | refine retq_ret ?_ | refine retq_normal ?_ | refine ng_normal ?_ | refine ng_ret ?_ | refine ng_exit ?_)
    exact ret_none (v := .tuple #[.string (⟨#[]⟩ : ByteArray), .bool false]) rfl s0.kp (.tmp rfl (.tmp rfl .nil)) rfl rfl ⟨by rw [partV_out (by omega), decide_eq_false (by omega)], rfl⟩
  ·
    replace c1 := of_decide_eq_false c1
    refine dv (gyes_none rfl) (q_mv (v := .bool false) rfl) rfl (by decide) (cok1 trivial) ?_
    refine dv (gyes_some rfl rfl) (q_mv (v := .int .u64 ((n : Nat) : Int)) rfl) rfl (by decide) (cok1 trivial) ?_
    refine dv (gyes_some rfl rfl) (q_mv (v := .int .u64 ((s.size : Nat) : Int)) rfl) rfl (by decide) (cok1 trivial) ?_
    refine dv (gyes_some rfl rfl) (q_mv (v := .int .u64 ((a : Nat) : Int)) rfl) rfl (by decide) (cok1 trivial) ?_
    refine dv (gyes_some rfl rfl) (OpQ.cast (v' := .int .u64 ((s.size - a : Nat) : Int)) (q_int rfl rfl rfl) (congrArg _ ((u64_in (by omega)).trans (by omega)))) rfl (by decide) (cok2 trivial trivial) ?_
    refine dvb (gyes_some rfl rfl) (q_int rfl rfl rfl) rfl (by decide) (cok2 trivial trivial) (fun c2 => ?_) (fun c2 => ?_)
    ·
      replace c2 := of_decide_eq_true c2
      refine dv (gyes_none rfl) (q_pf (v := .bool true) rfl rfl) rfl (by decide) (call_ok rfl) ?_
      refine ⟨_, Wk.refl _ _, ?_⟩
      show awp _ _ _ _ _ _ _
      refine awp_cond_t rfl ?_
      refine awp_seq ?_
      refine awp_regs hF ?_
      refine dv (gyes_none rfl) (q_as (v := .string (⟨#[]⟩ : ByteArray)) rfl) rfl (by decide) (cok1 (cconst rfl)) ?_
      refine dv (gyes_none rfl) (q_as (v := .bool false) rfl) rfl (by decide) (cok1 (cconst rfl)) ?_
      refine ⟨_, Wk.refl _ _, ?_⟩
      show awp _ _ _ _ _ _ _
      refine awp_ret_wk ?_
      refine ⟨_, Wk.refl _ _, ?_⟩
      repeat (with_reducible first | refine then_ret ?_ | refine blk_ret ?_ | refine then_exit ?_ | refine blk_exit ?_ | refine blk_exit' (by decide) ?_ | refine blk_normal ?_ | refine then_normal ?_ | refine retq_ret ?_ | refine retq_normal ?_ | refine ng_normal ?_ | refine ng_ret ?_ | refine ng_exit ?_)
      exact ret_none (v := .tuple #[.string (⟨#[]⟩ : ByteArray), .bool false]) rfl s0.kp (.tmp rfl (.tmp rfl .nil)) rfl rfl ⟨by rw [partV_out (by omega), decide_eq_false (by omega)], rfl⟩
    ·
      replace c2 := of_decide_eq_false c2
      refine dv (gyes_none rfl) (q_pf (v := .bool false) rfl rfl) rfl (by decide) (call_ok rfl) ?_
      refine ⟨_, Wk.refl _ _, ?_⟩
      show awp _ _ _ _ _ _ _
      refine awp_cond_f rfl ?_
      refine awp_skip_wk ?_
      refine ⟨_, Wk.refl _ _, ?_⟩
      show awp _ _ _ _ _ _ _
      refine awp_seq ?_
      refine awp_regs hF ?_
      refine dv (gyes_none rfl) (q_mv (v := .string s) rfl) rfl (by decide) (cok1 trivial) ?_
      refine dv (gyes_none rfl) (q_mv (v := .int .u64 ((a : Nat) : Int)) rfl) rfl (by decide) (cok1 trivial) ?_
      refine dv (gyes_none rfl) (q_mv (v := .int .u64 ((a : Nat) : Int)) rfl) rfl (by decide) (cok1 trivial) ?_
      refine dv (gyes_none rfl) (q_mv (v := .int .u64 ((n : Nat) : Int)) rfl) rfl (by decide) (cok1 trivial) ?_
      refine dv (gyes_none rfl) (OpQ.cast (v' := .int .u64 ((a + n : Nat) : Int)) (q_int rfl rfl rfl) (congrArg _ ((u64_in (by omega)).trans (by first | rfl | omega | (push_cast; rfl))))) rfl (by decide) (cok2 trivial trivial) ?_
      refine dv (gyes_none rfl) (q_substr (i := a) (j := (a + n)) Try.underlying9 rfl ⟨_, rfl⟩ ⟨_, rfl⟩ (by omega) (by omega)) rfl (by decide) (call_ok rfl) ?_
      refine dv (gyes_none rfl) (q_as (v := .string (s.extract a (a + n))) rfl) rfl (by decide) (cok1 trivial) ?_
      refine dv (gyes_none rfl) (q_as (v := .bool true) rfl) rfl (by decide) (cok1 (cconst rfl)) ?_
      refine ⟨_, Wk.refl _ _, ?_⟩
      show awp _ _ _ _ _ _ _
      refine awp_ret_wk ?_
      refine ⟨_, Wk.refl _ _, ?_⟩
      repeat (with_reducible first | refine then_ret ?_ | refine blk_ret ?_ | refine then_exit ?_ | refine blk_exit ?_ | refine blk_exit' (by decide) ?_ | refine blk_normal ?_ | refine then_normal ?_ | refine retq_ret ?_ | refine retq_normal ?_ | refine ng_normal ?_ | refine ng_ret ?_ | refine ng_exit ?_)
      exact ret_none (v := .tuple #[.string (s.extract a (a + n)), .bool true]) rfl s0.kp (.tmp rfl (.tmp rfl .nil)) rfl rfl ⟨by rw [partV_in (by omega), decide_eq_true (by omega)], rfl⟩
set_option maxRecDepth 100000 in
set_option maxHeartbeats 4000000 in
theorem at_ok {H0 : AHeap} (s : ByteArray) (a k : Nat) (hs : s.size ≤ 140737488355328) (ha : a < 18446744073709551616) (h1 : 1 ≤ k) (h8 : k ≤ 8) : ACalls Try.prog 23 [.string s, .int .u64 ((a : Nat) : Int), .int .i64 ((k : Nat) : Int)] H0 (Rets (.tuple #[.int .u64 ((atV s a k : Nat) : Int), .bool (decide (a + k ≤ s.size))]) H0) := by
  have hF : Wd Fence.wide := .inl rfl
  have hM : Try.prog.follows .mixedOrders = true := by kernel_rfl
  have s0 := St.begin H0
  refine acalls_st Try.func23 rfl Try.ntmps23 rfl ?_
  refine awp_seq ?_
  refine awp_regs hF ?_
  refine dv (gyes_none rfl) (q_as (v := .int .u64 0) rfl) rfl (by decide) (cok1 (cconst rfl)) ?_
  refine dv (gyes_none rfl) (q_as (v := .bool false) rfl) rfl (by decide) (cok1 (cconst rfl)) ?_
  refine ⟨_, Wk.refl _ _, ?_⟩
  show awp _ _ _ _ _ _ _
  refine awp_seq ?_
  refine awp_seq ?_
  refine awp_regs hF ?_
  refine dv (gyes_none rfl) (q_mv (v := .int .i64 ((k : Nat) : Int)) rfl) rfl (by decide) (cok1 trivial) ?_
  refine dv (gyes_none rfl) (q_call0 Try.call33 rfl (sized_ok k (by omega) (by omega))) rfl (by decide) (cok2 trivial trivial) ?_
  refine dv (gyes_none rfl) (q_not (b := true) rfl) rfl (by decide) (cok1 trivial) ?_
  refine ⟨_, Wk.refl _ _, ?_⟩
  show awp _ _ _ _ _ _ _
  refine awp_cond_f rfl ?_
  refine awp_skip_wk ?_
  refine ⟨_, Wk.refl _ _, ?_⟩
  show awp _ _ _ _ _ _ _
  refine awp_seq ?_
  refine awp_regs hF ?_
  refine dv (gyes_none rfl) (q_mv (v := .string s) rfl) rfl (by decide) (cok1 trivial) ?_
  refine dv (gyes_none rfl) (q_mv (v := .int .u64 ((a : Nat) : Int)) rfl) rfl (by decide) (cok1 trivial) ?_
  refine dv (gyes_none rfl) (q_mv (v := .int .i64 ((k : Nat) : Int)) rfl) rfl (by decide) (cok1 trivial) ?_
  refine dv (gyes_none rfl) (q_convin (a := ((k : Nat) : Int)) Try.underlying3 Try.underlying42 rfl (u64_in (by omega))) rfl (by decide) (cok1 trivial) ?_
  refine dv (gyes_none rfl) (q_call0 Try.call25 rfl (part_ok s a k (by first | assumption | omega) (by omega) (by omega))) rfl (by decide) (call_ok rfl) ?_
  refine dv (gyes_none rfl) (q_mv (v := .tuple #[.string (partV s a k), .bool (decide (a + k ≤ s.size))]) rfl) rfl (by decide) (cok1 trivial) ?_
  refine dv (gyes_none rfl) (q_extract (v := .string (partV s a k)) rfl rfl) rfl (by decide) (cok1 trivial) ?_
  refine dv (gyes_none rfl) (q_extract (v := .bool (decide (a + k ≤ s.size))) rfl rfl) rfl (by decide) (cok1 trivial) ?_
  refine dv (gyes_none rfl) (q_as (v := .string (partV s a k)) rfl) rfl (by decide) (cok1 trivial) ?_
  refine dv (gyes_none rfl) (q_as (v := .bool (decide (a + k ≤ s.size))) rfl) rfl (by decide) (cok1 trivial) ?_
  refine ⟨_, Wk.refl _ _, ?_⟩
  show awp _ _ _ _ _ _ _
  refine awp_seq ?_
  refine awp_regs hF ?_
  refine dv (gyes_none rfl) (q_mv (v := .string (partV s a k)) rfl) rfl (by decide) (cok1 trivial) ?_
  refine dv (gyes_none rfl) (q_call0 Try.call34 rfl (get_ok (partV s a k) (Nat.le_trans partV_size h8))) rfl (by decide) (cok2 trivial trivial) ?_
  refine dv (gyes_none rfl) (q_mv (v := .bool (decide (a + k ≤ s.size))) rfl) rfl (by decide) (cok1 trivial) ?_
  refine dv (gyes_none rfl) (q_as (v := .int .u64 ((getB (partV s a k) : Nat) : Int)) rfl) rfl (by decide) (cok1 trivial) ?_
  refine dv (gyes_none rfl) (q_as (v := .bool (decide (a + k ≤ s.size))) rfl) rfl (by decide) (cok1 trivial) ?_
  refine ⟨_, Wk.refl _ _, ?_⟩
  show awp _ _ _ _ _ _ _
  refine awp_ret_wk ?_
  refine ⟨_, Wk.refl _ _, ?_⟩
  repeat (with_reducible first | refine then_ret ?_ | refine blk_ret ?_ | refine then_exit ?_ | refine blk_exit ?_ | refine blk_exit' (by decide) ?_ | refine blk_normal ?_ | refine then_normal ?_ | refine retq_ret ?_ | refine retq_normal ?_ | refine ng_normal ?_ | refine ng_ret ?_ | refine ng_exit ?_)
  exact ret_none (v := .tuple #[.int .u64 ((getB (partV s a k) : Nat) : Int), .bool (decide (a + k ≤ s.size))]) rfl s0.kp (.tmp rfl (.tmp rfl .nil)) rfl rfl ⟨by rw [getB_part], rfl⟩
theorem putL_snoc (i : Nat) : ∀ n, putL n (i + 1) = putL n i ++ [UInt8.ofNat (n / 256 ^ i)] := by
  induction i with
  | zero => intro n; simp [putL]
  | succ i ih => intro n; rw [putL, ih, putL]; simp only [List.cons_append]; rw [Nat.div_div_eq_div_mul, ← Nat.pow_succ']
theorem putL_set {n i k : Nat} (h : i < k) : (putL n i ++ List.replicate (k - i) (0 : UInt8)).set i (UInt8.ofNat (n / 2 ^ (8 * i))) = putL n (i + 1) ++ List.replicate (k - (i + 1)) 0 := by
  rw [show k - i = (k - (i + 1)) + 1 by omega, List.replicate_succ, putL_snoc, List.set_append_right _ _ (by rw [putL_length]; exact Nat.le_refl _), putL_length, Nat.sub_self, List.set_cons_zero, Nat.pow_mul, List.append_assoc]
  rfl
set_option maxRecDepth 100000 in
set_option maxHeartbeats 4000000 in
theorem put_ok {H0 : AHeap} (n k : Nat) (hn : n < 18446744073709551616) (h1 : 1 ≤ k) (h8 : k ≤ 8) : ACalls Try.prog 30 [.int .u64 ((n : Nat) : Int), .int .i64 ((k : Nat) : Int)] H0 (Rets (.string (putB n k)) H0) := by
  have hF : Wd Fence.wide := .inl rfl
  have hM : Try.prog.follows .mixedOrders = true := by kernel_rfl
  have s0 := St.begin H0
  refine acalls_st Try.func30 rfl Try.ntmps30 rfl ?_
  refine awp_seq ?_
  refine awp_regs hF ?_
  refine dv (gyes_none rfl) (q_as (v := .string (⟨#[]⟩ : ByteArray)) rfl) rfl (by decide) (cok1 (cconst rfl)) ?_
  refine ⟨_, Wk.refl _ _, ?_⟩
  show awp _ _ _ _ _ _ _
  refine awp_seq ?_
  refine awp_seq ?_
  refine awp_regs hF ?_
  refine dv (gyes_none rfl) (q_mv (v := .int .i64 ((k : Nat) : Int)) rfl) rfl (by decide) (cok1 trivial) ?_
  refine dv (gyes_none rfl) (q_call0 Try.call33 rfl (sized_ok k (by omega) (by omega))) rfl (by decide) (cok2 trivial trivial) ?_
  refine dv (gyes_none rfl) (q_not (b := true) rfl) rfl (by decide) (cok1 trivial) ?_
  refine ⟨_, Wk.refl _ _, ?_⟩
  show awp _ _ _ _ _ _ _
  refine awp_cond_f rfl ?_
  refine awp_skip_wk ?_
  refine ⟨_, Wk.refl _ _, ?_⟩
  show awp _ _ _ _ _ _ _
  refine awp_seq ?_
  refine awp_regs hF ?_
  refine dv (gyes_none rfl) (q_mv (v := .int .i64 ((k : Nat) : Int)) rfl) rfl (by decide) (cok1 trivial) ?_
  refine x_new (fun b => .slice (some ⟨b, 0, none⟩) k k) s0 (gyes_none rfl) (q_makeSlice1 (len := k) (m := k) rfl Try.underlying64 Try.typeInfo5 rfl Try.zeroValue5 rfl rfl rfl rfl (by omega) (by omega) (by show 1 * _ ≤ _; omega) (vs := (List.replicate k (0 : UInt8)).map bytv) (by simp [bytv])) rfl (by decide) (cok2 trivial trivial) (fun b1 H2 hb4 s3 => ?_)
  refine dv (gyes_none rfl) (q_as (v := .slice (some ⟨b1, 0, none⟩) k k) rfl) rfl (by decide) (cok1 trivial) ?_
  refine ⟨_, Wk.refl _ _, ?_⟩
  show awp _ _ _ _ _ _ _
  refine awp_seq ?_
  refine awp_seq ?_
  refine awp_regs hF ?_
  refine dv (gyes_none rfl) (q_mv (v := .slice (some ⟨b1, 0, none⟩) k k) rfl) rfl (by decide) (cok1 trivial) ?_
  refine dv (gyes_none rfl) (q_len_slice Try.underlying64 rfl (s3.rd (j := 0) rfl)) rfl (by decide) (cok1 trivial) ?_
  refine dv (gyes_none rfl) (q_mv (v := .int .i64 0) rfl) rfl (by decide) (cok1 (cconst rfl)) ?_
  refine ⟨_, Wk.refl _ _, ?_⟩
  show awp _ _ _ _ _ _ _
  refine awp_block ?_
  refine awp_wk (Wk.U [(0, .int .u64 ((n : Nat) : Int)), (1, .int .i64 ((k : Nat) : Int)), (5, .slice (some ⟨b1, 0, none⟩) k k), (13, .int .i64 ((k : Nat) : Int)), (14, .int .i64 0)] ⟨rfl, rfl, rfl, rfl, rfl, trivial⟩) ?_
  refine awp_loop (fun ((i, l) : Nat × (List UInt8)) st => ∃ (H5 : AHeap) (b : Nat), st = ⟨28, U [(0, .int .u64 ((n : Nat) : Int)), (1, .int .i64 ((k : Nat) : Int)), (5, .slice (some ⟨b, 0, none⟩) k k), (13, .int .i64 ((k : Nat) : Int)), (14, .int .i64 ((i : Nat) : Int))], [], H5⟩ ∧ St H0 (none0) (Rd H0) H5 [(b, .cells true (l.map bytv) 1)] ∧ (i ≤ k ∧ l = putL n i ++ List.replicate (k - i) (0 : UInt8))) (fun ((i, l) : Nat × (List UInt8)) => k - i) (x0 := (0, (List.replicate k (0 : UInt8)))) ?h0 ?round
  case h0 =>
    exact ⟨_, _, rfl, s3, ⟨Nat.zero_le _, rfl⟩⟩
  case round =>
    rintro ⟨i, l⟩ _ ⟨H5, b, rfl, s6, hl⟩
    dsimp only at *
    have hll : l.length = k := by rw [hl.2, List.length_append, putL_length, List.length_replicate]; omega
    refine awp_seq ?_
    refine awp_regs hF ?_
    refine dvb (gyes_none rfl) (q_int rfl rfl rfl) rfl (by decide) (cok2 trivial trivial) (fun c1 => ?_) (fun c1 => ?_)
    ·
      replace c1 := of_decide_eq_true c1
      refine ⟨_, Wk.refl _ _, ?_⟩
      show awp _ _ _ _ _ _ _
      refine awp_seq ?_
      refine awp_cond_t rfl ?_
      refine awp_skip_wk ?_
      refine ⟨_, Wk.refl _ _, ?_⟩
      show awp _ _ _ _ _ _ _
      refine awp_seq ?_
      refine awp_block ?_
      refine awp_seq ?_
      refine awp_regs hF ?_
      refine dv (gyes_none rfl) (q_mv (v := .int .i64 ((i : Nat) : Int)) rfl) rfl (by decide) (cok1 trivial) ?_
      refine dv (gyes_none rfl) (q_as (v := .int .i64 ((i : Nat) : Int)) rfl) rfl (by decide) (cok1 trivial) ?_
      refine ⟨_, Wk.refl _ _, ?_⟩
      show awp _ _ _ _ _ _ _
      refine awp_regs hF ?_
      refine dv (gyes_none rfl) (q_mv (v := .slice (some ⟨b, 0, none⟩) k k) rfl) rfl (by decide) (cok1 trivial) ?_
      refine dv (gyes_none rfl) (q_mv (v := .int .i64 ((i : Nat) : Int)) rfl) rfl (by decide) (cok1 trivial) ?_
      refine dv (gyes_none rfl) (q_mv (v := .int .u64 ((n : Nat) : Int)) rfl) rfl (by decide) (cok1 trivial) ?_
      refine dv (gyes_none rfl) (q_mv (v := .int .i64 ((i : Nat) : Int)) rfl) rfl (by decide) (cok1 trivial) ?_
      refine dv (gyes_none rfl) (OpQ.cast (v' := .int .i64 ((8 * i : Nat) : Int)) (q_int rfl rfl rfl) (congrArg _ ((i64_in (by omega)).trans (by first | rfl | omega | (push_cast; rfl))))) rfl (by decide) (cok2 (cconst rfl) trivial) ?_
      refine dv (gyes_none rfl) (q_shrN (a := n) (c := (8 * i)) rfl rfl (by show n < 2 ^ 64; omega)) rfl (by decide) (cok2 trivial trivial) ?_
      refine dv (gyes_none rfl) (OpQ.cast (v' := .int .u8 (((n / 2 ^ (8 * i)) % 256 : Nat) : Int)) (q_conv Try.underlying42 Try.underlying5 rfl) (congrArg _ (wrapU8 (n / 2 ^ (8 * i))))) rfl (by decide) (cok1 trivial) ?_
      refine dv (gyes_none rfl) (OpQ.cast (v' := .pointer (some ⟨b, i, none⟩)) (q_index1 (i := i) Try.underlying64 Try.sizeOf5 rfl rfl (by omega) (s6.rd (j := 0) rfl)) (by rw [Nat.zero_add])) rfl (by decide) (cok2 trivial trivial) ?_
      refine x_store1 [] hF s6 (by kernel_rfl) (gyes_none rfl) (j := 0) (v := bytv (UInt8.ofNat (n / 2 ^ (8 * i)))) rfl Try.sizeOf5 rfl rfl rfl (lc_scalar rfl) (by rw [List.length_map]; omega) trivial trivial rfl rfl (F' := [(b, .cells true ((l.set i (UInt8.ofNat (n / 2 ^ (8 * i)))).map bytv) 1)]) (by simp only [set_map1]; rfl) (fun H7 s8 => ⟨?_, ?_⟩)
      · exact trivial
      refine ⟨_, Wk.refl _ _, ?_⟩
      show awp _ _ _ _ _ _ _
      refine awp_regs hF ?_
      refine dv (gyes_none rfl) (OpQ.cast (v' := .int .i64 ((i + 1 : Nat) : Int)) (q_int rfl rfl rfl) (congrArg _ ((i64_in (by omega)).trans (by first | rfl | omega | (push_cast; rfl))))) rfl (by decide) (cok2 trivial (cconst rfl)) ?_
      refine dv (gyes_none rfl) (q_mv (v := .int .i64 ((i + 1 : Nat) : Int)) rfl) rfl (by decide) (cok1 trivial) ?_
      refine ⟨_, Wk.U [(0, .int .u64 ((n : Nat) : Int)), (1, .int .i64 ((k : Nat) : Int)), (5, .slice (some ⟨b, 0, none⟩) k k), (13, .int .i64 ((k : Nat) : Int)), (14, .int .i64 (((i + 1) : Nat) : Int))] ⟨rfl, rfl, rfl, rfl, rfl, trivial⟩, ((i + 1), (l.set i (UInt8.ofNat (n / 2 ^ (8 * i))))), ⟨_, _, rfl, s8, ⟨by omega, by rw [hl.2]; exact putL_set (by omega)⟩⟩, (by omega)⟩
    ·
      replace c1 := of_decide_eq_false c1
      refine ⟨_, Wk.refl _ _, ?_⟩
      show awp _ _ _ _ _ _ _
      refine awp_seq ?_
      refine awp_cond_f rfl ?_
      refine awp_exit_wk ?_
      refine ⟨_, Wk.refl _ _, ?_⟩
      show awp _ _ _ _ _ _ _
      refine awp_seq ?_
      refine awp_regs hF ?_
      refine dv (gyes_none rfl) (q_mv (v := .slice (some ⟨b, 0, none⟩) k k) rfl) rfl (by decide) (cok1 trivial) ?_
      refine dv (gyes_none rfl) (q_bytesl (l := l) Try.underlying64 Try.underlying9 Try.underlying5 rfl (s6.rd (j := 0) rfl) hll) rfl (by decide) (cok1 trivial) ?_
      refine dv (gyes_none rfl) (q_as (v := .string (bytesOf l)) rfl) rfl (by decide) (cok1 trivial) ?_
      refine ⟨_, Wk.refl _ _, ?_⟩
      show awp _ _ _ _ _ _ _
      refine awp_ret_wk ?_
      refine ⟨_, Wk.refl _ _, ?_⟩
      repeat (with_reducible first | refine then_ret ?_ | refine blk_ret ?_ | refine then_exit ?_ | refine blk_exit ?_ | refine blk_exit' (by decide) ?_ | refine blk_normal ?_ | refine then_normal ?_ | refine retq_ret ?_ | refine retq_normal ?_ | refine ng_normal ?_ | refine ng_ret ?_ | refine ng_exit ?_)
      exact ret_none (v := .string (bytesOf l)) rfl s6.kp (.tmp rfl .nil) rfl rfl ⟨by rw [hl.2, show i = k by omega, Nat.sub_self]; simp [putB, bytesOf], rfl⟩
set_option maxRecDepth 100000 in
set_option maxHeartbeats 4000000 in
theorem each_ok {H0 : AHeap} (s : ByteArray) (k : Nat) : ACalls Try.prog 35 [.string s, .int .i64 ((k : Nat) : Int)] H0 (fun v H' => ∃ b0 b1, v = .func (.func 37) #[] #[.pointer (some ⟨b0, 0, none⟩), .pointer (some ⟨b1, 0, none⟩)] ∧ NewL H0 H' [(b0, .cells true [.int .i64 ((k : Nat) : Int)] 1), (b1, .cells true [.string s] 1)]) := by
  have hF : Wd Fence.wide := .inl rfl
  have hM : Try.prog.follows .mixedOrders = true := by kernel_rfl
  have s0 := St.begin H0
  refine acalls_st Try.func35 rfl Try.ntmps35 rfl ?_
  refine awp_seq ?_
  refine awp_regs hF ?_
  refine x_new (fun b => .pointer (some ⟨b, 0, none⟩)) s0 (gyes_none rfl) (q_box (v := .string s) (vs := [.string s]) 1 rfl (by exact trivial) rfl) rfl (by decide) (cok1 trivial) (fun b1 H2 hb4 s3 => ?_)
  refine x_new (fun b => .pointer (some ⟨b, 0, none⟩)) s3 (gyes_none rfl) (q_box (v := .int .i64 ((k : Nat) : Int)) (vs := [.int .i64 ((k : Nat) : Int)]) 1 rfl (by exact trivial) rfl) rfl (by decide) (cok1 trivial) (fun b5 H6 hb8 s7 => ?_)
  refine dv (gyes_none rfl) (q_as (v := .nilFunc) rfl) rfl (by decide) (cok1 (cconst rfl)) ?_
  refine ⟨_, Wk.refl _ _, ?_⟩
  show awp _ _ _ _ _ _ _
  refine awp_seq ?_
  refine awp_regs hF ?_
  refine dv (gyes_none rfl) (q_makeFuncL [.pointer (some ⟨b5, 0, none⟩), .pointer (some ⟨b1, 0, none⟩)] ⟨rfl, rfl, trivial⟩) rfl (by decide) (cok2 trivial trivial) ?_
  refine dv (gyes_none rfl) (q_as (v := .func (.func 37) #[] #[.pointer (some ⟨b5, 0, none⟩), .pointer (some ⟨b1, 0, none⟩)]) rfl) rfl (by decide) (cok1 trivial) ?_
  refine ⟨_, Wk.refl _ _, ?_⟩
  show awp _ _ _ _ _ _ _
  refine awp_ret_wk ?_
  refine ⟨_, Wk.refl _ _, ?_⟩
  repeat (with_reducible first | refine then_ret ?_ | refine blk_ret ?_ | refine then_exit ?_ | refine blk_exit ?_ | refine blk_exit' (by decide) ?_ | refine blk_normal ?_ | refine then_normal ?_ | refine retq_ret ?_ | refine retq_normal ?_ | refine ng_normal ?_ | refine ng_ret ?_ | refine ng_exit ?_)
  refine ret_is (v := .func (.func 37) #[] #[.pointer (some ⟨b5, 0, none⟩), .pointer (some ⟨b1, 0, none⟩)]) rfl (.tmp rfl .nil) rfl ?_
  exact ⟨_, _, rfl, s7.newL⟩
theorem mul_le1 (i k n : Nat) (h : i < n) : i * k ≤ (i + 1) * k ∧ (i + 1) * k ≤ n * k := ⟨Nat.mul_le_mul_right _ (Nat.le_succ _), Nat.mul_le_mul_right _ h⟩
set_option maxRecDepth 100000 in
set_option maxHeartbeats 4000000 in
theorem each1_ok {H0 : AHeap} (s : ByteArray) (k : Nat) (hk : 1 ≤ k) (hk2 : k ≤ 140737488355328) (hs : s.size ≤ 140737488355328) (y : Value) (bk bs : Nat) (hnd : [bk, bs].Nodup) (Iv E : Nat → AHeap → Prop) (h0 : Iv 0 H0)
    (hb : ∀ i H, Iv i H → H[bk]? = some (.cells true [.int .i64 ((k : Nat) : Int)] 1) ∧ H[bs]? = some (.cells true [.string s] 1))
    (hy : ∀ i H, Iv i H → i < s.size / k → Ylds Try.prog y [.int .i64 ((i : Nat) : Int), .string (s.extract (i * k) ((i + 1) * k))] H (fun b H' => (b = true → Iv (i + 1) H') ∧ (b = false → E (i + 1) H'))) : ACalls Try.prog 37 [y, .pointer (some ⟨bk, 0, none⟩), .pointer (some ⟨bs, 0, none⟩)] H0 (fun v H' => v = .tuple #[] ∧ (Iv (s.size / k) H' ∨ ∃ i, i < s.size / k ∧ E (i + 1) H')) := by
  have hF : Wd Fence.wide := .inl rfl
  have hM : Try.prog.follows .mixedOrders = true := by kernel_rfl
  have s0 : St H0 (· ∈ [bk, bs]) (Off H0 [bk, bs]) H0 [(bk, .cells true [.int .i64 ((k : Nat) : Int)] 1), (bs, .cells true [.string s] 1)] := St.beginL [(bk, .cells true [.int .i64 ((k : Nat) : Int)] 1), (bs, .cells true [.string s] 1)] hnd (allAt_mem ⟨(hb _ _ h0).1, (hb _ _ h0).2, trivial⟩)
  refine acalls_st Try.func37 rfl Try.ntmps37 rfl ?_
  refine awp_seq ?_
  refine awp_seq ?_
  refine awp_regs hF ?_
  refine dv (gyes_none rfl) (q_load (v := .int .i64 ((k : Nat) : Int)) Try.isAgg3 rfl (s0.rd (j := 0) rfl) rfl) rfl (by decide) (cok1 trivial) ?_
  refine dvb (gyes_none rfl) (q_int rfl rfl rfl) rfl (by decide) (cok2 trivial (cconst rfl)) (fun c1 => ?_) (fun c1 => ?_)
  ·
    replace c1 := of_decide_eq_true c1
    exfalso; omega
  ·
    replace c1 := of_decide_eq_false c1
    refine ⟨_, Wk.refl _ _, ?_⟩
    show awp _ _ _ _ _ _ _
    refine awp_cond_f rfl ?_
    refine awp_skip_wk ?_
    refine ⟨_, Wk.refl _ _, ?_⟩
    show awp _ _ _ _ _ _ _
    refine awp_seq ?_
    refine awp_regs hF ?_
    refine dv (gyes_none rfl) (q_as (v := .int .i64 0) rfl) rfl (by decide) (cok1 (cconst rfl)) ?_
    refine ⟨_, Wk.refl _ _, ?_⟩
    show awp _ _ _ _ _ _ _
    refine awp_block ?_
    refine awp_wk (Wk.U [(0, y), (1, .pointer (some ⟨bk, 0, none⟩)), (2, .pointer (some ⟨bs, 0, none⟩)), (4, .int .i64 0)] ⟨rfl, rfl, rfl, rfl, trivial⟩) ?_
    refine awp_loop (fun (i : Nat) st => ∃ (H1 : AHeap), st = ⟨28, U [(0, y), (1, .pointer (some ⟨bk, 0, none⟩)), (2, .pointer (some ⟨bs, 0, none⟩)), (4, .int .i64 ((i : Nat) : Int))], [], H1⟩ ∧ St H1 ((· ∈ [bk, bs])) (Off H1 [bk, bs]) H1 [(bk, .cells true [.int .i64 ((k : Nat) : Int)] 1), (bs, .cells true [.string s] 1)] ∧ (i ≤ s.size / k ∧ Iv i H1)) (fun (i : Nat) => s.size / k - i) (x0 := (0)) ?h0 ?round
    case h0 =>
      exact ⟨_, rfl, s0, ⟨Nat.zero_le _, h0⟩⟩
    case round =>
      rintro i _ ⟨H1, rfl, s2, hI⟩
      have hdd := Nat.div_le_self s.size k
      have hkk := Nat.div_mul_le_self s.size k
      have hmm := mul_le1 i k (s.size / k)
      refine awp_seq ?_
      refine awp_seq ?_
      refine awp_regs hF ?_
      refine dv (gyes_none rfl) (q_mv (v := .int .i64 ((i : Nat) : Int)) rfl) rfl (by decide) (cok1 trivial) ?_
      refine dv (gyes_none rfl) (q_load (v := .string s) Try.isAgg9 rfl (s2.rd (j := 1) rfl) rfl) rfl (by decide) (cok1 trivial) ?_
      refine dv (gyes_none rfl) (q_len_str Try.underlying9 rfl) rfl (by decide) (cok1 trivial) ?_
      refine dv (gyes_none rfl) (q_load (v := .int .i64 ((k : Nat) : Int)) Try.isAgg3 rfl (s2.rd (j := 0) rfl) rfl) rfl (by decide) (cok1 trivial) ?_
      refine dv (gyes_none rfl) (q_quoM (a := s.size) (b := k) rfl rfl (by first | decide | omega) (i64_in (by have := div_le_of (a := s.size) (b := k) (M := 9223372036854775807) (by omega); omega))) rfl (by decide) (cok2 trivial trivial) ?_
      refine dvb (gyes_none rfl) (q_int rfl rfl rfl) rfl (by decide) (cok2 trivial trivial) (fun c2 => ?_) (fun c2 => ?_)
      ·
        replace c2 := of_decide_eq_true c2
        have hm2 := hmm (by omega)
        refine ⟨_, Wk.refl _ _, ?_⟩
        show awp _ _ _ _ _ _ _
        refine awp_cond_t rfl ?_
        refine awp_skip_wk ?_
        refine ⟨_, Wk.refl _ _, ?_⟩
        show awp _ _ _ _ _ _ _
        refine awp_seq ?_
        refine awp_block ?_
        refine awp_seq ?_
        refine awp_regs hF ?_
        refine dv (gyes_none rfl) (q_mv (v := y) rfl) rfl (by decide) (cok1 trivial) ?_
        refine dv (gyes_none rfl) (q_mv (v := .int .i64 ((i : Nat) : Int)) rfl) rfl (by decide) (cok1 trivial) ?_
        refine dv (gyes_none rfl) (q_load (v := .string s) Try.isAgg9 rfl (s2.rd (j := 1) rfl) rfl) rfl (by decide) (cok1 trivial) ?_
        refine dv (gyes_none rfl) (q_mv (v := .int .i64 ((i : Nat) : Int)) rfl) rfl (by decide) (cok1 trivial) ?_
        refine dv (gyes_none rfl) (q_load (v := .int .i64 ((k : Nat) : Int)) Try.isAgg3 rfl (s2.rd (j := 0) rfl) rfl) rfl (by decide) (cok1 trivial) ?_
        refine dv (gyes_none rfl) (OpQ.cast (v' := .int .i64 ((i * k : Nat) : Int)) (q_int rfl rfl rfl) (congrArg _ ((i64_in (by omega)).trans (by first | rfl | omega | (push_cast; rfl))))) rfl (by decide) (cok2 trivial trivial) ?_
        refine dv (gyes_none rfl) (q_mv (v := .int .i64 ((i : Nat) : Int)) rfl) rfl (by decide) (cok1 trivial) ?_
        refine dv (gyes_none rfl) (OpQ.cast (v' := .int .i64 ((i + 1 : Nat) : Int)) (q_int rfl rfl rfl) (congrArg _ ((i64_in (by omega)).trans (by first | rfl | omega | (push_cast; rfl))))) rfl (by decide) (cok2 trivial (cconst rfl)) ?_
        refine dv (gyes_none rfl) (q_load (v := .int .i64 ((k : Nat) : Int)) Try.isAgg3 rfl (s2.rd (j := 0) rfl) rfl) rfl (by decide) (cok1 trivial) ?_
        refine dv (gyes_none rfl) (OpQ.cast (v' := .int .i64 (((i + 1) * k : Nat) : Int)) (q_int rfl rfl rfl) (congrArg _ ((i64_in (by omega)).trans (by first | rfl | omega | (push_cast; rfl))))) rfl (by decide) (cok2 trivial trivial) ?_
        refine dv (gyes_none rfl) (q_substr (i := (i * k)) (j := ((i + 1) * k)) Try.underlying9 rfl ⟨_, rfl⟩ ⟨_, rfl⟩ (by omega) (by omega)) rfl (by decide) (call_ok rfl) ?_
        refine x_yield [] (by kernel_rfl) (gyes_none rfl) (y := y) (args := [.int .i64 ((i : Nat) : Int), .string (s.extract (i * k) ((i + 1) * k))]) rfl rfl (hy i _ hI.2 (by omega)) (show _ < _ by decide) (cok2 trivial trivial) rfl rfl (fun y3 H4 hy5 => ⟨trivial, ?_⟩)
        show dList _ _ _ _ _ _ _ _ _ _
        cases y3
        case false =>
          refine dv (gyes_none rfl) (q_not (b := false) rfl) rfl (by decide) (cok1 trivial) ?_
          refine ⟨_, Wk.refl _ _, ?_⟩
          show awp _ _ _ _ _ _ _
          refine awp_cond_t rfl ?_
          refine awp_ret_wk ?_
          refine ⟨_, Wk.refl _ _, ?_⟩
          repeat (with_reducible first | refine then_ret ?_ | refine blk_ret ?_ | refine then_exit ?_ | refine blk_exit ?_ | refine blk_exit' (by decide) ?_ | refine blk_normal ?_ | refine then_normal ?_ | refine retq_ret ?_ | refine retq_normal ?_ | refine ng_normal ?_ | refine ng_ret ?_ | refine ng_exit ?_)
          refine ret_is (v := .tuple #[]) rfl .nil rfl ?_
          exact ⟨rfl, .inr ⟨i, by omega, hy5.2 rfl⟩⟩
        case true =>
          have h6 := hy5.1 rfl
          have s7 : St H4 (· ∈ [bk, bs]) (Off H4 [bk, bs]) H4 [(bk, .cells true [.int .i64 ((k : Nat) : Int)] 1), (bs, .cells true [.string s] 1)] := St.beginL [(bk, .cells true [.int .i64 ((k : Nat) : Int)] 1), (bs, .cells true [.string s] 1)] hnd (allAt_mem ⟨(hb _ _ h6).1, (hb _ _ h6).2, trivial⟩)
          refine dv (gyes_none rfl) (q_not (b := true) rfl) rfl (by decide) (cok1 trivial) ?_
          refine ⟨_, Wk.refl _ _, ?_⟩
          show awp _ _ _ _ _ _ _
          refine awp_cond_f rfl ?_
          refine awp_skip_wk ?_
          refine ⟨_, Wk.refl _ _, ?_⟩
          show awp _ _ _ _ _ _ _
          refine awp_regs hF ?_
          refine dv (gyes_none rfl) (q_mv (v := .int .i64 ((i : Nat) : Int)) rfl) rfl (by decide) (cok1 trivial) ?_
          refine dv (gyes_none rfl) (OpQ.cast (v' := .int .i64 ((i + 1 : Nat) : Int)) (q_int rfl rfl rfl) (congrArg _ ((i64_in (by omega)).trans (by first | rfl | omega | (push_cast; rfl))))) rfl (by decide) (cok2 trivial (cconst rfl)) ?_
          refine dv (gyes_none rfl) (q_as (v := .int .i64 ((i + 1 : Nat) : Int)) rfl) rfl (by decide) (cok1 trivial) ?_
          refine ⟨_, Wk.U [(0, y), (1, .pointer (some ⟨bk, 0, none⟩)), (2, .pointer (some ⟨bs, 0, none⟩)), (4, .int .i64 (((i + 1) : Nat) : Int))] ⟨rfl, rfl, rfl, rfl, trivial⟩, (i + 1), ⟨_, rfl, s7, ⟨by omega, h6⟩⟩, (by omega)⟩
      ·
        replace c2 := of_decide_eq_false c2
        refine ⟨_, Wk.refl _ _, ?_⟩
        show awp _ _ _ _ _ _ _
        refine awp_cond_f rfl ?_
        refine awp_exit_wk ?_
        refine ⟨_, Wk.refl _ _, ?_⟩
        repeat (with_reducible first | refine then_ret ?_ | refine blk_ret ?_ | refine then_exit ?_ | refine blk_exit ?_ | refine blk_exit' (by decide) ?_ | refine blk_normal ?_ | refine then_normal ?_ | refine retq_ret ?_ | refine retq_normal ?_ | refine ng_normal ?_ | refine ng_ret ?_ | refine ng_exit ?_)
        refine ret_is (v := .tuple #[]) rfl .nil rfl ?_
        obtain rfl : i = s.size / k := by omega
        exact ⟨rfl, .inl hI.2⟩
end Go.Proofs.YtmoldjiooccppaaA


/-
  Walks of functions of the given program, and what they compute.
-/
namespace Go.Proofs.YtmoldjiooccppaaA
set_option linter.unusedVariables false
open Go Go.RowKit Go.Shelf Go.Proofs
def numN (b : ByteArray) (k : Nat) : List Nat := (List.range k).map fun i => getB (b.extract (i * 4) ((i + 1) * 4))
def numL (b : ByteArray) : List Nat := numN b (b.size / 4)
theorem numN_len (b : ByteArray) (k : Nat) : (numN b k).length = k := by simp [numN]
theorem numN_succ (b : ByteArray) (k : Nat) : numN b k ++ [getB (b.extract (k * 4) ((k + 1) * 4))] = numN b (k + 1) := by simp [numN, List.range_succ]
theorem part4_size {b : ByteArray} {k : Nat} (h : k < b.size / 4) : (b.extract (k * 4) ((k + 1) * 4)).size = 4 := by
  rw [ByteArray.size_extract]; omega
theorem getB_lt4 {b : ByteArray} {k : Nat} (h : k < b.size / 4) : getB (b.extract (k * 4) ((k + 1) * 4)) < 4294967296 := by
  have := getB_lt (k := 4) (Nat.le_of_eq (part4_size h)); exact this
theorem fresh_of2n {α : Type} {f : α → Value} {l : List α} {H0 : AHeap} {Z : Rs} {H : AHeap} {F : List (Nat × AObj)} (h : St H0 none0 Z H F) {j b n : Nat} (hj : F[j]? = some (b, .cells true (l.map f) 1)) (hn : l.length = n) : Fresh f l H0 (.slice (some ⟨b, 0, none⟩) n n) H := by
  subst hn; exact fresh_of h hj rfl
set_option maxRecDepth 100000 in
set_option maxHeartbeats 4000000 in
theorem numbers_ok {H0 : AHeap} (b : ByteArray) (hb : b.size ≤ 1000000) : ACalls Try.prog 26 [.string b] H0 (Fresh u32v (numL b) H0) := by
  have hF : Wd Fence.wide := .inl rfl
  have hM : Try.prog.follows .mixedOrders = true := by kernel_rfl
  have s0 := St.begin H0
  refine acalls_st Try.func26 rfl Try.ntmps26 rfl ?_
  refine awp_seq ?_
  refine awp_regs hF ?_
  refine dv (gyes_none rfl) (q_as (v := .slice none 0 0) rfl) rfl (by decide) (cok1 (cconst rfl)) ?_
  refine ⟨_, Wk.refl _ _, ?_⟩
  show awp _ _ _ _ _ _ _
  refine awp_seq ?_
  refine awp_regs hF ?_
  refine x_new (fun b => .pointer (some ⟨b, 0, none⟩)) s0 (gyes_none rfl) (q_alloc (vs := [.slice none 0 0]) 1 Try.zeroValue24 (by first | exact flat_scalar rfl | exact flat_agg rfl) rfl) rfl (by decide) (by simp [Op.operands]) (fun b1 H2 hb4 s3 => ?_)
  refine ⟨_, Wk.refl _ _, ?_⟩
  show awp _ _ _ _ _ _ _
  refine awp_seq ?_
  refine awp_seq ?_
  refine awp_nilc s3 (j := 0) (o := 0) (sz' := 1) rfl rfl (fun b5 H6 hb8 s7 => ?_)
  refine awp_regs hF ?_
  refine dv (gyes_none rfl) (q_mv (v := .string b) rfl) rfl (by decide) (cok1 trivial) ?_
  refine x_call [] hF (by kernel_rfl) (gyes_none rfl) Try.call35 rfl (args := [.string b, .int .i64 4]) rfl (each_ok b 4) (show _ < _ by decide) (call_ok rfl) rfl rfl (fun _ _ _ _ hd => by cases hd) ?_
  rintro _ H11 ⟨b9, b10, rfl, hn12⟩
  have s13 := s7.callL hn12
  refine ⟨trivial, ?_⟩
  show dList _ _ _ _ _ _ _ _ _ _
  refine ⟨_, Wk.refl _ _, ?_⟩
  show awp _ _ _ _ _ _ _
  refine awp_block ?_
  refine range_st s13 rfl Try.call37 (fun fn14 lp15 d16 l17 H18 hlp19 hd20 s21 => ?_)
  refine (each1_ok (H0 := H18) b 4 (by decide) (by decide) (by omega) _ b9 b10 (nod2 (s21.nej (i := 2) (j := 3) rfl rfl (by decide))) (fun (k : Nat) (H22 : AHeap) => ∃ (bn : Nat), St H0 (none0) (Rd H0) H22 [(l17, lp15 .ready none), (d16, .mark), (b9, .cells true [.int .i64 4] 1), (b10, .cells true [.string b] 1), (bn, .cells true ((numN b k).map u32v) 1), (b1, .cells true [.slice (some ⟨bn, 0, none⟩) k k] 1)]) (fun _ _ => False) ?h00 ?hb ?round).mono ?after
  case h00 => exact ⟨_, s21⟩
  case hb =>
    rintro k H22 ⟨bn, s23⟩
    exact ⟨s23.getj (j := 2) rfl, s23.getj (j := 3) rfl⟩
  case round =>
    rintro k H22  ⟨bn, s23⟩ hx
    have hp2 := part4_size hx
    have hg2 := getB_lt4 hx
    refine ylds_roundB hlp19 (s23.getj (j := 0) rfl) rfl rfl (fun l24 hF => ?_)
    refine awp_regs hF ?_
    refine dv (gyes_none rfl) (q_as (v := .string (b.extract (k * 4) ((k + 1) * 4))) rfl) rfl (by decide) (cok1 trivial) ?_
    refine ⟨_, Wk.refl _ _, ?_⟩
    refine then_normal ?_
    refine ⟨_, _, rfl, s23.getj (j := 0) rfl, ?body⟩
    case body =>
      have s25 := s23.setAt (j := 0) rfl (lp15 .busy none)
      show awp _ _ _ _ _ _ _
      refine awp_block ?_
      refine awp_regt hF hM (by kernel_rfl) (by kernel_rfl) ?_
      refine dv (gyes_none rfl) (q_load (v := .slice (some ⟨bn, 0, none⟩) k k) Try.isAgg24 rfl (s25.rd (j := 5) rfl) rfl) rfl (by decide) (cok1 trivial) ?_
      refine dv (gyes_none rfl) (q_mv (v := .string (b.extract (k * 4) ((k + 1) * 4))) rfl) rfl (by decide) (cok1 trivial) ?_
      refine dv (gyes_none rfl) (q_call0 Try.call34 rfl (get_ok (b.extract (k * 4) ((k + 1) * 4)) (by omega))) rfl (by decide) (cok2 trivial trivial) ?_
      refine dv (gyes_none rfl) (q_convin (a := ((getB (b.extract (k * 4) ((k + 1) * 4)) : Nat) : Int)) Try.underlying42 Try.underlying31 rfl (u32_in (by omega))) rfl (by decide) (cok1 trivial) ?_
      refine x_new (fun b => .slice (some ⟨b, 0, none⟩) 1 1) s25 (gyes_none rfl) (q_buildSliceL (ds := [.int .u32 ((getB (b.extract (k * 4) ((k + 1) * 4)) : Nat) : Int)]) [.int .u32 ((getB (b.extract (k * 4) ((k + 1) * 4)) : Nat) : Int)] rfl Try.underlying24 Try.sizeOf31 Try.zeroValue31 rfl (by decide) (by decide) ⟨rfl, trivial⟩ (lvsC (by exact trivial) lvs0) rfl rfl) rfl (by decide) (cok1 trivial) (fun b26 H27 hb29 s28 => ?_)
      refine x_append (l := [(getB (b.extract (k * 4) ((k + 1) * 4)))]) (f := u32v) [] hF s28 (by kernel_rfl) (j := 5) (k + 1) rfl (gyes_none rfl) Try.underlying24 Try.underlying24 Try.type31 rfl rfl (by decide) rfl rfl rfl rfl (s28.slj (l := [(getB (b.extract (k * 4) ((k + 1) * 4)))]) (f := u32v) (j := 0) rfl rfl (Nat.le_refl _)) (fun x => lc_scalar rfl) (by rw [List.length_map, numN_len, Nat.zero_add]) (by show (2 * (k + 1) + 1000) * 4 ≤ _; omega) trivial trivial (by decide) rfl rfl (vs' := (numN b (k + 1)).map u32v) (by rw [← numN_succ, List.map_append]; rfl) (fun b30 H31 hb33 s32 => ⟨?_, ?_⟩)
      · exact trivial
      refine x_store1 [] hF s32 (by kernel_rfl) (gyes_none rfl) (j := 6) (v := .slice (some ⟨b30, 0, none⟩) (k + 1) (k + 1)) rfl Try.sizeOf24 rfl rfl rfl (lc_slice (s32.live (j := 5) rfl)) (Nat.le_of_ble_eq_true rfl) trivial trivial rfl rfl (F' := [(b26, .cells true [.int .u32 ((getB (b.extract (k * 4) ((k + 1) * 4)) : Nat) : Int)] 1), (l17, lp15 .busy none), (d16, .mark), (b9, .cells true [.int .i64 4] 1), (b10, .cells true [.string b] 1), (b30, .cells true ((numN b (k + 1)).map u32v) 1), (b1, .cells true [.slice (some ⟨b30, 0, none⟩) (k + 1) (k + 1)] 1)]) rfl (fun H34 s35 => ⟨?_, ?_⟩)
      · exact trivial
      refine ⟨_, Wk.refl _ _, ?_⟩
      repeat (with_reducible first | refine then_ret ?_ | refine blk_ret ?_ | refine then_exit ?_ | refine blk_exit ?_ | refine blk_exit' (by decide) ?_ | refine blk_normal ?_ | refine then_normal ?_ | refine retq_ret ?_ | refine retq_normal ?_ | refine ng_normal ?_ | refine ng_ret ?_ | refine ng_exit ?_)
      exact ⟨(s35.forget 0).getj (j := 0) rfl, (fun _ => ⟨_, ((s35.forget 0).setAt (j := 0) rfl (lp15 .ready none))⟩), (fun h => nomatch h)⟩
  case after =>
    rintro v H' ⟨rfl, hpost⟩
    replace hpost := hpost.resolve_right (fun ⟨_, _, h⟩ => h)
    obtain ⟨bn, s36⟩ := hpost
    generalize hkk : b.size / 4 = k at *
    refine ⟨(by
        intro e he
        rcases List.mem_cons.1 he with rfl | he
        · exact s36.getj (j := 1) rfl
        · cases he), .inl ⟨s36.getj (j := 0) rfl, ?_⟩⟩
    have s38 := (s36.setAt (j := 0) rfl .none).forget 0
    refine ⟨_, Wk.refl _ _, ?_⟩
    show awp _ _ _ _ _ _ _
    refine awp_seq ?_
    refine awp_regs hF ?_
    refine dv (gyes_none rfl) (q_load (v := .slice (some ⟨bn, 0, none⟩) k k) Try.isAgg24 rfl (s38.rd (j := 4) rfl) rfl) rfl (by decide) (cok1 trivial) ?_
    refine dv (gyes_none rfl) (q_as (v := .slice (some ⟨bn, 0, none⟩) k k) rfl) rfl (by decide) (cok1 trivial) ?_
    refine ⟨_, Wk.refl _ _, ?_⟩
    show awp _ _ _ _ _ _ _
    refine awp_ret_wk ?_
    refine ⟨_, Wk.refl _ _, ?_⟩
    repeat (with_reducible first | refine then_ret ?_ | refine blk_ret ?_ | refine then_exit ?_ | refine blk_exit ?_ | refine blk_exit' (by decide) ?_ | refine blk_normal ?_ | refine then_normal ?_ | refine retq_ret ?_ | refine retq_normal ?_ | refine ng_normal ?_ | refine ng_ret ?_ | refine ng_exit ?_)
    refine ret_isD (v := .slice (some ⟨bn, 0, none⟩) k k) rfl (.tmp rfl .nil) rfl ?_
    rw [show numL b = numN b k by rw [numL, hkk]]
    exact fresh_of2n (s38.setAt (j := 0) rfl .none) (j := 3) rfl (numN_len b k)

end Go.Proofs.YtmoldjiooccppaaA


/-
  Walks of functions of the given program, and what they compute.
-/
namespace Go.Proofs.YtmoldjiooccppaaA
set_option linter.unusedVariables false
open Go Go.RowKit Go.Shelf Go.Proofs
set_option maxRecDepth 100000 in
set_option maxHeartbeats 2000000 in
theorem hash_ok {H0 : AHeap} {n0 : Nat} (h0 : H0.length = n0) (s : ByteArray) (hs : s.size ≤ 140737488355328) : ACalls Try.prog 32 [.string s] H0 (Rets (.int .u32 ((hash s : Nat) : Int)) H0) := by
  have hF : Wd Fence.wide := .inl rfl
  have hM : Try.prog.follows .mixedOrders = true := by kernel_rfl
  refine acalls_begin Try.func32 rfl Try.ntmps32 rfl ?_
  refine awp_seq ?_
  refine awp_reg hF ?_
  refine sv hF (gyes_none rfl) (q_as (by conv => lhs; whnf)) rfl (by decide) (cok1 (cconst rfl)) ?_
  refine ⟨_, Wk.refl _ _, ?_⟩
  show awp _ _ _ _ _ _ _
  refine awp_seq ?_
  refine awp_reg hF ?_
  refine sv hF (gyes_none rfl) (q_as (by conv => lhs; whnf)) rfl (by decide) (cok1 (cconst rfl)) ?_
  refine ⟨_, Wk.refl _ _, ?_⟩
  show awp _ _ _ _ _ _ _
  refine awp_seq ?_
  refine awp_seq ?_
  refine awp_reg hF ?_
  refine sv hF (gyes_none rfl) (q_mv (by conv => lhs; whnf)) rfl (by decide) (cok1 trivial) ?_
  refine sv hF (gyes_none rfl) (q_len_str Try.underlying9 rfl) rfl (by decide) (cok1 trivial) ?_
  refine sv hF (gyes_none rfl) (q_mv (by conv => lhs; whnf)) rfl (by decide) (cok1 (cconst rfl)) ?_
  refine ⟨_, Wk.refl _ _, ?_⟩
  show awp _ _ _ _ _ _ _
  refine awp_block ?_
  refine awp_wk (Wk.U [(0, .string s), (3, .int .u32 ((hashN s 0 : Nat) : Int)), (7, .int .i64 s.size), (8, .int .i64 ((0 : Nat) : Int))] ⟨rfl, rfl, rfl, rfl, trivial⟩) ?_
  refine awp_loop (fun (i : Nat) st => i ≤ s.size ∧ st = ⟨28, U [(0, .string s), (3, .int .u32 ((hashN s i : Nat) : Int)), (7, .int .i64 s.size), (8, .int .i64 ((i : Nat) : Int))], [], H0 ++ []⟩) (fun i => s.size - i) (x0 := 0) ?h0 ?round
  case h0 => exact ⟨Nat.zero_le _, rfl⟩
  case round =>
    rintro i _ ⟨hi, rfl⟩
    refine awp_seq ?_
    refine awp_reg hF ?_
    refine svb hF (gyes_none rfl) (q_int rfl rfl rfl) rfl (by decide) (cok2 trivial trivial) (fun c1 => ?_) (fun c1 => ?_)
    ·
      try simp only [decide_eq_true_eq] at c1
      refine ⟨_, Wk.refl _ _, ?_⟩
      show awp _ _ _ _ _ _ _
      refine awp_seq ?_
      refine awp_cond_t rfl ?_
      refine awp_skip_wk ?_
      refine ⟨_, Wk.refl _ _, ?_⟩
      show awp _ _ _ _ _ _ _
      refine awp_seq ?_
      refine awp_block ?_
      refine awp_seq ?_
      refine awp_reg hF ?_
      refine sv hF (gyes_none rfl) (q_mv (by conv => lhs; whnf)) rfl (by decide) (cok1 trivial) ?_
      refine sv hF (gyes_none rfl) (q_as (by conv => lhs; whnf)) rfl (by decide) (cok1 trivial) ?_
      refine ⟨_, Wk.refl _ _, ?_⟩
      show awp _ _ _ _ _ _ _
      refine awp_seq ?_
      refine awp_reg hF ?_
      refine sv hF (gyes_none rfl) (q_mv (by conv => lhs; whnf)) rfl (by decide) (cok1 trivial) ?_
      refine sv hF (gyes_none rfl) (q_shl rfl rfl (by first | decide | omega)) rfl (by decide) (cok2 trivial (cconst rfl)) ?_
      refine sv hF (gyes_none rfl) (q_mv (by conv => lhs; whnf)) rfl (by decide) (cok1 trivial) ?_
      refine sv hF (gyes_none rfl) (q_mv (by conv => lhs; whnf)) rfl (by decide) (cok1 trivial) ?_
      refine sv hF (gyes_none rfl) (q_strix Try.underlying9 rfl rfl (by omega)) rfl (by decide) (cok2 trivial trivial) ?_
      refine sv hF (gyes_none rfl) (by first | exact q_convin Try.underlying5 Try.underlying31 rfl (by first | exact i64_in (by omega) | exact u64_in (by omega) | exact u32_in (by omega) | exact u8_in (by omega)) | exact q_conv Try.underlying5 Try.underlying31 rfl) rfl (by decide) (cok1 trivial) ?_
      refine sv hF (gyes_none rfl) (q_int rfl rfl rfl) rfl (by decide) (cok2 trivial trivial) ?_
      refine sv hF (gyes_none rfl) (q_as (by conv => lhs; whnf)) rfl (by decide) (cok1 trivial) ?_
      refine ⟨_, Wk.refl _ _, ?_⟩
      show awp _ _ _ _ _ _ _
      refine awp_seq ?_
      refine awp_reg hF ?_
      refine sv hF (gyes_none rfl) (q_mv (by conv => lhs; whnf)) rfl (by decide) (cok1 trivial) ?_
      refine sv hF (gyes_none rfl) (q_int rfl rfl rfl) rfl (by decide) (cok2 trivial (cconst rfl)) ?_
      refine sv hF (gyes_none rfl) (q_as (by conv => lhs; whnf)) rfl (by decide) (cok1 trivial) ?_
      refine ⟨_, Wk.refl _ _, ?_⟩
      show awp _ _ _ _ _ _ _
      refine awp_reg hF ?_
      refine sv hF (gyes_none rfl) (q_mv (by conv => lhs; whnf)) rfl (by decide) (cok1 trivial) ?_
      refine sv hF (gyes_none rfl) (q_mv (by conv => lhs; whnf)) rfl (by decide) (cok1 trivial) ?_
      refine sv hF (gyes_none rfl) (q_shr rfl rfl (by first | decide | omega)) rfl (by decide) (cok2 trivial (cconst rfl)) ?_
      refine sv hF (gyes_none rfl) (q_int rfl rfl rfl) rfl (by decide) (cok2 trivial trivial) ?_
      refine sv hF (gyes_none rfl) (q_mv (by conv => lhs; whnf)) rfl (by decide) (cok1 trivial) ?_
      refine sv hF (gyes_none rfl) (q_int rfl rfl rfl) rfl (by decide) (cok2 trivial trivial) ?_
      refine sv hF (gyes_none rfl) (q_as (by conv => lhs; whnf)) rfl (by decide) (cok1 trivial) ?_
      refine ⟨_, Wk.refl _ _, ?_⟩
      show awp _ _ _ _ _ _ _
      refine awp_reg hF ?_
      refine sv hF (gyes_none rfl) (by first | exact q_add64 rfl rfl (by omega) | exact q_int rfl rfl rfl) rfl (by decide) (cok2 trivial (cconst rfl)) ?_
      refine sv hF (gyes_none rfl) (q_mv (by conv => lhs; whnf)) rfl (by decide) (cok1 trivial) ?_
      refine ⟨_, Wk.U [(0, .string s), (3, .int .u32 ((hashN s (i + 1) : Nat) : Int)), (7, .int .i64 s.size), (8, .int .i64 (((i + 1) : Nat) : Int))] ⟨rfl, ?_, rfl, rfl, trivial⟩, i + 1, ⟨by omega, rfl⟩, by omega⟩
      rw [hashN_succ s i (by omega), ← vstep _ _ (hashN_lt s i) (s[i].toNat_lt)]
      rfl
    ·
      try simp only [decide_eq_false_iff_not] at c1
      refine ⟨_, Wk.refl _ _, ?_⟩
      show awp _ _ _ _ _ _ _
      refine awp_seq ?_
      refine awp_cond_f rfl ?_
      refine awp_exit_wk ?_
      refine ⟨_, Wk.refl _ _, ?_⟩
      show awp _ _ _ _ _ _ _
      refine awp_seq ?_
      refine awp_reg hF ?_
      refine sv hF (gyes_none rfl) (q_mv (by conv => lhs; whnf)) rfl (by decide) (cok1 trivial) ?_
      refine sv hF (gyes_none rfl) (q_as (by conv => lhs; whnf)) rfl (by decide) (cok1 trivial) ?_
      refine ⟨_, Wk.refl _ _, ?_⟩
      show awp _ _ _ _ _ _ _
      refine awp_ret_wk ?_
      refine ⟨_, Wk.refl _ _, ?_⟩
      refine ret_drop1 rfl (.tmp (by conv => lhs; whnf) .nil) rfl ⟨?_, rfl⟩
      rw [show i = s.size by omega]; rfl
set_option maxRecDepth 100000 in
set_option maxHeartbeats 2000000 in
theorem bucket_ok {H0 : AHeap} {n0 : Nat} (h0 : H0.length = n0) (s : ByteArray) (hs : s.size ≤ 140737488355328) (B : List Nat) (vB vC : Value) (hB : Sl u32v H0 vB B) (hB0 : 0 < B.length) (hB1 : B.length < 4294967296) : ACalls Try.prog 20 [.agg #[vB, vC], .string s] H0 (Rets (.int .i64 ((hash s % B.length : Nat) : Int)) H0) := by
  have hF : Wd Fence.wide := .inl rfl
  have hM : Try.prog.follows .mixedOrders = true := by kernel_rfl
  refine acalls_begin Try.func20 rfl Try.ntmps20 rfl ?_
  refine awp_seq ?_
  refine awp_reg hF ?_
  refine sn hF (gyes_none rfl) (q_boxN 1 (loc_len h0 rfl) (by conv => lhs; whnf) (by exact trivial) rfl) rfl (by decide) (cok1 trivial) (List.append_assoc _ _ _) ?_
  refine sv hF (gyes_none rfl) (q_as (by conv => lhs; whnf)) rfl (by decide) (cok1 (cconst rfl)) ?_
  refine ⟨_, Wk.refl _ _, ?_⟩
  show awp _ _ _ _ _ _ _
  refine awp_seq ?_
  refine awp_regt hF hM (by kernel_rfl) (by kernel_rfl) ?_
  refine dv (gyes_none rfl) (q_mv (by conv => lhs; whnf)) rfl (by decide) (cok1 trivial) ?_
  refine dv (gyes_none rfl) (q_call0 Try.call32 rfl (hash_ok rfl s hs)) rfl (by decide) (cok2 trivial trivial) ?_
  refine dv (gyes_none rfl) (q_field Try.underlying26 rfl Try.sizeOf24 rfl (by first | exact loc_rd h0 rfl | exact frm_rd (by assumption) | exact frm_rd' (by assumption) | assumption)) rfl (by decide) (cok1 trivial) ?_
  refine dv (gyes_none rfl) (q_load Try.isAgg24 rfl (by first | exact loc_rd h0 rfl | exact frm_rd (by assumption) | exact frm_rd' (by assumption) | assumption) rfl) rfl (by decide) (cok1 trivial) ?_
  refine dv (gyes_none rfl) (q_len_sl Try.underlying24 (hB.app _) rfl) rfl (by decide) (call_ok rfl) ?_
  refine dv (gyes_none rfl) (q_convin Try.underlying3 Try.underlying31 rfl (u32_in (by omega))) rfl (by decide) (call_ok rfl) ?_
  refine dv (gyes_none rfl) (OpQ.cast (v' := .int .u32 ((hash s % B.length : Nat) : Int)) (q_remN rfl rfl (by omega) (by omega)) rfl) rfl (by decide) (call_ok rfl) ?_
  refine dv (gyes_none rfl) (q_convin Try.underlying31 Try.underlying3 rfl (i64_in (by have := hash_lt s; have := Nat.mod_lt (hash s) hB0; omega))) rfl (by decide) (call_ok rfl) ?_
  refine dv (gyes_none rfl) (q_as (by conv => lhs; whnf)) rfl (by decide) (cok1 trivial) ?_
  refine ⟨_, Wk.refl _ _, ?_⟩
  show awp _ _ _ _ _ _ _
  refine awp_ret_wk ?_
  refine ⟨_, Wk.refl _ _, ?_⟩
  refine ret_drop1 rfl (.tmp (by conv => lhs; whnf) .nil) rfl ⟨?_, rfl⟩
  rfl
set_option maxRecDepth 100000 in
set_option maxHeartbeats 2000000 in
theorem walk_ok {H0 : AHeap} {n0 : Nat} (h0 : H0.length = n0) (s : ByteArray) (vB vC : Value) {b0 b1 : Nat} (e0 : n0 + 0 = b0) (e1 : n0 + 1 = b1) : ACalls Try.prog 9 [.agg #[vB, vC], .string s] H0 (Rets (.func (.func 21) #[] #[.pointer (some ⟨b0, 0, none⟩), .pointer (some ⟨b1, 0, none⟩)]) (H0 ++ [.cells true [vB, vC] 1, .cells true [.string s] 1])) := by
  have hF : Wd Fence.wide := .inl rfl
  have hM : Try.prog.follows .mixedOrders = true := by kernel_rfl
  refine acalls_begin Try.func9 rfl Try.ntmps9 rfl ?_
  refine awp_seq ?_
  refine awp_reg hF ?_
  refine sn hF (gyes_none rfl) (q_boxN 1 (loc_len h0 rfl) (by conv => lhs; whnf) (by exact trivial) rfl) rfl (by decide) (cok1 trivial) (List.append_assoc _ _ _) ?_
  refine sn hF (gyes_none rfl) (q_boxN 1 (loc_len h0 rfl) (by conv => lhs; whnf) (by exact trivial) rfl) rfl (by decide) (cok1 trivial) (List.append_assoc _ _ _) ?_
  refine sv hF (gyes_none rfl) (q_as (by conv => lhs; whnf)) rfl (by decide) (cok1 (cconst rfl)) ?_
  refine ⟨_, Wk.refl _ _, ?_⟩
  show awp _ _ _ _ _ _ _
  refine awp_seq ?_
  refine awp_reg hF ?_
  refine sv hF (gyes_none rfl) (q_makeFuncL [_, _] ⟨(by conv => lhs; whnf), (by conv => lhs; whnf), trivial⟩) rfl (by decide) (cok2 trivial trivial) ?_
  refine sv hF (gyes_none rfl) (q_as (by conv => lhs; whnf)) rfl (by decide) (cok1 trivial) ?_
  refine ⟨_, Wk.refl _ _, ?_⟩
  show awp _ _ _ _ _ _ _
  refine awp_ret_wk ?_
  subst e0 e1
  refine ⟨_, Wk.refl _ _, ?_⟩
  repeat (with_reducible first | refine then_ret ?_ | refine blk_ret ?_ | refine then_exit ?_ | refine blk_exit ?_ | refine blk_exit' (by decide) ?_ | refine blk_normal ?_ | refine then_normal ?_ | refine retq_ret ?_ | refine retq_normal ?_ | refine ng_normal ?_ | refine ng_ret ?_ | refine ng_exit ?_)
  exact ret_same (H := H0 ++ _) (by rw [List.append_nil]; first | done | rfl) (.tmp rfl .nil) rfl ⟨rfl, rfl⟩

end Go.Proofs.YtmoldjiooccppaaA


/-
  Walks of functions of the given program, and what they compute.
-/
namespace Go.Proofs.YtmoldjiooccppaaA
set_option linter.unusedVariables false
open Go Go.RowKit Go.Shelf Go.Proofs
/-- A table that is built: behind so many names. -/
def buildStep (names : List ByteArray) (nb i : Nat) (p : List Nat × List Nat) : List Nat × List Nat :=
  (p.1.set (hash (names.getD i ⟨#[]⟩) % nb) i, p.2.set i (p.1.getD (hash (names.getD i ⟨#[]⟩) % nb) 0))
def buildN (names : List ByteArray) (nb : Nat) : Nat → List Nat × List Nat
  | 0 => (List.replicate nb 0, List.replicate names.length 0)
  | i + 1 => if i = 0 then (List.replicate nb 0, List.replicate names.length 0) else buildStep names nb i (buildN names nb i)
theorem build_step {names : List ByteArray} {B C : List Nat} {i : Nat} (hi : i < names.length) (h1 : 1 ≤ i) (hk : hash names[i] % B.length < B.length) (h : (B, C) = buildN names B.length i) :
    (B.set (hash names[i] % B.length) i, C.set i B[hash names[i] % B.length]) = buildN names B.length (i + 1) := by
  have e : names.getD i ⟨#[]⟩ = names[i] := by rw [List.getD_eq_getElem?_getD, List.getElem?_eq_getElem hi]; rfl
  rw [buildN, if_neg (by omega), ← h]
  unfold buildStep
  rw [e]
  have e2 : B.getD (hash names[i] % B.length) 0 = B[hash names[i] % B.length] := by rw [List.getD_eq_getElem?_getD, List.getElem?_eq_getElem hk]; rfl
  show _ = (B.set _ i, C.set i (B.getD _ 0))
  rw [e2]
def buildOk (names : List ByteArray) (nb : Int) : Prop := 1 ≤ nb ∧ nb ≤ 256 ∧ 1 ≤ names.length ∧ names.length ≤ 256
def buildV (b0 b1 nb nc : Nat) : Value := .tuple #[.agg #[.slice (some ⟨b0, 0, none⟩) nb nb, .slice (some ⟨b1, 0, none⟩) nc nc], .bool true]
def noBuild : Value := .tuple #[.agg #[.slice none 0 0, .slice none 0 0], .bool false]
set_option maxRecDepth 100000 in
set_option maxHeartbeats 2000000 in
theorem build_ok {H0 : AHeap} {n0 : Nat} (h0 : H0.length = n0) (names : List ByteArray) (vN : Value) (buckets : Int) (hN : Sl strv H0 vN names) (hNs : ∀ s ∈ names, s.size ≤ 140737488355328) {b0 b1 : Nat} (e0 : n0 + 0 = b0) (e1 : n0 + 1 = b1) : ACalls Try.prog 8 [vN, .int .i64 buckets] H0 (fun v H' => (buildOk names buckets → v = buildV b0 b1 buckets.toNat names.length ∧ H' = H0 ++ [.cells true ((buildN names buckets.toNat names.length).1.map u32v) 1, .cells true ((buildN names buckets.toNat names.length).2.map u32v) 1]) ∧ (¬ buildOk names buckets → v = noBuild ∧ H' = H0)) := by
  have hF : Wd Fence.wide := .inl rfl
  have hM : Try.prog.follows .mixedOrders = true := by kernel_rfl
  subst e0 e1
  refine acalls_begin Try.func8 rfl Try.ntmps8 rfl ?_
  refine awp_seq ?_
  refine awp_reg hF ?_
  refine sn hF (gyes_none rfl) (q_allocN 1 (loc_len h0 rfl) Try.zeroValue26 (by first | exact flat_scalar rfl | exact flat_agg rfl) rfl) rfl (by decide) (by simp [Op.operands]) (List.append_assoc _ _ _) ?_
  refine sv hF (gyes_none rfl) (q_as (by conv => lhs; whnf)) rfl (by decide) (cok1 (cconst rfl)) ?_
  refine ⟨_, Wk.refl _ _, ?_⟩
  show awp _ _ _ _ _ _ _
  refine awp_seq ?_
  refine awp_seq ?_
  refine awp_reg hF ?_
  refine sv hF (gyes_none rfl) (q_mv (by conv => lhs; whnf)) rfl (by decide) (cok1 trivial) ?_
  refine svb hF (gyes_none rfl) (q_int rfl rfl rfl) rfl (by decide) (cok2 trivial (cconst rfl)) (fun c1 => ?_) (fun c1 => ?_)
  ·
    try simp only [decide_eq_true_eq] at c1
    refine sv hF (gyes_none rfl) (q_mv (by conv => lhs; whnf)) rfl (by decide) (cok1 trivial) ?_
    refine sno rfl (.inl rfl) rfl (by decide) ?_
    refine sno rfl (.inl rfl) rfl (by decide) ?_
    refine sv hF (gyes_none rfl) (q_pt rfl (by conv => lhs; whnf)) rfl (by decide) (call_ok rfl) ?_
    refine sv hF (gyes_none rfl) (q_mv (by conv => lhs; whnf)) rfl (by decide) (cok1 trivial) ?_
    refine sno rfl (.inl rfl) rfl (by decide) ?_
    refine sno rfl (.inl rfl) rfl (by decide) ?_
    refine sno rfl (.inl rfl) rfl (by decide) ?_
    refine sv hF (gyes_none rfl) (q_pt rfl (by conv => lhs; whnf)) rfl (by decide) (call_ok rfl) ?_
    refine sv hF (gyes_none rfl) (q_mv (by conv => lhs; whnf)) rfl (by decide) (cok1 trivial) ?_
    refine sno rfl (.inl rfl) rfl (by decide) ?_
    refine sno rfl (.inl rfl) rfl (by decide) ?_
    refine sno rfl (.inl rfl) rfl (by decide) ?_
    refine sv hF (gyes_none rfl) (q_pt rfl (by conv => lhs; whnf)) rfl (by decide) (call_ok rfl) ?_
    refine ⟨_, Wk.refl _ _, ?_⟩
    show awp _ _ _ _ _ _ _
    refine awp_cond_t rfl ?_
    refine awp_seq ?_
    refine awp_reg hF ?_
    refine sv hF (gyes_none rfl) (q_buildL [(0, 1), (1, 1)] [] Try.underlying26 Try.zeroValue26 (by first | exact flat_agg rfl | exact flat_scalar rfl) (by kernel_rfl) trivial lvs0 rfl) rfl (by decide) (by simp [Op.operands]) ?_
    refine se_store hF (gyes_none rfl) rfl Try.sizeOf26 rfl (by conv => lhs; whnf) (by first | exact loc_get h0 rfl | exact frm_get (by assumption)) rfl rfl (by exact trivial) (by exact (lcs2 (lc_scalar rfl) (lc_scalar rfl))) (by first | (simp; done) | exact Nat.le_of_ble_eq_true rfl) trivial trivial (by first | exact loc_set h0 _ | exact frm_set _ (by assumption) _) ?_
    refine sv hF (gyes_none rfl) (q_as (by conv => lhs; whnf)) rfl (by decide) (cok1 (cconst rfl)) ?_
    refine ⟨_, Wk.refl _ _, ?_⟩
    show awp _ _ _ _ _ _ _
    refine awp_ret_wk ?_
    refine ⟨_, Wk.refl _ _, ?_⟩
    repeat (with_reducible first | refine then_ret ?_ | refine blk_ret ?_ | refine then_exit ?_ | refine blk_exit ?_ | refine blk_exit' (by decide) ?_ | refine blk_normal ?_ | refine then_normal ?_ | refine retq_ret ?_ | refine retq_normal ?_ | refine ng_normal ?_ | refine ng_ret ?_ | refine ng_exit ?_)
    refine ret_drop rfl (.agg rfl Try.isAgg26 Try.sizeOf26 (loc_rd h0 rfl) (by decide) rfl (.tmp rfl .nil)) (v := noBuild) rfl rfl ⟨fun h => ?_, fun _ => ⟨rfl, rfl⟩⟩
    exfalso
    unfold buildOk at h
    omega
  ·
    try simp only [decide_eq_false_iff_not] at c1
    refine sv hF (gyes_none rfl) (q_mv (by conv => lhs; whnf)) rfl (by decide) (cok1 trivial) ?_
    refine sv hF (gyes_some rfl rfl) (q_mv (by conv => lhs; whnf)) rfl (by decide) (cok1 trivial) ?_
    refine svb hF (gyes_some rfl rfl) (q_int rfl rfl rfl) rfl (by decide) (cok2 trivial (cconst rfl)) (fun c2 => ?_) (fun c2 => ?_)
    ·
      try simp only [decide_eq_true_eq] at c2
      refine sv hF (gyes_none rfl) (q_pf rfl (by conv => lhs; whnf)) rfl (by decide) (call_ok rfl) ?_
      refine sv hF (gyes_none rfl) (q_mv (by conv => lhs; whnf)) rfl (by decide) (cok1 trivial) ?_
      refine sno rfl (.inl rfl) rfl (by decide) ?_
      refine sno rfl (.inl rfl) rfl (by decide) ?_
      refine sno rfl (.inl rfl) rfl (by decide) ?_
      refine sv hF (gyes_none rfl) (q_pt rfl (by conv => lhs; whnf)) rfl (by decide) (call_ok rfl) ?_
      refine sv hF (gyes_none rfl) (q_mv (by conv => lhs; whnf)) rfl (by decide) (cok1 trivial) ?_
      refine sno rfl (.inl rfl) rfl (by decide) ?_
      refine sno rfl (.inl rfl) rfl (by decide) ?_
      refine sno rfl (.inl rfl) rfl (by decide) ?_
      refine sv hF (gyes_none rfl) (q_pt rfl (by conv => lhs; whnf)) rfl (by decide) (call_ok rfl) ?_
      refine ⟨_, Wk.refl _ _, ?_⟩
      show awp _ _ _ _ _ _ _
      refine awp_cond_t rfl ?_
      refine awp_seq ?_
      refine awp_reg hF ?_
      refine sv hF (gyes_none rfl) (q_buildL [(0, 1), (1, 1)] [] Try.underlying26 Try.zeroValue26 (by first | exact flat_agg rfl | exact flat_scalar rfl) (by kernel_rfl) trivial lvs0 rfl) rfl (by decide) (by simp [Op.operands]) ?_
      refine se_store hF (gyes_none rfl) rfl Try.sizeOf26 rfl (by conv => lhs; whnf) (by first | exact loc_get h0 rfl | exact frm_get (by assumption)) rfl rfl (by exact trivial) (by exact (lcs2 (lc_scalar rfl) (lc_scalar rfl))) (by first | (simp; done) | exact Nat.le_of_ble_eq_true rfl) trivial trivial (by first | exact loc_set h0 _ | exact frm_set _ (by assumption) _) ?_
      refine sv hF (gyes_none rfl) (q_as (by conv => lhs; whnf)) rfl (by decide) (cok1 (cconst rfl)) ?_
      refine ⟨_, Wk.refl _ _, ?_⟩
      show awp _ _ _ _ _ _ _
      refine awp_ret_wk ?_
      refine ⟨_, Wk.refl _ _, ?_⟩
      repeat (with_reducible first | refine then_ret ?_ | refine blk_ret ?_ | refine then_exit ?_ | refine blk_exit ?_ | refine blk_exit' (by decide) ?_ | refine blk_normal ?_ | refine then_normal ?_ | refine retq_ret ?_ | refine retq_normal ?_ | refine ng_normal ?_ | refine ng_ret ?_ | refine ng_exit ?_)
      refine ret_drop rfl (.agg rfl Try.isAgg26 Try.sizeOf26 (loc_rd h0 rfl) (by decide) rfl (.tmp rfl .nil)) (v := noBuild) rfl rfl ⟨fun h => ?_, fun _ => ⟨rfl, rfl⟩⟩
      exfalso
      unfold buildOk at h
      omega
    ·
      try simp only [decide_eq_false_iff_not] at c2
      refine sv hF (gyes_none rfl) (q_pf rfl (by conv => lhs; whnf)) rfl (by decide) (call_ok rfl) ?_
      refine sv hF (gyes_none rfl) (q_mv (by conv => lhs; whnf)) rfl (by decide) (cok1 trivial) ?_
      refine sv hF (gyes_some rfl rfl) (q_mv (by conv => lhs; whnf)) rfl (by decide) (cok1 trivial) ?_
      refine sv hF (gyes_some rfl rfl) (q_len_sl Try.underlying22 (hN.app _) rfl) rfl (by decide) (call_ok rfl) ?_
      refine svb hF (gyes_some rfl rfl) (q_int rfl rfl rfl) rfl (by decide) (cok2 trivial (cconst rfl)) (fun c3 => ?_) (fun c3 => ?_)
      ·
        try simp only [decide_eq_true_eq] at c3
        refine sv hF (gyes_none rfl) (q_pf rfl (by conv => lhs; whnf)) rfl (by decide) (call_ok rfl) ?_
        refine sv hF (gyes_none rfl) (q_mv (by conv => lhs; whnf)) rfl (by decide) (cok1 trivial) ?_
        refine sno rfl (.inl rfl) rfl (by decide) ?_
        refine sno rfl (.inl rfl) rfl (by decide) ?_
        refine sno rfl (.inl rfl) rfl (by decide) ?_
        refine sv hF (gyes_none rfl) (q_pt rfl (by conv => lhs; whnf)) rfl (by decide) (call_ok rfl) ?_
        refine ⟨_, Wk.refl _ _, ?_⟩
        show awp _ _ _ _ _ _ _
        refine awp_cond_t rfl ?_
        refine awp_seq ?_
        refine awp_reg hF ?_
        refine sv hF (gyes_none rfl) (q_buildL [(0, 1), (1, 1)] [] Try.underlying26 Try.zeroValue26 (by first | exact flat_agg rfl | exact flat_scalar rfl) (by kernel_rfl) trivial lvs0 rfl) rfl (by decide) (by simp [Op.operands]) ?_
        refine se_store hF (gyes_none rfl) rfl Try.sizeOf26 rfl (by conv => lhs; whnf) (by first | exact loc_get h0 rfl | exact frm_get (by assumption)) rfl rfl (by exact trivial) (by exact (lcs2 (lc_scalar rfl) (lc_scalar rfl))) (by first | (simp; done) | exact Nat.le_of_ble_eq_true rfl) trivial trivial (by first | exact loc_set h0 _ | exact frm_set _ (by assumption) _) ?_
        refine sv hF (gyes_none rfl) (q_as (by conv => lhs; whnf)) rfl (by decide) (cok1 (cconst rfl)) ?_
        refine ⟨_, Wk.refl _ _, ?_⟩
        show awp _ _ _ _ _ _ _
        refine awp_ret_wk ?_
        refine ⟨_, Wk.refl _ _, ?_⟩
        repeat (with_reducible first | refine then_ret ?_ | refine blk_ret ?_ | refine then_exit ?_ | refine blk_exit ?_ | refine blk_exit' (by decide) ?_ | refine blk_normal ?_ | refine then_normal ?_ | refine retq_ret ?_ | refine retq_normal ?_ | refine ng_normal ?_ | refine ng_ret ?_ | refine ng_exit ?_)
        refine ret_drop rfl (.agg rfl Try.isAgg26 Try.sizeOf26 (loc_rd h0 rfl) (by decide) rfl (.tmp rfl .nil)) (v := noBuild) rfl rfl ⟨fun h => ?_, fun _ => ⟨rfl, rfl⟩⟩
        exfalso
        unfold buildOk at h
        omega
      ·
        try simp only [decide_eq_false_iff_not] at c3
        refine sv hF (gyes_none rfl) (q_pf rfl (by conv => lhs; whnf)) rfl (by decide) (call_ok rfl) ?_
        refine sv hF (gyes_none rfl) (q_mv (by conv => lhs; whnf)) rfl (by decide) (cok1 trivial) ?_
        refine sv hF (gyes_some rfl rfl) (q_mv (by conv => lhs; whnf)) rfl (by decide) (cok1 trivial) ?_
        refine sv hF (gyes_some rfl rfl) (q_len_sl Try.underlying22 (hN.app _) rfl) rfl (by decide) (call_ok rfl) ?_
        refine svb hF (gyes_some rfl rfl) (q_int rfl rfl rfl) rfl (by decide) (cok2 trivial (cconst rfl)) (fun c4 => ?_) (fun c4 => ?_)
        ·
          try simp only [decide_eq_true_eq] at c4
          refine sv hF (gyes_none rfl) (q_pf rfl (by conv => lhs; whnf)) rfl (by decide) (call_ok rfl) ?_
          refine ⟨_, Wk.refl _ _, ?_⟩
          show awp _ _ _ _ _ _ _
          refine awp_cond_t rfl ?_
          refine awp_seq ?_
          refine awp_reg hF ?_
          refine sv hF (gyes_none rfl) (q_buildL [(0, 1), (1, 1)] [] Try.underlying26 Try.zeroValue26 (by first | exact flat_agg rfl | exact flat_scalar rfl) (by kernel_rfl) trivial lvs0 rfl) rfl (by decide) (by simp [Op.operands]) ?_
          refine se_store hF (gyes_none rfl) rfl Try.sizeOf26 rfl (by conv => lhs; whnf) (by first | exact loc_get h0 rfl | exact frm_get (by assumption)) rfl rfl (by exact trivial) (by exact (lcs2 (lc_scalar rfl) (lc_scalar rfl))) (by first | (simp; done) | exact Nat.le_of_ble_eq_true rfl) trivial trivial (by first | exact loc_set h0 _ | exact frm_set _ (by assumption) _) ?_
          refine sv hF (gyes_none rfl) (q_as (by conv => lhs; whnf)) rfl (by decide) (cok1 (cconst rfl)) ?_
          refine ⟨_, Wk.refl _ _, ?_⟩
          show awp _ _ _ _ _ _ _
          refine awp_ret_wk ?_
          refine ⟨_, Wk.refl _ _, ?_⟩
          repeat (with_reducible first | refine then_ret ?_ | refine blk_ret ?_ | refine then_exit ?_ | refine blk_exit ?_ | refine blk_exit' (by decide) ?_ | refine blk_normal ?_ | refine then_normal ?_ | refine retq_ret ?_ | refine retq_normal ?_ | refine ng_normal ?_ | refine ng_ret ?_ | refine ng_exit ?_)
          refine ret_drop rfl (.agg rfl Try.isAgg26 Try.sizeOf26 (loc_rd h0 rfl) (by decide) rfl (.tmp rfl .nil)) (v := noBuild) rfl rfl ⟨fun h => ?_, fun _ => ⟨rfl, rfl⟩⟩
          exfalso
          unfold buildOk at h
          omega
        ·
          try simp only [decide_eq_false_iff_not] at c4
          obtain ⟨nb, rfl⟩ := Int.eq_ofNat_of_zero_le (show 0 ≤ buckets by omega)
          obtain ⟨bN, oN, cN, vsN, rfl, hRN, hlN, hcN, hgN⟩ := hN.get (i := 0) (by omega)
          refine sv hF (gyes_none rfl) (q_pf rfl (by conv => lhs; whnf)) rfl (by decide) (call_ok rfl) ?_
          refine ⟨_, Wk.refl _ _, ?_⟩
          show awp _ _ _ _ _ _ _
          refine awp_cond_f rfl ?_
          refine awp_skip_wk ?_
          refine ⟨_, Wk.refl _ _, ?_⟩
          show awp _ _ _ _ _ _ _
          refine awp_seq ?_
          refine awp_regt hF hM (by kernel_rfl) (by kernel_rfl) ?_
          refine dv (gyes_none rfl) (q_mv (by conv => lhs; whnf)) rfl (by decide) (cok1 trivial) ?_
          refine dn (gyes_none rfl) (q_makeSlice1 (N := n0 + 1) (loc_len h0 rfl) Try.underlying24 Try.typeInfo31 rfl Try.zeroValue31 rfl rfl rfl rfl (Nat.le_refl _) (by omega) (by show 4 * _ ≤ _; omega) (vs := (List.replicate nb 0).map u32v) (by simp [u32v])) rfl (by decide) (call_ok rfl) (List.append_assoc _ _ _) ?_
          refine dv (gyes_none rfl) (q_mv (by conv => lhs; whnf)) rfl (by decide) (cok1 trivial) ?_
          refine dv (gyes_none rfl) (q_len_sl Try.underlying22 (hN.app _) rfl) rfl (by decide) (call_ok rfl) ?_
          refine dn (gyes_none rfl) (q_makeSlice1 (N := n0 + 2) (loc_len h0 rfl) Try.underlying24 Try.typeInfo31 rfl Try.zeroValue31 rfl rfl rfl rfl (Nat.le_refl _) (by omega) (by show 4 * _ ≤ _; omega) (vs := (List.replicate names.length 0).map u32v) (by simp [u32v])) rfl (by decide) (call_ok rfl) (List.append_assoc _ _ _) ?_
          refine dv (gyes_none rfl) (q_buildL [(0, 1), (1, 1)] [_, _] Try.underlying26 Try.zeroValue26 (by first | exact flat_agg rfl | exact flat_scalar rfl) (by kernel_rfl) ⟨(by conv => lhs; whnf), (by conv => lhs; whnf), trivial⟩ (lvsC (by first | trivial | exact Rd.live (by first | exact loc_rd h0 rfl | exact frm_rd (by assumption) | exact frm_rd' (by assumption) | assumption) | exact (Sl.lc (by assumption)).1) (lvsC (by first | trivial | exact Rd.live (by first | exact loc_rd h0 rfl | exact frm_rd (by assumption) | exact frm_rd' (by assumption) | assumption) | exact (Sl.lc (by assumption)).1) lvs0)) rfl) rfl (by decide) (cok2 trivial trivial) ?_
          refine dn (gyes_none rfl) (q_allocN 1 (loc_len h0 rfl) Try.zeroValue26 (by first | exact flat_scalar rfl | exact flat_agg rfl) rfl) rfl (by decide) (by simp [Op.operands]) (List.append_assoc _ _ _) ?_
          refine de_store hF (by kernel_rfl) (gyes_none rfl) rfl Try.sizeOf26 rfl (by conv => lhs; whnf) (by first | exact loc_get h0 rfl | exact frm_get (by assumption)) rfl rfl (by exact trivial) (by exact (lcs2 (lc_slice (loc_rd h0 rfl).live) (lc_slice (loc_rd h0 rfl).live))) (by first | (simp; done) | exact Nat.le_of_ble_eq_true rfl) trivial trivial (by first | exact loc_set h0 _ | exact frm_set _ (by assumption) _) ?_
          refine ⟨_, Wk.refl _ _, ?_⟩
          show awp _ _ _ _ _ _ _
          refine awp_seq ?_
          refine awp_seq ?_
          refine awp_reg hF ?_
          refine sv hF (gyes_none rfl) (q_as (by conv => lhs; whnf)) rfl (by decide) (cok1 (cconst rfl)) ?_
          refine ⟨_, Wk.refl _ _, ?_⟩
          show awp _ _ _ _ _ _ _
          refine awp_block ?_
          refine awp_wk (Wk.U [(0, .slice (some ⟨bN, oN, none⟩) names.length cN), (4, .pointer (some ⟨n0 + 0, 0, none⟩)), (6, .pointer (some ⟨n0 + 3, 0, none⟩)), (7, .int .i64 ((1 : Nat) : Int))] ⟨rfl, rfl, rfl, rfl, trivial⟩) ?_
          refine awp_loop (fun (p : Nat × List Nat × List Nat) st => 1 ≤ p.1 ∧ p.1 ≤ names.length ∧ (p.2.1, p.2.2) = buildN names nb p.1 ∧ p.2.1.length = nb ∧ p.2.2.length = names.length ∧ ∃ vb vc, vb = p.2.1.map u32v ∧ vc = p.2.2.map u32v ∧ st = ⟨60, U [(0, .slice (some ⟨bN, oN, none⟩) names.length cN), (4, .pointer (some ⟨n0 + 0, 0, none⟩)), (6, .pointer (some ⟨n0 + 3, 0, none⟩)), (7, .int .i64 ((p.1 : Nat) : Int))], [], H0 ++ [.cells true [.slice none 0 0, .slice none 0 0] 1, .cells true vb 1, .cells true vc 1, .cells true [.slice (some ⟨n0 + 1, 0, none⟩) nb nb, .slice (some ⟨n0 + 2, 0, none⟩) names.length names.length] 1]⟩) (fun p => names.length - p.1) (x0 := (1, List.replicate nb 0, List.replicate names.length 0)) ?h0 ?round
          case h0 => exact ⟨Nat.le_refl _, by omega, rfl, List.length_replicate, List.length_replicate, _, _, rfl, rfl, rfl⟩
          case round =>
            rintro ⟨i, B, C⟩ _ ⟨hi1, hi2, hBC, hBl, hCl, vb, vc, rfl, rfl, rfl⟩
            dsimp only at hi1 hi2 hBC hBl hCl
            subst hBl
            show awp _ _ _ _ _ _ (⟨60, U [(0, .slice (some ⟨bN, oN, none⟩) names.length cN), (4, .pointer (some ⟨n0 + 0, 0, none⟩)), (6, .pointer (some ⟨n0 + 3, 0, none⟩)), (7, .int .i64 ((i : Nat) : Int))], [], H0 ++ [.cells true [.slice none 0 0, .slice none 0 0] 1, .cells true (B.map u32v) 1, .cells true (C.map u32v) 1, .cells true [.slice (some ⟨n0 + 1, 0, none⟩) B.length B.length, .slice (some ⟨n0 + 2, 0, none⟩) names.length names.length] 1]⟩ : ASt)
            refine awp_seq ?_
            refine awp_seq ?_
            refine awp_reg hF ?_
            refine sv hF (gyes_none rfl) (q_mv (by conv => lhs; whnf)) rfl (by decide) (cok1 trivial) ?_
            refine sv hF (gyes_none rfl) (q_mv (by conv => lhs; whnf)) rfl (by decide) (cok1 trivial) ?_
            refine sv hF (gyes_none rfl) (q_len_sl Try.underlying22 (hN.app _) rfl) rfl (by decide) (call_ok rfl) ?_
            refine svb hF (gyes_none rfl) (q_int rfl rfl rfl) rfl (by decide) (cok2 trivial trivial) (fun c5 => ?_) (fun c5 => ?_)
            ·
              try simp only [decide_eq_true_eq] at c5
              have hi : i < names.length := by omega
              have hk : hash names[i] % B.length < B.length := Nat.mod_lt _ (by omega)
              refine ⟨_, Wk.refl _ _, ?_⟩
              show awp _ _ _ _ _ _ _
              refine awp_cond_t rfl ?_
              refine awp_skip_wk ?_
              refine ⟨_, Wk.refl _ _, ?_⟩
              show awp _ _ _ _ _ _ _
              refine awp_seq ?_
              refine awp_block ?_
              refine awp_seq ?_
              refine awp_regt hF hM (by kernel_rfl) (by kernel_rfl) ?_
              refine dv (gyes_none rfl) (q_loadAgg Try.isAgg26 Try.sizeOf26 rfl (by first | exact loc_rd h0 rfl | exact frm_rd (by assumption) | exact frm_rd' (by assumption) | assumption) (by first | (simp; done) | exact Nat.le_of_ble_eq_true rfl) rfl) rfl (by decide) (cok1 trivial) ?_
              refine dv (gyes_none rfl) (q_mv (by conv => lhs; whnf)) rfl (by decide) (cok1 trivial) ?_
              refine dv (gyes_none rfl) (q_mv (by conv => lhs; whnf)) rfl (by decide) (cok1 trivial) ?_
              refine dv (gyes_none rfl) (q_index1 Try.underlying22 Try.sizeOf9 rfl rfl hi (frm_rd' hRN)) rfl (by decide) (call_ok rfl) ?_
              refine dv (gyes_none rfl) (q_load Try.isAgg9 rfl (frm_rd' hRN) (hgN _ hi)) rfl (by decide) (call_ok rfl) ?_
              refine dv (gyes_none rfl) (q_call0 Try.call20 rfl (bucket_ok (loc_len h0 rfl) names[i] (hNs _ (List.getElem_mem hi)) B _ _ (sl_full (loc_rd h0 rfl) rfl (Nat.le_refl _)) (by omega) (by omega))) rfl (by decide) (call_ok rfl) ?_
              refine dv (gyes_none rfl) (q_as (by conv => lhs; whnf)) rfl (by decide) (cok1 trivial) ?_
              refine ⟨_, Wk.refl _ _, ?_⟩
              show awp _ _ _ _ _ _ _
              refine awp_regt hF hM (by kernel_rfl) (by kernel_rfl) ?_
              refine dv (gyes_none rfl) (q_field Try.underlying26 rfl Try.sizeOf24 rfl (by first | exact loc_rd h0 rfl | exact frm_rd (by assumption) | exact frm_rd' (by assumption) | assumption)) rfl (by decide) (cok1 trivial) ?_
              refine dv (gyes_none rfl) (q_load Try.isAgg24 rfl (by first | exact loc_rd h0 rfl | exact frm_rd (by assumption) | exact frm_rd' (by assumption) | assumption) rfl) rfl (by decide) (cok1 trivial) ?_
              refine dv (gyes_none rfl) (q_mv (by conv => lhs; whnf)) rfl (by decide) (cok1 trivial) ?_
              refine dv (gyes_none rfl) (q_field Try.underlying26 rfl Try.sizeOf24 rfl (by first | exact loc_rd h0 rfl | exact frm_rd (by assumption) | exact frm_rd' (by assumption) | assumption)) rfl (by decide) (cok1 trivial) ?_
              refine dv (gyes_none rfl) (q_load Try.isAgg24 rfl (by first | exact loc_rd h0 rfl | exact frm_rd (by assumption) | exact frm_rd' (by assumption) | assumption) rfl) rfl (by decide) (cok1 trivial) ?_
              refine dv (gyes_none rfl) (q_mv (by conv => lhs; whnf)) rfl (by decide) (cok1 trivial) ?_
              refine dv (gyes_none rfl) (q_field Try.underlying26 rfl Try.sizeOf24 rfl (by first | exact loc_rd h0 rfl | exact frm_rd (by assumption) | exact frm_rd' (by assumption) | assumption)) rfl (by decide) (cok1 trivial) ?_
              refine dv (gyes_none rfl) (q_load Try.isAgg24 rfl (by first | exact loc_rd h0 rfl | exact frm_rd (by assumption) | exact frm_rd' (by assumption) | assumption) rfl) rfl (by decide) (cok1 trivial) ?_
              refine dv (gyes_none rfl) (q_mv (by conv => lhs; whnf)) rfl (by decide) (cok1 trivial) ?_
              refine dv (gyes_none rfl) (q_index1 Try.underlying24 Try.sizeOf31 rfl rfl hk (loc_rd h0 rfl)) rfl (by decide) (call_ok rfl) ?_
              refine dv (gyes_none rfl) (q_load Try.isAgg31 rfl (loc_rd h0 rfl) (get_map hk)) rfl (by decide) (call_ok rfl) ?_
              refine dv (gyes_none rfl) (q_mv (by conv => lhs; whnf)) rfl (by decide) (cok1 trivial) ?_
              refine dv (gyes_none rfl) (q_convin Try.underlying3 Try.underlying31 rfl (u32_in (by omega))) rfl (by decide) (call_ok rfl) ?_
              refine dv (gyes_none rfl) (q_index1 Try.underlying24 Try.sizeOf31 rfl rfl hi (loc_rd h0 rfl)) rfl (by decide) (call_ok rfl) ?_
              refine df_store1 hF [3, 4, 5, 11, 12] (by kernel_rfl) (gyes_none rfl) rfl Try.sizeOf31 rfl (by conv => lhs; whnf) (by first | exact loc_get h0 rfl | exact frm_get (by assumption)) (by first | exact lc_scalar rfl | exact lc_slice (Rd.live (by first | exact loc_rd h0 rfl | exact frm_rd (by assumption) | exact frm_rd' (by assumption) | assumption)) | exact lc_ptr (Rd.live (by first | exact loc_rd h0 rfl | exact frm_rd (by assumption) | exact frm_rd' (by assumption) | assumption))) (by rw [List.length_map]; omega) trivial trivial (by first | exact loc_set h0 _ | exact frm_set _ (by assumption) _) rfl rfl ⟨pend_yes rfl (gyes_none rfl) (q_field Try.underlying26 rfl Try.sizeOf24 rfl (by first | exact loc_rd h0 rfl | exact frm_rd (by assumption) | exact frm_rd' (by assumption) | assumption)) rfl (by decide) (cok1 trivial) rfl, pend_yes rfl (gyes_none rfl) (q_load Try.isAgg24 rfl (by first | exact loc_rd h0 rfl | exact frm_rd (by assumption) | exact frm_rd' (by assumption) | assumption) rfl) rfl (by decide) (cok1 trivial) rfl, pend_yes rfl (gyes_none rfl) (q_mv rfl) rfl (by decide) (cok1 trivial) rfl, pend_yes rfl (gyes_none rfl) (q_mv rfl) rfl (by decide) (cok1 trivial) rfl, pend_yes rfl (gyes_none rfl) (q_convin Try.underlying3 Try.underlying31 rfl (u32_in (by omega))) rfl (by decide) (call_ok rfl) rfl, trivial⟩ ?_
              refine dv (gyes_none rfl) (q_index1 Try.underlying24 Try.sizeOf31 rfl rfl hk (loc_rd h0 rfl)) rfl (by decide) (call_ok rfl) ?_
              refine de_store1 hF (by kernel_rfl) (gyes_none rfl) rfl Try.sizeOf31 rfl (by conv => lhs; whnf) (by first | exact loc_get h0 rfl | exact frm_get (by assumption)) (by first | exact lc_scalar rfl | exact lc_slice (Rd.live (by first | exact loc_rd h0 rfl | exact frm_rd (by assumption) | exact frm_rd' (by assumption) | assumption)) | exact lc_ptr (Rd.live (by first | exact loc_rd h0 rfl | exact frm_rd (by assumption) | exact frm_rd' (by assumption) | assumption))) (by rw [List.length_map]; omega) trivial trivial (by first | exact loc_set h0 _ | exact frm_set _ (by assumption) _) ?_
              refine ⟨_, Wk.refl _ _, ?_⟩
              show awp _ _ _ _ _ _ _
              refine awp_reg hF ?_
              refine sv hF (gyes_none rfl) (q_mv (by conv => lhs; whnf)) rfl (by decide) (cok1 trivial) ?_
              refine sv hF (gyes_none rfl) (by first | exact q_add64 rfl rfl (by omega) | exact q_int rfl rfl rfl) rfl (by decide) (cok2 trivial (cconst rfl)) ?_
              refine sv hF (gyes_none rfl) (q_as (by conv => lhs; whnf)) rfl (by decide) (cok1 trivial) ?_
              refine ⟨_, Wk.U [(0, .slice (some ⟨bN, oN, none⟩) names.length cN), (4, .pointer (some ⟨n0 + 0, 0, none⟩)), (6, .pointer (some ⟨n0 + 3, 0, none⟩)), (7, .int .i64 (((i + 1) : Nat) : Int))] ⟨rfl, rfl, rfl, rfl, trivial⟩, (i + 1, B.set (hash names[i] % B.length) i, C.set i B[hash names[i] % B.length]), ⟨by show 1 ≤ i + 1; omega, hi, build_step hi hi1 hk hBC, List.length_set, by rw [List.length_set]; exact hCl, _, _, set_map _ _, set_map _ _, rfl⟩, show names.length - (i + 1) < names.length - i by omega⟩
            ·
              try simp only [decide_eq_false_iff_not] at c5
              refine ⟨_, Wk.refl _ _, ?_⟩
              show awp _ _ _ _ _ _ _
              refine awp_cond_f rfl ?_
              refine awp_exit_wk ?_
              refine ⟨_, Wk.refl _ _, ?_⟩
              show awp _ _ _ _ _ _ _
              refine awp_seq ?_
              refine awp_reg hF ?_
              refine sv hF (gyes_none rfl) (q_loadAgg Try.isAgg26 Try.sizeOf26 rfl (by first | exact loc_rd h0 rfl | exact frm_rd (by assumption) | exact frm_rd' (by assumption) | assumption) (by first | (simp; done) | exact Nat.le_of_ble_eq_true rfl) rfl) rfl (by decide) (cok1 trivial) ?_
              refine se_store hF (gyes_none rfl) rfl Try.sizeOf26 rfl (by conv => lhs; whnf) (by first | exact loc_get h0 rfl | exact frm_get (by assumption)) rfl rfl (by exact trivial) (by exact (lcs2 (lc_slice (loc_rd h0 rfl).live) (lc_slice (loc_rd h0 rfl).live))) (by first | (simp; done) | exact Nat.le_of_ble_eq_true rfl) trivial trivial (by first | exact loc_set h0 _ | exact frm_set _ (by assumption) _) ?_
              refine sv hF (gyes_none rfl) (q_as (by conv => lhs; whnf)) rfl (by decide) (cok1 (cconst rfl)) ?_
              refine ⟨_, Wk.refl _ _, ?_⟩
              show awp _ _ _ _ _ _ _
              refine awp_ret_wk ?_
              refine ⟨_, Wk.refl _ _, ?_⟩
              repeat (with_reducible first | refine then_ret ?_ | refine blk_ret ?_ | refine then_exit ?_ | refine blk_exit ?_ | refine blk_exit' (by decide) ?_ | refine blk_normal ?_ | refine then_normal ?_ | refine retq_ret ?_ | refine retq_normal ?_ | refine ng_normal ?_ | refine ng_ret ?_ | refine ng_exit ?_)
              obtain rfl : i = names.length := by omega
              rw [← Int.toNat_natCast B.length] at hBC
              refine ret_keep [1, 2] (L2 := [.cells true (B.map u32v) 1, .cells true (C.map u32v) 1]) rfl h0 (.agg rfl Try.isAgg26 Try.sizeOf26 (loc_rd h0 rfl) (Nat.le_of_ble_eq_true rfl) rfl (.tmp rfl .nil)) (by decide) ⟨⟨_, rfl, .cells (.scalars (all_u32v _))⟩, by simp, ⟨⟨_, rfl, .cells (.scalars (all_u32v _))⟩, by simp, trivial⟩⟩ (v2 := buildV (n0 + 0) (n0 + 1) B.length names.length) ?_ ⟨fun h => ⟨rfl, ?_⟩, fun h => ?_⟩
              · refine .tuple rfl fun j hj => ?_
                match j, hj with
                | 0, _ => exact .agg rfl fun j hj => (match j, hj with | 0, _ => .slice (keep_new rfl) | 1, _ => .slice (keep_new rfl))
                | 1, _ => exact .scalar rfl
              · rw [← hBC]
              · exact absurd ⟨by omega, by omega, by omega, by omega⟩ h

end Go.Proofs.YtmoldjiooccppaaA


/-
  Walks of functions of the given program, and what they compute.
-/
namespace Go.Proofs.YtmoldjiooccppaaA
set_option linter.unusedVariables false
open Go Go.RowKit Go.Shelf Go.Proofs
/-- The walk of a name. -/
def walkGo (C : List Nat) : Nat → Nat → List Nat
  | 0, _ => []
  | n + 1, x => if h : x = 0 ∨ C.length ≤ x then [] else x :: walkGo C n (C[x]'(by omega))
def walkL (B C : List Nat) (s : ByteArray) : List Nat := if h : 0 < B.length then walkGo C C.length (B[hash s % B.length]'(Nat.mod_lt _ h)) else []
theorem go_stop {C : List Nat} {n x : Nat} (h : x = 0 ∨ C.length ≤ x) : walkGo C n x = [] := by
  cases n with
  | zero => rfl
  | succ n => unfold walkGo; rw [dif_pos h]
theorem go_step {C : List Nat} {n x : Nat} (hn : 0 < n) (h0 : x ≠ 0) (h : x < C.length) : walkGo C n x = x :: walkGo C (n - 1) C[x] := by
  cases n with
  | zero => omega
  | succ n => rw [walkGo, dif_neg (by omega)]; rfl
theorem walk_nil {B C : List Nat} {s : ByteArray} (h : B.length = 0) : walkL B C s = [] := by unfold walkL; rw [dif_neg (by omega)]
theorem walk_pos {B C : List Nat} {s : ByteArray} (h : 0 < B.length) : walkL B C s = walkGo C C.length (B[hash s % B.length]'(Nat.mod_lt _ h)) := by unfold walkL; rw [dif_pos h]
theorem drop_end {α : Type} {l : List α} {k : Nat} (h : l.drop k = []) (hk : k ≤ l.length) : k = l.length := by
  have := List.drop_eq_nil_iff.1 h; omega
theorem drop_step {α : Type} {l l' : List α} {k : Nat} {x : α} (h : l.drop k = x :: l') : l[k]? = some x ∧ l.drop (k + 1) = l' ∧ k + 1 ≤ l.length := by
  refine ⟨?_, ?_, ?_⟩
  · have := congrArg (fun l => l[0]?) h
    simpa using this
  · have := congrArg (List.drop 1) h
    rw [List.drop_drop] at this
    simpa [Nat.add_comm] using this
  · have := congrArg List.length h
    simp at this; omega
set_option maxRecDepth 100000 in
set_option maxHeartbeats 2000000 in
theorem walk1_ok {H0 : AHeap} {n0 : Nat} (h0 : H0.length = n0) (s : ByteArray) (hs : s.size ≤ 140737488355328) (B C : List Nat) (vB vC : Value) (hB1 : B.length < 4294967296) (hBv : ∀ x ∈ B, x < 4294967296) (hCv : ∀ x ∈ C, x < 4294967296) (hC1 : C.length ≤ 4294967296) (y : Value) (b1 b2 : Nat) (I E : Nat → AHeap → Prop) (h00 : I 0 H0)
    (hb : ∀ k H, I k H → H[b1]? = some (.cells true [vB, vC] 1) ∧ H[b2]? = some (.cells true [.string s] 1) ∧ Sl u32v H vB B ∧ Sl u32v H vC C)
    (hy : ∀ (k : Nat) H (x : Nat), I k H → (walkL B C s)[k]? = some x → Ylds Try.prog y [.int .i64 ((x : Nat) : Int)] H (fun b H' => (b = true → I (k + 1) H') ∧ (b = false → E (k + 1) H'))) : ACalls Try.prog 21 [y, .pointer (some ⟨b1, 0, none⟩), .pointer (some ⟨b2, 0, none⟩)] H0 (fun v H' => v = .tuple #[] ∧ (I (walkL B C s).length H' ∨ ∃ k, k < (walkL B C s).length ∧ E (k + 1) H')) := by
  have hF : Wd Fence.wide := .inl rfl
  have hM : Try.prog.follows .mixedOrders = true := by kernel_rfl
  obtain ⟨hb01, hb02, hSB0, hSC0⟩ := hb 0 H0 h00
  refine acalls_begin Try.func21 rfl Try.ntmps21 rfl ?_
  refine awp_seq ?_
  refine awp_seq ?_
  refine awp_reg hF ?_
  refine sv hF (gyes_none rfl) (q_field Try.underlying26 rfl Try.sizeOf24 rfl (by first | exact loc_rd h0 rfl | exact frm_rd (by assumption) | exact frm_rd' (by assumption) | assumption)) rfl (by decide) (cok1 trivial) ?_
  refine sv hF (gyes_none rfl) (q_load Try.isAgg24 rfl (by first | exact loc_rd h0 rfl | exact frm_rd (by assumption) | exact frm_rd' (by assumption) | assumption) rfl) rfl (by decide) (cok1 trivial) ?_
  refine sv hF (gyes_none rfl) (q_len_sl Try.underlying24 (Sl.app (hSB0) _) rfl) rfl (by decide) (call_ok rfl) ?_
  refine svb hF (gyes_none rfl) (q_int rfl rfl rfl) rfl (by decide) (cok2 trivial (cconst rfl)) (fun c1 => ?_) (fun c1 => ?_)
  ·
    try simp only [beq_iff_eq] at c1
    refine ⟨_, Wk.refl _ _, ?_⟩
    show awp _ _ _ _ _ _ _
    refine awp_cond_t rfl ?_
    refine awp_ret_wk ?_
    refine ⟨_, Wk.refl _ _, ?_⟩
    repeat (with_reducible first | refine then_ret ?_ | refine blk_ret ?_ | refine then_exit ?_ | refine blk_exit ?_ | refine blk_exit' (by decide) ?_ | refine blk_normal ?_ | refine then_normal ?_ | refine retq_ret ?_ | refine retq_normal ?_ | refine ng_normal ?_ | refine ng_ret ?_ | refine ng_exit ?_)
    exact ret_same rfl .nil rfl ⟨rfl, .inl (by rw [walk_nil (by omega)]; exact h00)⟩
  ·
    try simp only [beq_eq_false_iff_ne, ne_eq] at c1
    have hB0 : 0 < B.length := by omega
    have hm : hash s % B.length < B.length := Nat.mod_lt _ hB0
    obtain ⟨bB, oB, cB, vsB, rfl, hRB, hlB, hcB, hgB⟩ := hSB0.get hB0
    refine ⟨_, Wk.refl _ _, ?_⟩
    show awp _ _ _ _ _ _ _
    refine awp_cond_f rfl ?_
    refine awp_skip_wk ?_
    refine ⟨_, Wk.refl _ _, ?_⟩
    show awp _ _ _ _ _ _ _
    refine awp_seq ?_
    refine awp_regt hF hM (by kernel_rfl) (by kernel_rfl) ?_
    refine dv (gyes_none rfl) (q_field Try.underlying26 rfl Try.sizeOf24 rfl (by first | exact loc_rd h0 rfl | exact frm_rd (by assumption) | exact frm_rd' (by assumption) | assumption)) rfl (by decide) (cok1 trivial) ?_
    refine dv (gyes_none rfl) (q_load Try.isAgg24 rfl (by first | exact loc_rd h0 rfl | exact frm_rd (by assumption) | exact frm_rd' (by assumption) | assumption) rfl) rfl (by decide) (cok1 trivial) ?_
    refine dv (gyes_none rfl) (q_loadAgg Try.isAgg26 Try.sizeOf26 rfl (by first | exact loc_rd h0 rfl | exact frm_rd (by assumption) | exact frm_rd' (by assumption) | assumption) (by first | (simp; done) | exact Nat.le_of_ble_eq_true rfl) rfl) rfl (by decide) (cok1 trivial) ?_
    refine dv (gyes_none rfl) (q_load Try.isAgg9 rfl (by first | exact loc_rd h0 rfl | exact frm_rd (by assumption) | exact frm_rd' (by assumption) | assumption) rfl) rfl (by decide) (cok1 trivial) ?_
    refine dv (gyes_none rfl) (q_call0 Try.call20 rfl (bucket_ok (loc_len h0 rfl) s hs B _ vC (hSB0.app _) hB0 hB1)) rfl (by decide) (call_ok rfl) ?_
    refine dv (gyes_none rfl) (q_index1 Try.underlying24 Try.sizeOf31 rfl rfl hm (frm_rd' hRB)) rfl (by decide) (call_ok rfl) ?_
    refine dv (gyes_none rfl) (q_load Try.isAgg31 rfl (frm_rd' hRB) (hgB _ hm)) rfl (by decide) (call_ok rfl) ?_
    refine dv (gyes_none rfl) (q_as (by conv => lhs; whnf)) rfl (by decide) (cok1 trivial) ?_
    refine ⟨_, Wk.refl _ _, ?_⟩
    show awp _ _ _ _ _ _ _
    refine awp_seq ?_
    refine awp_reg hF ?_
    refine sv hF (gyes_none rfl) (q_field Try.underlying26 rfl Try.sizeOf24 rfl (by first | exact loc_rd h0 rfl | exact frm_rd (by assumption) | exact frm_rd' (by assumption) | assumption)) rfl (by decide) (cok1 trivial) ?_
    refine sv hF (gyes_none rfl) (q_load Try.isAgg24 rfl (by first | exact loc_rd h0 rfl | exact frm_rd (by assumption) | exact frm_rd' (by assumption) | assumption) rfl) rfl (by decide) (cok1 trivial) ?_
    refine sv hF (gyes_none rfl) (q_len_sl Try.underlying24 (Sl.app (hSC0) _) rfl) rfl (by decide) (call_ok rfl) ?_
    refine sv hF (gyes_none rfl) (q_mv (by conv => lhs; whnf)) rfl (by decide) (cok1 (cconst rfl)) ?_
    refine ⟨_, Wk.refl _ _, ?_⟩
    show awp _ _ _ _ _ _ _
    refine awp_block ?_
    refine awp_wk (Wk.U [(0, y), (1, .pointer (some ⟨b1, 0, none⟩)), (2, .pointer (some ⟨b2, 0, none⟩)), (4, .int .u32 ((B[hash s % B.length]'hm : Nat) : Int)), (18, .int .i64 ((C.length : Nat) : Int)), (19, .int .i64 ((0 : Nat) : Int))] ⟨rfl, rfl, rfl, rfl, rfl, rfl, trivial⟩) ?_
    refine awp_loop (fun (p : Nat × Nat × AHeap) st => (walkL B C s).drop p.1 = walkGo C (C.length - p.1) p.2.1 ∧ p.1 ≤ (walkL B C s).length ∧ p.1 ≤ C.length ∧ p.2.1 < 4294967296 ∧ I p.1 p.2.2 ∧ st = ⟨44, U [(0, y), (1, .pointer (some ⟨b1, 0, none⟩)), (2, .pointer (some ⟨b2, 0, none⟩)), (4, .int .u32 ((p.2.1 : Nat) : Int)), (18, .int .i64 ((C.length : Nat) : Int)), (19, .int .i64 ((p.1 : Nat) : Int))], [], p.2.2 ++ []⟩) (fun p => C.length - p.1) (x0 := (0, B[hash s % B.length]'hm, H0)) ?h0 ?round
    case h0 => exact ⟨walk_pos hB0, Nat.zero_le _, Nat.zero_le _, hBv _ (List.getElem_mem hm), h00, rfl⟩
    case round =>
      rintro ⟨k, x, H⟩ _ ⟨hw, hk, hkC, hx, hI, rfl⟩
      dsimp only at hw hk hkC hx hI
      obtain ⟨hb1, hb2, hSB, hSC⟩ := hb k H hI
      show awp _ _ _ _ _ _ (⟨44, U [(0, y), (1, .pointer (some ⟨b1, 0, none⟩)), (2, .pointer (some ⟨b2, 0, none⟩)), (4, .int .u32 ((x : Nat) : Int)), (18, .int .i64 ((C.length : Nat) : Int)), (19, .int .i64 ((k : Nat) : Int))], [], H ++ []⟩ : ASt)
      refine awp_seq ?_
      refine awp_reg hF ?_
      refine svb hF (gyes_none rfl) (q_int rfl rfl rfl) rfl (by decide) (cok2 trivial trivial) (fun c2 => ?_) (fun c2 => ?_)
      ·
        try simp only [decide_eq_true_eq] at c2
        refine ⟨_, Wk.refl _ _, ?_⟩
        show awp _ _ _ _ _ _ _
        refine awp_seq ?_
        refine awp_cond_t rfl ?_
        refine awp_skip_wk ?_
        refine ⟨_, Wk.refl _ _, ?_⟩
        show awp _ _ _ _ _ _ _
        refine awp_seq ?_
        refine awp_block ?_
        refine awp_seq ?_
        refine awp_seq ?_
        refine awp_reg hF ?_
        refine sv hF (gyes_none rfl) (q_mv (by conv => lhs; whnf)) rfl (by decide) (cok1 trivial) ?_
        refine svb hF (gyes_none rfl) (q_int rfl rfl rfl) rfl (by decide) (cok2 trivial (cconst rfl)) (fun c3 => ?_) (fun c3 => ?_)
        ·
          try simp only [beq_iff_eq] at c3
          refine sv hF (gyes_none rfl) (q_mv (by conv => lhs; whnf)) rfl (by decide) (cok1 trivial) ?_
          refine sno rfl (.inl rfl) rfl (by decide) ?_
          refine sno rfl (.inl rfl) rfl (by decide) ?_
          refine sno rfl (.inl rfl) rfl (by decide) ?_
          refine sno rfl (.inl rfl) rfl (by decide) ?_
          refine sno rfl (.inl rfl) rfl (by decide) ?_
          refine sno rfl (.inl rfl) rfl (by decide) ?_
          refine sv hF (gyes_none rfl) (q_pt rfl (by conv => lhs; whnf)) rfl (by decide) (call_ok rfl) ?_
          refine sv hF (gyes_none rfl) (q_mv (by conv => lhs; whnf)) rfl (by decide) (cok1 trivial) ?_
          refine sno rfl (.inl rfl) rfl (by decide) ?_
          refine sno rfl (.inl rfl) rfl (by decide) ?_
          refine sno rfl (.inl rfl) rfl (by decide) ?_
          refine sno rfl (.inl rfl) rfl (by decide) ?_
          refine sno rfl (.inl rfl) rfl (by decide) ?_
          refine sv hF (gyes_none rfl) (q_pt rfl (by conv => lhs; whnf)) rfl (by decide) (call_ok rfl) ?_
          refine ⟨_, Wk.refl _ _, ?_⟩
          show awp _ _ _ _ _ _ _
          refine awp_cond_t rfl ?_
          refine awp_ret_wk ?_
          refine ⟨_, Wk.refl _ _, ?_⟩
          repeat (with_reducible first | refine then_ret ?_ | refine blk_ret ?_ | refine then_exit ?_ | refine blk_exit ?_ | refine blk_exit' (by decide) ?_ | refine blk_normal ?_ | refine then_normal ?_ | refine retq_ret ?_ | refine retq_normal ?_ | refine ng_normal ?_ | refine ng_ret ?_ | refine ng_exit ?_)
          have e := drop_end (hw.trans (go_stop (by omega))) hk
          subst e
          exact ret_same rfl .nil rfl ⟨rfl, .inl hI⟩
        ·
          try simp only [beq_eq_false_iff_ne, ne_eq] at c3
          refine sv hF (gyes_none rfl) (q_mv (by conv => lhs; whnf)) rfl (by decide) (cok1 trivial) ?_
          refine sv hF (gyes_some rfl rfl) (q_mv (by conv => lhs; whnf)) rfl (by decide) (cok1 trivial) ?_
          refine sv hF (gyes_some rfl rfl) (q_convin Try.underlying31 Try.underlying3 rfl (i64_in (by omega))) rfl (by decide) (call_ok rfl) ?_
          refine sv hF (gyes_some rfl rfl) (q_field Try.underlying26 rfl Try.sizeOf24 rfl (by first | exact loc_rd h0 rfl | exact frm_rd (by assumption) | exact frm_rd' (by assumption) | assumption)) rfl (by decide) (cok1 trivial) ?_
          refine sv hF (gyes_some rfl rfl) (q_load Try.isAgg24 rfl (by first | exact loc_rd h0 rfl | exact frm_rd (by assumption) | exact frm_rd' (by assumption) | assumption) rfl) rfl (by decide) (cok1 trivial) ?_
          refine sv hF (gyes_some rfl rfl) (q_len_sl Try.underlying24 (Sl.app (hSC) _) rfl) rfl (by decide) (call_ok rfl) ?_
          refine svb hF (gyes_some rfl rfl) (q_int rfl rfl rfl) rfl (by decide) (cok2 trivial trivial) (fun c4 => ?_) (fun c4 => ?_)
          ·
            try simp only [decide_eq_true_eq] at c4
            refine sv hF (gyes_none rfl) (q_pf rfl (by conv => lhs; whnf)) rfl (by decide) (call_ok rfl) ?_
            refine sv hF (gyes_none rfl) (q_mv (by conv => lhs; whnf)) rfl (by decide) (cok1 trivial) ?_
            refine sno rfl (.inl rfl) rfl (by decide) ?_
            refine sno rfl (.inl rfl) rfl (by decide) ?_
            refine sno rfl (.inl rfl) rfl (by decide) ?_
            refine sno rfl (.inl rfl) rfl (by decide) ?_
            refine sno rfl (.inl rfl) rfl (by decide) ?_
            refine sv hF (gyes_none rfl) (q_pt rfl (by conv => lhs; whnf)) rfl (by decide) (call_ok rfl) ?_
            refine ⟨_, Wk.refl _ _, ?_⟩
            show awp _ _ _ _ _ _ _
            refine awp_cond_t rfl ?_
            refine awp_ret_wk ?_
            refine ⟨_, Wk.refl _ _, ?_⟩
            repeat (with_reducible first | refine then_ret ?_ | refine blk_ret ?_ | refine then_exit ?_ | refine blk_exit ?_ | refine blk_exit' (by decide) ?_ | refine blk_normal ?_ | refine then_normal ?_ | refine retq_ret ?_ | refine retq_normal ?_ | refine ng_normal ?_ | refine ng_ret ?_ | refine ng_exit ?_)
            have e := drop_end (hw.trans (go_stop (by omega))) hk
            subst e
            exact ret_same rfl .nil rfl ⟨rfl, .inl hI⟩
          ·
            try simp only [decide_eq_false_iff_not] at c4
            have hxC : x < C.length := by omega
            obtain ⟨hd1, hd2, hd3⟩ := drop_step (hw.trans (go_step (by omega) (by omega) hxC))
            refine sv hF (gyes_none rfl) (q_pf rfl (by conv => lhs; whnf)) rfl (by decide) (call_ok rfl) ?_
            refine sv hF (gyes_none rfl) (q_mv (by conv => lhs; whnf)) rfl (by decide) (cok1 trivial) ?_
            refine sv hF (gyes_some rfl rfl) (q_mv (by conv => lhs; whnf)) rfl (by decide) (cok1 trivial) ?_
            refine sv hF (gyes_some rfl rfl) (q_mv (by conv => lhs; whnf)) rfl (by decide) (cok1 trivial) ?_
            refine sv hF (gyes_some rfl rfl) (q_convin Try.underlying31 Try.underlying3 rfl (i64_in (by omega))) rfl (by decide) (call_ok rfl) ?_
            refine se_yield (gyes_some rfl rfl) rfl rfl (hy k H x hI hd1) (by first | exact trivial | (show _ < _; decide)) (call_ok rfl) ?_
            intro b H' hR
            refine svb hF (gyes_some rfl rfl) (q_not rfl) rfl (by decide) (cok1 trivial) (fun c5 => ?_) (fun c5 => ?_)
            ·
              try simp only [Bool.not_eq_true'] at c5
              refine sv hF (gyes_none rfl) (q_pf rfl (by conv => lhs; whnf)) rfl (by decide) (call_ok rfl) ?_
              refine ⟨_, Wk.refl _ _, ?_⟩
              show awp _ _ _ _ _ _ _
              refine awp_cond_t rfl ?_
              refine awp_ret_wk ?_
              refine ⟨_, Wk.refl _ _, ?_⟩
              repeat (with_reducible first | refine then_ret ?_ | refine blk_ret ?_ | refine then_exit ?_ | refine blk_exit ?_ | refine blk_exit' (by decide) ?_ | refine blk_normal ?_ | refine then_normal ?_ | refine retq_ret ?_ | refine retq_normal ?_ | refine ng_normal ?_ | refine ng_ret ?_ | refine ng_exit ?_)
              exact ret_same rfl .nil rfl ⟨rfl, .inr ⟨k, by omega, hR.2 c5⟩⟩
            ·
              try simp only [Bool.not_eq_false'] at c5
              have hI2 := hR.1 c5
              obtain ⟨hb1', hb2', hSB', hSC'⟩ := hb (k + 1) H' hI2
              obtain ⟨bC, oC, cC, vsC, rfl, hRC, hlC, hcC, hgC⟩ := hSC'.get hxC
              refine sv hF (gyes_none rfl) (q_pf rfl (by conv => lhs; whnf)) rfl (by decide) (call_ok rfl) ?_
              refine ⟨_, Wk.refl _ _, ?_⟩
              show awp _ _ _ _ _ _ _
              refine awp_cond_f rfl ?_
              refine awp_skip_wk ?_
              refine ⟨_, Wk.refl _ _, ?_⟩
              show awp _ _ _ _ _ _ _
              refine awp_reg hF ?_
              refine sv hF (gyes_none rfl) (q_field Try.underlying26 rfl Try.sizeOf24 rfl (by first | exact loc_rd h0 rfl | exact frm_rd (by assumption) | exact frm_rd' (by assumption) | assumption)) rfl (by decide) (cok1 trivial) ?_
              refine sv hF (gyes_none rfl) (q_load Try.isAgg24 rfl (by first | exact loc_rd h0 rfl | exact frm_rd (by assumption) | exact frm_rd' (by assumption) | assumption) rfl) rfl (by decide) (cok1 trivial) ?_
              refine sv hF (gyes_none rfl) (q_mv (by conv => lhs; whnf)) rfl (by decide) (cok1 trivial) ?_
              refine sv hF (gyes_none rfl) (q_index1 Try.underlying24 Try.sizeOf31 rfl rfl hxC (frm_rd' hRC)) rfl (by decide) (call_ok rfl) ?_
              refine sv hF (gyes_none rfl) (q_load Try.isAgg31 rfl (frm_rd' hRC) (hgC _ hxC)) rfl (by decide) (call_ok rfl) ?_
              refine sv hF (gyes_none rfl) (q_as (by conv => lhs; whnf)) rfl (by decide) (cok1 trivial) ?_
              refine ⟨_, Wk.refl _ _, ?_⟩
              show awp _ _ _ _ _ _ _
              refine awp_reg hF ?_
              refine sv hF (gyes_none rfl) (by first | exact q_add64 rfl rfl (by omega) | exact q_int rfl rfl rfl) rfl (by decide) (cok2 trivial (cconst rfl)) ?_
              refine sv hF (gyes_none rfl) (q_mv (by conv => lhs; whnf)) rfl (by decide) (cok1 trivial) ?_
              refine ⟨_, Wk.U [(0, y), (1, .pointer (some ⟨b1, 0, none⟩)), (2, .pointer (some ⟨b2, 0, none⟩)), (4, .int .u32 ((C[x] : Nat) : Int)), (18, .int .i64 ((C.length : Nat) : Int)), (19, .int .i64 (((k + 1) : Nat) : Int))] ⟨rfl, rfl, rfl, rfl, rfl, rfl, trivial⟩, (k + 1, C[x], H'), ⟨by rw [hd2, show C.length - (k + 1) = C.length - k - 1 by omega], hd3, by omega, hCv _ (List.getElem_mem hxC), hI2, rfl⟩, show C.length - (k + 1) < C.length - k by omega⟩
      ·
        try simp only [decide_eq_false_iff_not] at c2
        refine ⟨_, Wk.refl _ _, ?_⟩
        show awp _ _ _ _ _ _ _
        refine awp_seq ?_
        refine awp_cond_f rfl ?_
        refine awp_exit_wk ?_
        refine ⟨_, Wk.refl _ _, ?_⟩
        repeat (with_reducible first | refine then_ret ?_ | refine blk_ret ?_ | refine then_exit ?_ | refine blk_exit ?_ | refine blk_exit' (by decide) ?_ | refine blk_normal ?_ | refine then_normal ?_ | refine retq_ret ?_ | refine retq_normal ?_ | refine ng_normal ?_ | refine ng_ret ?_ | refine ng_exit ?_)
        have e := drop_end (hw.trans (by rw [show C.length - k = 0 by omega]; rfl)) hk
        subst e
        exact ret_same rfl .nil rfl ⟨rfl, .inl hI⟩

end Go.Proofs.YtmoldjiooccppaaA


/-
  Walks of functions of the given program, and what they compute.
-/
namespace Go.Proofs.YtmoldjiooccppaaA
set_option linter.unusedVariables false
open Go Go.RowKit Go.Shelf Go.Proofs
/-- The first of some that has the name. -/
def hasName (names : List ByteArray) (s : ByteArray) (x : Nat) : Prop := names[x]? = some s
instance (names : List ByteArray) (s : ByteArray) (x : Nat) : Decidable (hasName names s x) := inferInstanceAs (Decidable (names[x]? = some s))
def findL (l : List Nat) (names : List ByteArray) (s : ByteArray) : Option Nat := l.find? fun x => decide (hasName names s x)
def findV : Option Nat → Value
  | some x => .tuple #[.int .i64 (x : Nat), .bool true]
  | none => .tuple #[.int .i64 0, .bool false]
theorem take_all {l : List Nat} {k x : Nat} {p : Nat → Prop} (hx : l[k]? = some x) (h : ∀ y ∈ l.take k, ¬ p y) (hn : ¬ p x) : ∀ y ∈ l.take (k + 1), ¬ p y := by
  intro y hy
  rw [List.take_add_one, hx] at hy
  rcases List.mem_append.1 hy with h1 | h1
  · exact h y h1
  · simp at h1; subst h1; exact hn
theorem find_yes {l : List Nat} {k x : Nat} {p : Nat → Prop} [DecidablePred p] (hx : l[k]? = some x) (h : ∀ y ∈ l.take k, ¬ p y) (hp : p x) : l.find? (fun x => decide (p x)) = some x := by
  obtain ⟨hk, rfl⟩ := List.getElem?_eq_some_iff.1 hx
  rw [List.find?_eq_some_iff_append]
  refine ⟨by simpa using hp, l.take k, l.drop (k + 1), by simp, fun y hy => by simpa using h y hy⟩
theorem find_no {l : List Nat} {p : Nat → Prop} [DecidablePred p] (h : ∀ y ∈ l.take l.length, ¬ p y) : l.find? (fun x => decide (p x)) = none := by
  rw [List.find?_eq_none]
  intro y hy
  rw [List.take_length] at h
  simpa using h y hy
theorem has_yes {names : List ByteArray} {s : ByteArray} {x : Nat} (hx : x < names.length) (h : names[x] = s) : hasName names s x := by
  unfold hasName; rw [List.getElem?_eq_getElem hx, h]
theorem has_no {names : List ByteArray} {s : ByteArray} {x : Nat} (hx : x < names.length) (h : ¬ names[x] = s) : ¬ hasName names s x := by
  unfold hasName; rw [List.getElem?_eq_getElem hx]; simpa using h
theorem has_out {names : List ByteArray} {s : ByteArray} {x : Nat} (hx : ¬ x < names.length) : ¬ hasName names s x := by
  unfold hasName; rw [List.getElem?_eq_none (by omega)]; simp
set_option maxRecDepth 100000 in
set_option maxHeartbeats 2000000 in
theorem find_ok {H0 : AHeap} {n0 : Nat} (h0 : H0.length = n0) (s : ByteArray) (hs : s.size ≤ 140737488355328) (B C : List Nat) (names : List ByteArray) (vB vC vN : Value) (hSB : Sl u32v H0 vB B) (hSC : Sl u32v H0 vC C) (hN : Sl strv H0 vN names) (hB1 : B.length < 4294967296) (hBv : ∀ x ∈ B, x < 4294967296) (hCv : ∀ x ∈ C, x < 4294967296) (hC1 : C.length ≤ 4294967296) : ACalls Try.prog 13 [.agg #[vB, vC], .string s, vN] H0 (Rets (findV (findL (walkL B C s) names s)) H0) := by
  have hF : Wd Fence.wide := .inl rfl
  have hM : Try.prog.follows .mixedOrders = true := by kernel_rfl
  refine acalls_begin Try.func13 rfl Try.ntmps13 rfl ?_
  refine awp_seq ?_
  refine awp_reg hF ?_
  refine sn hF (gyes_none rfl) (q_boxN 1 (loc_len h0 rfl) (by conv => lhs; whnf) (by first | exact trivial | exact (Sl.lc (Sl.app (by assumption) _)).1) rfl) rfl (by decide) (cok1 trivial) (List.append_assoc _ _ _) ?_
  refine sn hF (gyes_none rfl) (q_boxN 1 (loc_len h0 rfl) (by conv => lhs; whnf) (by first | exact trivial | exact (Sl.lc (Sl.app (by assumption) _)).1) rfl) rfl (by decide) (cok1 trivial) (List.append_assoc _ _ _) ?_
  refine sn hF (gyes_none rfl) (q_boxN 1 (loc_len h0 rfl) (by conv => lhs; whnf) (by first | exact trivial | exact (Sl.lc (Sl.app (by assumption) _)).1) hN.cells) rfl (by decide) (cok1 trivial) (List.append_assoc _ _ _) ?_
  refine sn hF (gyes_none rfl) (q_allocN 1 (loc_len h0 rfl) Try.zeroValue3 (by first | exact flat_scalar rfl | exact flat_agg rfl) rfl) rfl (by decide) (by simp [Op.operands]) (List.append_assoc _ _ _) ?_
  refine sn hF (gyes_none rfl) (q_allocN 1 (loc_len h0 rfl) Try.zeroValue4 (by first | exact flat_scalar rfl | exact flat_agg rfl) rfl) rfl (by decide) (by simp [Op.operands]) (List.append_assoc _ _ _) ?_
  refine ⟨_, Wk.refl _ _, ?_⟩
  show awp _ _ _ _ _ _ _
  refine awp_seq ?_
  refine awp_seq ?_
  refine awp_reg hF ?_
  refine sv hF (gyes_none rfl) (q_loadAgg Try.isAgg26 Try.sizeOf26 rfl (by first | exact loc_rd h0 rfl | exact frm_rd (by assumption) | exact frm_rd' (by assumption) | assumption) (by first | (simp; done) | exact Nat.le_of_ble_eq_true rfl) rfl) rfl (by decide) (cok1 trivial) ?_
  refine sv hF (gyes_none rfl) (q_load Try.isAgg9 rfl (by first | exact loc_rd h0 rfl | exact frm_rd (by assumption) | exact frm_rd' (by assumption) | assumption) rfl) rfl (by decide) (cok1 trivial) ?_
  refine sn hF (gyes_none rfl) (q_call Try.call9 rfl (by simp [AObj.wr]) (walk_ok (b0 := n0 + 5) (b1 := n0 + 6) (loc_len h0 rfl) s vB vC rfl rfl)) rfl (by decide) (call_ok rfl) (List.append_assoc _ _ _) ?_
  refine ⟨_, Wk.refl _ _, ?_⟩
  show awp _ _ _ _ _ _ _
  refine awp_block ?_
  refine range_begin h0 (m := 7) rfl rfl Try.call21 (fun fn lp hlp => ?_)
  refine (walk1_ok (H0 := H0 ++ [.cells true [vB, vC] 1, .cells true [.string s] 1, .cells true [vN] 1, .cells true [.int .i64 0] 1, .cells true [.bool false] 1, .cells true [vB, vC] 1, .cells true [.string s] 1, .mark, lp .ready none]) rfl s hs B C vB vC hB1 hBv hCv hC1 _ (n0 + 5) (n0 + 6) (fun k H => H = H0 ++ [.cells true [vB, vC] 1, .cells true [.string s] 1, .cells true [vN] 1, .cells true [.int .i64 0] 1, .cells true [.bool false] 1, .cells true [vB, vC] 1, .cells true [.string s] 1, .mark, lp .ready none] ∧ ∀ y ∈ (walkL B C s).take k, ¬ hasName names s y)
    (fun k' H => ∃ k x, k' = k + 1 ∧ (walkL B C s)[k]? = some x ∧ hasName names s x ∧ (∀ y ∈ (walkL B C s).take k, ¬ hasName names s y) ∧ H = H0 ++ [.cells true [vB, vC] 1, .cells true [.string s] 1, .cells true [vN] 1, .cells true [.int .i64 ((x : Nat) : Int)] 1, .cells true [.bool true] 1, .cells true [vB, vC] 1, .cells true [.string s] 1, .mark, lp .done (some .ret)]) ?h00 ?hb ?round).mono ?after
  case h00 => exact ⟨rfl, fun y hy => by simp at hy⟩
  case hb =>
    rintro k H ⟨rfl, _⟩
    exact ⟨loc_get h0 rfl, loc_get h0 rfl, hSB.app _, hSC.app _⟩
  case round =>
    rintro k H x ⟨rfl, hk⟩ hx
    refine ylds_roundL hlp h0 rfl rfl rfl (fun l' hF => ?_)
    refine awp_reg hF ?_
    refine sv hF (gyes_none rfl) (q_as (by conv => lhs; whnf)) rfl (by decide) (cok1 trivial) ?_
    refine ⟨_, Wk.refl _ _, ?_⟩
    refine then_normal ?_
    refine ⟨_, _, rfl, rfl, ?body⟩
    case body =>
      show awp _ _ _ _ _ _ _
      refine awp_block ?_
      refine awp_seq ?_
      refine awp_regt hF hM (by kernel_rfl) (by kernel_rfl) ?_
      refine dv (gyes_none rfl) (q_mv (by conv => lhs; whnf)) rfl (by decide) (cok1 trivial) ?_
      refine dv (gyes_none rfl) (q_load Try.isAgg22 rfl (by first | exact loc_rd h0 rfl | exact frm_rd (by assumption) | exact frm_rd' (by assumption) | assumption) rfl) rfl (by decide) (cok1 trivial) ?_
      refine dv (gyes_none rfl) (q_len_sl Try.underlying22 (hN.app _) rfl) rfl (by decide) (call_ok rfl) ?_
      refine dvb (gyes_none rfl) (q_int rfl rfl rfl) rfl (by decide) (cok2 trivial trivial) (fun c1 => ?_) (fun c1 => ?_)
      ·
        try simp only [decide_eq_true_eq] at c1
        have hxl : x < names.length := by omega
        obtain ⟨bN, oN, cN, vsN, rfl, hRN, hlN, hcN, hgN⟩ := hN.get hxl
        refine dv (gyes_none rfl) (q_mv (by conv => lhs; whnf)) rfl (by decide) (cok1 trivial) ?_
        refine dv (gyes_some rfl rfl) (q_load Try.isAgg22 rfl (by first | exact loc_rd h0 rfl | exact frm_rd (by assumption) | exact frm_rd' (by assumption) | assumption) rfl) rfl (by decide) (cok1 trivial) ?_
        refine dv (gyes_some rfl rfl) (q_mv (by conv => lhs; whnf)) rfl (by decide) (cok1 trivial) ?_
        refine dv (gyes_some rfl rfl) (q_index1 Try.underlying22 Try.sizeOf9 rfl rfl hxl (frm_rd' hRN)) rfl (by decide) (call_ok rfl) ?_
        refine dv (gyes_some rfl rfl) (q_load Try.isAgg9 rfl (frm_rd' hRN) (hgN _ hxl)) rfl (by decide) (call_ok rfl) ?_
        refine dv (gyes_some rfl rfl) (q_load Try.isAgg9 rfl (by first | exact loc_rd h0 rfl | exact frm_rd (by assumption) | exact frm_rd' (by assumption) | assumption) rfl) rfl (by decide) (cok1 trivial) ?_
        refine dvb (gyes_some rfl rfl) (q_streq rfl rfl) rfl (by decide) (cok2 trivial trivial) (fun c2 => ?_) (fun c2 => ?_)
        ·
          try simp only [decide_eq_true_eq] at c2
          refine dv (gyes_none rfl) (q_pt rfl (by conv => lhs; whnf)) rfl (by decide) (call_ok rfl) ?_
          refine ⟨_, Wk.refl _ _, ?_⟩
          show awp _ _ _ _ _ _ _
          refine awp_cond_t rfl ?_
          refine awp_seq ?_
          refine awp_reg hF ?_
          refine sv hF (gyes_none rfl) (q_mv (by conv => lhs; whnf)) rfl (by decide) (cok1 trivial) ?_
          refine se_store1 hF (gyes_none rfl) rfl Try.sizeOf3 rfl (by conv => lhs; whnf) (by first | exact loc_get h0 rfl | exact frm_get (by assumption)) (by first | exact lc_scalar rfl | exact lc_slice (Rd.live (by first | exact loc_rd h0 rfl | exact frm_rd (by assumption) | exact frm_rd' (by assumption) | assumption)) | exact lc_ptr (Rd.live (by first | exact loc_rd h0 rfl | exact frm_rd (by assumption) | exact frm_rd' (by assumption) | assumption))) (by first | (simp; done) | exact Nat.le_of_ble_eq_true rfl) trivial trivial (by first | exact loc_set h0 _ | exact frm_set _ (by assumption) _) ?_
          refine se_store1 hF (gyes_none rfl) rfl Try.sizeOf4 rfl (by conv => lhs; whnf) (by first | exact loc_get h0 rfl | exact frm_get (by assumption)) (by first | exact lc_scalar rfl | exact lc_slice (Rd.live (by first | exact loc_rd h0 rfl | exact frm_rd (by assumption) | exact frm_rd' (by assumption) | assumption)) | exact lc_ptr (Rd.live (by first | exact loc_rd h0 rfl | exact frm_rd (by assumption) | exact frm_rd' (by assumption) | assumption))) (by first | (simp; done) | exact Nat.le_of_ble_eq_true rfl) trivial (cconst rfl) (by first | exact loc_set h0 _ | exact frm_set _ (by assumption) _) ?_
          refine ⟨_, Wk.refl _ _, ?_⟩
          show awp _ _ _ _ _ _ _
          refine awp_ret_wk ?_
          refine ⟨_, Wk.refl _ _, ?_⟩
          repeat (with_reducible first | refine then_ret ?_ | refine blk_ret ?_ | refine then_exit ?_ | refine blk_exit ?_ | refine blk_exit' (by decide) ?_ | refine blk_normal ?_ | refine then_normal ?_ | refine retq_ret ?_ | refine retq_normal ?_ | refine ng_normal ?_ | refine ng_ret ?_ | refine ng_exit ?_)
          exact ⟨_, rfl, rfl, (fun h => nomatch h), (fun _ => ⟨k, x, rfl, hx, has_yes hxl (by assumption), hk, rfl⟩)⟩
        ·
          try simp only [decide_eq_false_iff_not] at c2
          refine dv (gyes_none rfl) (q_pt rfl (by conv => lhs; whnf)) rfl (by decide) (call_ok rfl) ?_
          refine ⟨_, Wk.refl _ _, ?_⟩
          show awp _ _ _ _ _ _ _
          refine awp_cond_f rfl ?_
          refine awp_skip_wk ?_
          refine ⟨_, Wk.refl _ _, ?_⟩
          repeat (with_reducible first | refine then_ret ?_ | refine blk_ret ?_ | refine then_exit ?_ | refine blk_exit ?_ | refine blk_exit' (by decide) ?_ | refine blk_normal ?_ | refine then_normal ?_ | refine retq_ret ?_ | refine retq_normal ?_ | refine ng_normal ?_ | refine ng_ret ?_ | refine ng_exit ?_)
          exact ⟨_, rfl, rfl, (fun _ => ⟨rfl, take_all hx hk (by first | exact has_out (by omega) | exact has_no hxl (by assumption))⟩), (fun h => nomatch h)⟩
      ·
        try simp only [decide_eq_false_iff_not] at c1
        refine dv (gyes_none rfl) (q_mv (by conv => lhs; whnf)) rfl (by decide) (cok1 trivial) ?_
        refine dno rfl (.inl rfl) rfl (by decide) ?_
        refine dno rfl (.inl rfl) rfl (by decide) ?_
        refine dno rfl (.inl rfl) rfl (by decide) ?_
        refine dno rfl (.inl rfl) rfl (by decide) ?_
        refine dno rfl (.inl rfl) rfl (by decide) ?_
        refine dno rfl (.inl rfl) rfl (by decide) ?_
        refine dv (gyes_none rfl) (q_pf rfl (by conv => lhs; whnf)) rfl (by decide) (call_ok rfl) ?_
        refine ⟨_, Wk.refl _ _, ?_⟩
        show awp _ _ _ _ _ _ _
        refine awp_cond_f rfl ?_
        refine awp_skip_wk ?_
        refine ⟨_, Wk.refl _ _, ?_⟩
        repeat (with_reducible first | refine then_ret ?_ | refine blk_ret ?_ | refine then_exit ?_ | refine blk_exit ?_ | refine blk_exit' (by decide) ?_ | refine blk_normal ?_ | refine then_normal ?_ | refine retq_ret ?_ | refine retq_normal ?_ | refine ng_normal ?_ | refine ng_ret ?_ | refine ng_exit ?_)
        exact ⟨_, rfl, rfl, (fun _ => ⟨rfl, take_all hx hk (by first | exact has_out (by omega) | exact has_no hxl (by assumption))⟩), (fun h => nomatch h)⟩
  case after =>
    rintro v H' ⟨rfl, ⟨rfl, hno⟩ | ⟨_, _, k, x, _, hx, hp, hno, rfl⟩⟩
    ·
      refine ⟨_, rfl, rfl, .inl ⟨rfl, ?_⟩⟩
      refine ⟨_, Wk.refl _ _, ?_⟩
      show awp _ _ _ _ _ _ _
      refine awp_seq ?_
      refine awp_reg hF ?_
      refine se_store1 hF (gyes_none rfl) rfl Try.sizeOf3 rfl (by conv => lhs; whnf) (by first | exact loc_get h0 rfl | exact frm_get (by assumption)) (by first | exact lc_scalar rfl | exact lc_slice (Rd.live (by first | exact loc_rd h0 rfl | exact frm_rd (by assumption) | exact frm_rd' (by assumption) | assumption)) | exact lc_ptr (Rd.live (by first | exact loc_rd h0 rfl | exact frm_rd (by assumption) | exact frm_rd' (by assumption) | assumption))) (by first | (simp; done) | exact Nat.le_of_ble_eq_true rfl) trivial (cconst rfl) (by first | exact loc_set h0 _ | exact frm_set _ (by assumption) _) ?_
      refine se_store1 hF (gyes_none rfl) rfl Try.sizeOf4 rfl (by conv => lhs; whnf) (by first | exact loc_get h0 rfl | exact frm_get (by assumption)) (by first | exact lc_scalar rfl | exact lc_slice (Rd.live (by first | exact loc_rd h0 rfl | exact frm_rd (by assumption) | exact frm_rd' (by assumption) | assumption)) | exact lc_ptr (Rd.live (by first | exact loc_rd h0 rfl | exact frm_rd (by assumption) | exact frm_rd' (by assumption) | assumption))) (by first | (simp; done) | exact Nat.le_of_ble_eq_true rfl) trivial (cconst rfl) (by first | exact loc_set h0 _ | exact frm_set _ (by assumption) _) ?_
      refine ⟨_, Wk.refl _ _, ?_⟩
      show awp _ _ _ _ _ _ _
      refine awp_ret_wk ?_
      refine ⟨_, Wk.refl _ _, ?_⟩
      repeat (with_reducible first | refine then_ret ?_ | refine blk_ret ?_ | refine then_exit ?_ | refine blk_exit ?_ | refine blk_exit' (by decide) ?_ | refine blk_normal ?_ | refine then_normal ?_ | refine retq_ret ?_ | refine retq_normal ?_ | refine ng_normal ?_ | refine ng_ret ?_ | refine ng_exit ?_)
      refine ret_dropD 7 rfl h0 (.cell rfl Try.isAgg3 (loc_rd h0 rfl) rfl (.cell rfl Try.isAgg4 (loc_rd h0 rfl) rfl .nil)) rfl rfl ⟨?_, rfl⟩
      unfold findL; rw [find_no hno]; rfl
    ·
      refine ⟨_, rfl, rfl, .inr ⟨_, rfl, ?_⟩⟩
      refine awp_ret_wk ?_
      refine ⟨_, Wk.refl _ _, ?_⟩
      repeat (with_reducible first | refine then_ret ?_ | refine blk_ret ?_ | refine then_exit ?_ | refine blk_exit ?_ | refine blk_exit' (by decide) ?_ | refine blk_normal ?_ | refine then_normal ?_ | refine retq_ret ?_ | refine retq_normal ?_ | refine ng_normal ?_ | refine ng_ret ?_ | refine ng_exit ?_)
      refine ret_dropD 7 rfl h0 (.cell rfl Try.isAgg3 (loc_rd h0 rfl) rfl (.cell rfl Try.isAgg4 (loc_rd h0 rfl) rfl .nil)) rfl rfl ⟨?_, rfl⟩
      unfold findL; rw [find_yes hx hno hp]; rfl

end Go.Proofs.YtmoldjiooccppaaA


/-
  Walks of functions of the given program, and what they compute.
-/
namespace Go.Proofs.YtmoldjiooccppaaA
set_option linter.unusedVariables false
open Go Go.RowKit Go.Shelf Go.Proofs
def spk : List ByteArray := [⟨#[]⟩, ⟨#[97]⟩, ⟨#[98]⟩]
theorem spk_build : buildN spk 1 3 = ([2], [0, 0, 1]) := by decide +kernel
theorem spk_walk : findL (walkL [2] [0, 0, 1] ⟨#[97]⟩) spk ⟨#[97]⟩ = some 1 := by decide +kernel
theorem spk_small : ∀ s ∈ spk, s.size ≤ 140737488355328 := by
  intro s hs
  simp only [spk, List.mem_cons, List.not_mem_nil, or_false] at hs
  rcases hs with rfl | rfl | rfl <;> decide
theorem spk_B {H0 : AHeap} {n0 : Nat} (h0 : H0.length = n0) {b : Nat} (hR : Rd H0 b [.string ⟨#[]⟩, .string ⟨#[97]⟩, .string ⟨#[98]⟩] 1) {b0 b1 : Nat} (e0 : n0 + 0 = b0) (e1 : n0 + 1 = b1) :
    ACalls Try.prog 8 [.slice (some ⟨b, 0, none⟩) 3 3, .int .i64 1] H0 (Rets (buildV b0 b1 1 3) (H0 ++ [.cells true [.int .u32 2] 1, .cells true [.int .u32 0, .int .u32 0, .int .u32 1] 1])) := by
  refine (build_ok h0 spk _ 1 (sl_full (l := spk) (f := strv) hR rfl (Nat.le_refl _)) spk_small e0 e1).mono fun v H' h => ?_
  obtain ⟨h1, h2⟩ := h.1 (by unfold buildOk; decide)
  refine ⟨h1, h2.trans ?_⟩
  show H0 ++ [.cells true ((buildN spk 1 3).1.map u32v) 1, .cells true ((buildN spk 1 3).2.map u32v) 1] = _
  rw [spk_build]; rfl
theorem spk_F {H0 : AHeap} {n0 : Nat} (h0 : H0.length = n0) {b b0 b1 : Nat} (hR : Rd H0 b [.string ⟨#[]⟩, .string ⟨#[97]⟩, .string ⟨#[98]⟩] 1) (hB : Rd H0 b0 [.int .u32 2] 1) (hC : Rd H0 b1 [.int .u32 0, .int .u32 0, .int .u32 1] 1) :
    ACalls Try.prog 13 [.agg #[.slice (some ⟨b0, 0, none⟩) 1 1, .slice (some ⟨b1, 0, none⟩) 3 3], .string ⟨#[97]⟩, .slice (some ⟨b, 0, none⟩) 3 3] H0 (Rets (.tuple #[.int .i64 1, .bool true]) H0) := by
  have h := find_ok h0 ⟨#[97]⟩ (by decide) [2] [0, 0, 1] spk _ _ _ (sl_full (l := [2]) (f := u32v) hB rfl (Nat.le_refl _)) (sl_full (l := [0, 0, 1]) (f := u32v) hC rfl (Nat.le_refl _)) (sl_full (l := spk) (f := strv) hR rfl (Nat.le_refl _)) (by decide) (by decide) (by decide) (by decide)
  rw [spk_walk] at h
  exact h
set_option maxRecDepth 100000 in
set_option maxHeartbeats 2000000 in
theorem speaks_ok {H0 : AHeap} {n0 : Nat} (h0 : H0.length = n0)  : ACalls Try.prog 7 [] H0 (Rets (.bool true) H0) := by
  have hF : Wd Fence.wide := .inl rfl
  have hM : Try.prog.follows .mixedOrders = true := by kernel_rfl
  refine acalls_begin Try.func7 rfl Try.ntmps7 rfl ?_
  refine awp_seq ?_
  refine awp_reg hF ?_
  refine sv hF (gyes_none rfl) (q_as (by conv => lhs; whnf)) rfl (by decide) (cok1 (cconst rfl)) ?_
  refine ⟨_, Wk.refl _ _, ?_⟩
  show awp _ _ _ _ _ _ _
  refine awp_seq ?_
  refine awp_reg hF ?_
  refine sn hF (gyes_none rfl) (q_buildSliceL [_, _, _] (loc_len h0 rfl) Try.underlying22 Try.sizeOf9 Try.zeroValue9 rfl (by decide) (by decide) ⟨(by conv => lhs; whnf), (by conv => lhs; whnf), (by conv => lhs; whnf), trivial⟩ (lvsC (by first | trivial | exact Rd.live (by first | exact loc_rd h0 rfl | exact frm_rd (by assumption) | exact frm_rd' (by assumption) | assumption) | exact (Sl.lc (by assumption)).1) (lvsC (by first | trivial | exact Rd.live (by first | exact loc_rd h0 rfl | exact frm_rd (by assumption) | exact frm_rd' (by assumption) | assumption) | exact (Sl.lc (by assumption)).1) (lvsC (by first | trivial | exact Rd.live (by first | exact loc_rd h0 rfl | exact frm_rd (by assumption) | exact frm_rd' (by assumption) | assumption) | exact (Sl.lc (by assumption)).1) lvs0))) rfl rfl) rfl (by decide) (call_ok rfl) (List.append_assoc _ _ _) ?_
  refine sn hF (gyes_none rfl) (q_call Try.call8 rfl (by simp [AObj.wr]) (spk_B (b0 := n0 + 1) (b1 := n0 + 2) (loc_len h0 rfl) (loc_rd h0 rfl) rfl rfl)) rfl (by decide) (call_ok rfl) (List.append_assoc _ _ _) ?_
  refine sv hF (gyes_none rfl) (q_mv (by conv => lhs; whnf)) rfl (by decide) (cok1 trivial) ?_
  refine sv hF (gyes_none rfl) (q_extract rfl rfl) rfl (by decide) (cok1 trivial) ?_
  refine sv hF (gyes_none rfl) (q_extract rfl rfl) rfl (by decide) (call_ok rfl) ?_
  refine sn hF (gyes_none rfl) (q_allocN 1 (loc_len h0 rfl) Try.zeroValue26 (by first | exact flat_scalar rfl | exact flat_agg rfl) rfl) rfl (by decide) (by simp [Op.operands]) (List.append_assoc _ _ _) ?_
  refine se_store hF (gyes_none rfl) rfl Try.sizeOf26 rfl (by conv => lhs; whnf) (by first | exact loc_get h0 rfl | exact frm_get (by assumption)) rfl rfl (by exact trivial) (by exact (lcs2 (lc_slice (Rd.live (loc_rd h0 rfl))) (lc_slice (Rd.live (loc_rd h0 rfl))))) (by first | (simp; done) | exact Nat.le_of_ble_eq_true rfl) trivial trivial (by first | exact loc_set h0 _ | exact frm_set _ (by assumption) _) ?_
  refine sv hF (gyes_none rfl) (q_as (by conv => lhs; whnf)) rfl (by decide) (cok1 trivial) ?_
  refine ⟨_, Wk.refl _ _, ?_⟩
  show awp _ _ _ _ _ _ _
  refine awp_seq ?_
  refine awp_reg hF ?_
  refine sv hF (gyes_none rfl) (q_loadAgg Try.isAgg26 Try.sizeOf26 rfl (by first | exact loc_rd h0 rfl | exact frm_rd (by assumption) | exact frm_rd' (by assumption) | assumption) (by first | (simp; done) | exact Nat.le_of_ble_eq_true rfl) rfl) rfl (by decide) (cok1 trivial) ?_
  refine sn hF (gyes_none rfl) (q_buildSliceL [_, _, _] (loc_len h0 rfl) Try.underlying22 Try.sizeOf9 Try.zeroValue9 rfl (by decide) (by decide) ⟨(by conv => lhs; whnf), (by conv => lhs; whnf), (by conv => lhs; whnf), trivial⟩ (lvsC (by first | trivial | exact Rd.live (by first | exact loc_rd h0 rfl | exact frm_rd (by assumption) | exact frm_rd' (by assumption) | assumption) | exact (Sl.lc (by assumption)).1) (lvsC (by first | trivial | exact Rd.live (by first | exact loc_rd h0 rfl | exact frm_rd (by assumption) | exact frm_rd' (by assumption) | assumption) | exact (Sl.lc (by assumption)).1) (lvsC (by first | trivial | exact Rd.live (by first | exact loc_rd h0 rfl | exact frm_rd (by assumption) | exact frm_rd' (by assumption) | assumption) | exact (Sl.lc (by assumption)).1) lvs0))) rfl rfl) rfl (by decide) (call_ok rfl) (List.append_assoc _ _ _) ?_
  refine sv hF (gyes_none rfl) (q_call0 Try.call13 rfl (spk_F (loc_len h0 rfl) (loc_rd h0 rfl) (loc_rd h0 rfl) (loc_rd h0 rfl))) rfl (by decide) (call_ok rfl) ?_
  refine sv hF (gyes_none rfl) (q_mv (by conv => lhs; whnf)) rfl (by decide) (cok1 trivial) ?_
  refine sv hF (gyes_none rfl) (q_extract rfl rfl) rfl (by decide) (cok1 trivial) ?_
  refine sv hF (gyes_none rfl) (q_extract rfl rfl) rfl (by decide) (call_ok rfl) ?_
  refine sv hF (gyes_none rfl) (q_as (by conv => lhs; whnf)) rfl (by decide) (cok1 trivial) ?_
  refine sv hF (gyes_none rfl) (q_as (by conv => lhs; whnf)) rfl (by decide) (cok1 trivial) ?_
  refine ⟨_, Wk.refl _ _, ?_⟩
  show awp _ _ _ _ _ _ _
  refine awp_seq ?_
  refine awp_reg hF ?_
  refine sv hF (gyes_none rfl) (q_mv (by conv => lhs; whnf)) rfl (by decide) (cok1 trivial) ?_
  refine sv hF (gyes_none rfl) (q_mv (by conv => lhs; whnf)) rfl (by decide) (cok1 trivial) ?_
  refine sv hF (gyes_some rfl rfl) (q_mv (by conv => lhs; whnf)) rfl (by decide) (cok1 trivial) ?_
  refine sv hF (gyes_none rfl) (q_pt rfl (by conv => lhs; whnf)) rfl (by decide) (call_ok rfl) ?_
  refine sv hF (gyes_none rfl) (q_mv (by conv => lhs; whnf)) rfl (by decide) (cok1 trivial) ?_
  refine sv hF (gyes_some rfl rfl) (q_mv (by conv => lhs; whnf)) rfl (by decide) (cok1 trivial) ?_
  refine sv hF (gyes_some rfl rfl) (OpQ.cast (v' := .bool true) (q_int rfl rfl rfl) rfl) rfl (by decide) (call_ok rfl) ?_
  refine sv hF (gyes_none rfl) (q_pt rfl (by conv => lhs; whnf)) rfl (by decide) (call_ok rfl) ?_
  refine sv hF (gyes_none rfl) (q_mv (by conv => lhs; whnf)) rfl (by decide) (cok1 trivial) ?_
  refine sv hF (gyes_some rfl rfl) (q_field Try.underlying26 rfl Try.sizeOf24 rfl (by first | exact loc_rd h0 rfl | exact frm_rd (by assumption) | exact frm_rd' (by assumption) | assumption)) rfl (by decide) (cok1 trivial) ?_
  refine sv hF (gyes_some rfl rfl) (q_load Try.isAgg24 rfl (by first | exact loc_rd h0 rfl | exact frm_rd (by assumption) | exact frm_rd' (by assumption) | assumption) rfl) rfl (by decide) (cok1 trivial) ?_
  refine sv hF (gyes_some rfl rfl) (by first | exact q_len_slice Try.underlying24 rfl (by first | exact loc_rd h0 rfl | exact frm_rd (by assumption) | exact frm_rd' (by assumption) | assumption) | exact q_len_nil Try.underlying24 rfl) rfl (by decide) (cok1 trivial) ?_
  refine sv hF (gyes_some rfl rfl) (OpQ.cast (v' := .bool true) (q_int rfl rfl rfl) rfl) rfl (by decide) (call_ok rfl) ?_
  refine sv hF (gyes_none rfl) (q_pt rfl (by conv => lhs; whnf)) rfl (by decide) (call_ok rfl) ?_
  refine sv hF (gyes_none rfl) (q_mv (by conv => lhs; whnf)) rfl (by decide) (cok1 trivial) ?_
  refine sv hF (gyes_some rfl rfl) (q_field Try.underlying26 rfl Try.sizeOf24 rfl (by first | exact loc_rd h0 rfl | exact frm_rd (by assumption) | exact frm_rd' (by assumption) | assumption)) rfl (by decide) (cok1 trivial) ?_
  refine sv hF (gyes_some rfl rfl) (q_load Try.isAgg24 rfl (by first | exact loc_rd h0 rfl | exact frm_rd (by assumption) | exact frm_rd' (by assumption) | assumption) rfl) rfl (by decide) (cok1 trivial) ?_
  refine sv hF (gyes_some rfl rfl) (q_index1 (i := 0) Try.underlying24 Try.sizeOf31 rfl rfl (by decide) (loc_rd h0 rfl)) rfl (by decide) (call_ok rfl) ?_
  refine sv hF (gyes_some rfl rfl) (q_load Try.isAgg31 rfl (by first | exact loc_rd h0 rfl | exact frm_rd (by assumption) | exact frm_rd' (by assumption) | assumption) rfl) rfl (by decide) (cok1 trivial) ?_
  refine sv hF (gyes_some rfl rfl) (OpQ.cast (v' := .bool true) (q_int rfl rfl rfl) rfl) rfl (by decide) (call_ok rfl) ?_
  refine sv hF (gyes_none rfl) (q_pt rfl (by conv => lhs; whnf)) rfl (by decide) (call_ok rfl) ?_
  refine sv hF (gyes_none rfl) (q_mv (by conv => lhs; whnf)) rfl (by decide) (cok1 trivial) ?_
  refine sv hF (gyes_some rfl rfl) (q_field Try.underlying26 rfl Try.sizeOf24 rfl (by first | exact loc_rd h0 rfl | exact frm_rd (by assumption) | exact frm_rd' (by assumption) | assumption)) rfl (by decide) (cok1 trivial) ?_
  refine sv hF (gyes_some rfl rfl) (q_load Try.isAgg24 rfl (by first | exact loc_rd h0 rfl | exact frm_rd (by assumption) | exact frm_rd' (by assumption) | assumption) rfl) rfl (by decide) (cok1 trivial) ?_
  refine sv hF (gyes_some rfl rfl) (q_index1 (i := 2) Try.underlying24 Try.sizeOf31 rfl rfl (by decide) (loc_rd h0 rfl)) rfl (by decide) (call_ok rfl) ?_
  refine sv hF (gyes_some rfl rfl) (q_load Try.isAgg31 rfl (by first | exact loc_rd h0 rfl | exact frm_rd (by assumption) | exact frm_rd' (by assumption) | assumption) rfl) rfl (by decide) (cok1 trivial) ?_
  refine sv hF (gyes_some rfl rfl) (OpQ.cast (v' := .bool true) (q_int rfl rfl rfl) rfl) rfl (by decide) (call_ok rfl) ?_
  refine sv hF (gyes_none rfl) (q_pt rfl (by conv => lhs; whnf)) rfl (by decide) (call_ok rfl) ?_
  refine sv hF (gyes_none rfl) (q_as (by conv => lhs; whnf)) rfl (by decide) (cok1 trivial) ?_
  refine ⟨_, Wk.refl _ _, ?_⟩
  show awp _ _ _ _ _ _ _
  refine awp_ret_wk ?_
  refine ⟨_, Wk.refl _ _, ?_⟩
  repeat (with_reducible first | refine then_ret ?_ | refine blk_ret ?_ | refine then_exit ?_ | refine blk_exit ?_ | refine blk_exit' (by decide) ?_ | refine blk_normal ?_ | refine then_normal ?_ | refine retq_ret ?_ | refine retq_normal ?_ | refine ng_normal ?_ | refine ng_ret ?_ | refine ng_exit ?_)
  exact ret_drop1 rfl (.tmp rfl .nil) rfl ⟨rfl, rfl⟩

end Go.Proofs.YtmoldjiooccppaaA


/-
  Walks of functions of the given program, and what they compute.
-/
namespace Go.Proofs.YtmoldjiooccppaaA
set_option linter.unusedVariables false
open Go Go.RowKit Go.Shelf Go.Proofs
end Go.Proofs.YtmoldjiooccppaaA


/-
  Walks of functions of the given program, and what they compute.
-/
namespace Go.Proofs.YtmoldjiooccppaaA
set_option linter.unusedVariables false
open Go Go.RowKit Go.Shelf Go.Proofs
def chkO (B C : List Nat) (names : List ByteArray) : Option Nat := (List.range (min C.length names.length)).find? fun i => decide (1 ≤ i ∧ i ∉ walkL B C (nth names i))
def chkV : Option Nat → Value
  | none => .tuple #[.int .i64 0, .bool true]
  | some i => .tuple #[.int .i64 ((i : Nat) : Int), .bool false]
theorem find_range {p : Nat → Bool} : ∀ {n : Nat}, (List.range n).find? p = none ↔ ∀ i, i < n → p i = false := fun {n} => by
  rw [List.find?_eq_none]
  constructor
  · intro h i hi; simpa using h i (List.mem_range.2 hi)
  · intro h i hi; simpa using h i (List.mem_range.1 hi)
theorem find_range_some {p : Nat → Bool} {n i : Nat} (hi : i < n) (hp : p i = true) (h : ∀ j, j < i → p j = false) : (List.range n).find? p = some i := by
  rw [List.find?_eq_some_iff_getElem]
  refine ⟨hp, i, by simpa using hi, by simp, fun j hj => ?_⟩
  simp [h j hj]
theorem chk_none {B C : List Nat} {names : List ByteArray} {n : Nat} (hn : ¬ n < min C.length names.length) (h : ∀ j, 1 ≤ j → j < n → j ∈ walkL B C (nth names j)) : chkO B C names = none :=
  find_range.2 fun i hi => by
    rw [decide_eq_false_iff_not]
    rintro ⟨h1, h2⟩
    exact h2 (h i h1 (by omega))
theorem chk_some {B C : List Nat} {names : List ByteArray} {n : Nat} (hn : n < min C.length names.length) (h1 : 1 ≤ n) (hno : n ∉ walkL B C (nth names n)) (h : ∀ j, 1 ≤ j → j < n → j ∈ walkL B C (nth names j)) : chkO B C names = some n :=
  find_range_some hn (decide_eq_true ⟨h1, hno⟩) fun j hj => by
    rw [decide_eq_false_iff_not]
    rintro ⟨h2, h3⟩
    exact h3 (h j h2 hj)
theorem walkB_ok {H0 : AHeap} (s : ByteArray) (vB vC : Value) : ACalls Try.prog 9 [.agg #[vB, vC], .string s] H0 (fun v H' => ∃ b0 b1, v = .func (.func 21) #[] #[.pointer (some ⟨b0, 0, none⟩), .pointer (some ⟨b1, 0, none⟩)] ∧ NewL H0 H' [(b0, .cells true [vB, vC] 1), (b1, .cells true [.string s] 1)]) :=
  (walk_ok rfl s vB vC rfl rfl).mono fun v H' h => by
    obtain ⟨rfl, rfl⟩ := h
    exact ⟨_, _, rfl, newL_append⟩
theorem mem_at {l : List Nat} {k x n : Nat} (hx : l[k]? = some x) (e : x = n) : n ∈ l := by subst e; exact List.mem_of_getElem? hx
theorem notin_take {l : List Nat} {k x i : Nat} (hx : l[k]? = some x) (h : i ∉ l.take k) (hn : ¬ x = i) : i ∉ l.take (k + 1) := by
  rw [List.take_add_one, hx]
  intro hm
  rcases List.mem_append.1 hm with h1 | h1
  · exact h h1
  · simp at h1; exact hn h1.symm
set_option maxRecDepth 100000 in
set_option maxHeartbeats 4000000 in
theorem check_ok {H0 : AHeap} (B C : List Nat) (names : List ByteArray) (vB vC vN : Value) (hB : Sl u32v H0 vB B) (hC : Sl u32v H0 vC C) (hN : Sl strv H0 vN names) (hNs : ∀ s ∈ names, s.size ≤ 140737488355328) (hB1 : B.length < 4294967296) (hBv : ∀ x ∈ B, x < 4294967296) (hCv : ∀ x ∈ C, x < 4294967296) (hC2 : C.length ≤ 4294967296) (hNl : names.length ≤ 1000000) : ACalls Try.prog 14 [.agg #[vB, vC], vN] H0 (Rets (chkV (chkO B C names)) H0) := by
  have hF : Wd Fence.wide := .inl rfl
  have hM : Try.prog.follows .mixedOrders = true := by kernel_rfl
  have s0 := St.begin H0
  refine acalls_st Try.func14 rfl Try.ntmps14 rfl ?_
  refine awp_seq ?_
  refine awp_regs hF ?_
  refine x_new (fun b => .pointer (some ⟨b, 0, none⟩)) s0 (gyes_none rfl) (q_box (v := .agg #[vB, vC]) (vs := [vB, vC]) 2 rfl (by exact trivial) rfl) rfl (by decide) (cok1 trivial) (fun b1 H2 hb4 s3 => ?_)
  refine dv (gyes_none rfl) (q_as (v := .int .i64 0) rfl) rfl (by decide) (cok1 (cconst rfl)) ?_
  refine dv (gyes_none rfl) (q_as (v := .bool false) rfl) rfl (by decide) (cok1 (cconst rfl)) ?_
  refine ⟨_, Wk.refl _ _, ?_⟩
  show awp _ _ _ _ _ _ _
  refine awp_scope ?_
  refine awp_seq ?_
  refine awp_label_wk ?_
  refine ⟨_, Wk.refl _ _, ?_⟩
  show awp _ _ _ _ _ _ _
  refine awp_seq ?_
  refine awp_seq ?_
  refine awp_regs hF ?_
  refine x_new (fun b => .pointer (some ⟨b, 0, none⟩)) s3 (gyes_none rfl) (q_alloc (vs := [.int .i64 0]) 1 Try.zeroValue3 (by first | exact flat_scalar rfl | exact flat_agg rfl) rfl) rfl (by decide) (by simp [Op.operands]) (fun b5 H6 hb8 s7 => ?_)
  refine x_store1 [] hF s7 (by kernel_rfl) (gyes_none rfl) (j := 0) (v := .int .i64 1) rfl Try.sizeOf3 rfl rfl rfl (lc_scalar rfl) (Nat.le_of_ble_eq_true rfl) trivial (cconst rfl) rfl rfl (F' := [(b5, .cells true [.int .i64 1] 1), (b1, .cells true [vB, vC] 2)]) rfl (fun H9 s10 => ⟨?_, ?_⟩)
  · exact trivial
  refine ⟨_, Wk.refl _ _, ?_⟩
  show awp _ _ _ _ _ _ _
  refine awp_block ?_
  refine awp_wk (Wk.U [(1, vN), (2, .pointer (some ⟨b1, 0, none⟩)), (4, .int .i64 0), (5, .bool false), (6, .pointer (some ⟨b5, 0, none⟩))] ⟨rfl, rfl, rfl, rfl, rfl, trivial⟩) ?_
  refine awp_loop (fun (n : Nat) st => ∃ (H11 : AHeap) (bi : Nat) (b : Nat) (D : List Nat), st = ⟨30, U [(1, vN), (2, .pointer (some ⟨b, 0, none⟩)), (4, .int .i64 0), (5, .bool false), (6, .pointer (some ⟨bi, 0, none⟩))], D, H11⟩ ∧ St H0 (none0) (Rd H0) H11 ([(bi, .cells true [.int .i64 ((n : Nat) : Int)] 1), (b, .cells true [vB, vC] 2)] ++ (marks D)) ∧ (1 ≤ n ∧ ∀ j, 1 ≤ j → j < n → j ∈ walkL B C (nth names j))) (fun (n : Nat) => min C.length names.length - n) (x0 := (1)) ?h0 ?round
  case h0 =>
    exact ⟨_, _, _, _, rfl, (s10.marks0), ⟨Nat.le_refl _, fun j h1 h2 => by omega⟩⟩
  case round =>
    rintro n _ ⟨H11, bi, b, D, rfl, s12, hn⟩
    refine awp_seq ?_
    refine awp_seq ?_
    refine awp_regs hF ?_
    refine dv (gyes_none rfl) (q_load (v := .int .i64 ((n : Nat) : Int)) Try.isAgg3 rfl (s12.rd (j := 0) rfl) rfl) rfl (by decide) (cok1 trivial) ?_
    refine dv (gyes_none rfl) (q_field Try.underlying26 rfl Try.sizeOf24 rfl (s12.rd (j := 1) rfl)) rfl (by decide) (cok1 trivial) ?_
    refine dv (gyes_none rfl) (q_load (v := vC) Try.isAgg24 rfl (s12.rd (j := 1) rfl) rfl) rfl (by decide) (cok1 trivial) ?_
    refine dv (gyes_none rfl) (q_len_sl (l := C) Try.underlying24 (s12.sl hC) rfl) rfl (by decide) (cok1 trivial) ?_
    refine dv (gyes_none rfl) (q_mv (v := vN) rfl) rfl (by decide) (cok1 trivial) ?_
    refine dv (gyes_none rfl) (q_len_sl (l := names) Try.underlying22 (s12.sl hN) rfl) rfl (by decide) (cok1 trivial) ?_
    refine dv (gyes_none rfl) (OpQ.cast (v' := .int .i64 ((min C.length names.length : Nat) : Int)) (q_min rfl rfl) (by congr 1; split <;> omega)) rfl (by decide) (cok2 trivial trivial) ?_
    refine dvb (gyes_none rfl) (q_int rfl rfl rfl) rfl (by decide) (cok2 trivial trivial) (fun c1 => ?_) (fun c1 => ?_)
    ·
      replace c1 := of_decide_eq_true c1
      have hnl : n < names.length := by omega
      have hnn : nth names n ∈ names := by rw [nth_eq hnl]; exact List.getElem_mem hnl
      refine ⟨_, Wk.refl _ _, ?_⟩
      show awp _ _ _ _ _ _ _
      refine awp_cond_t rfl ?_
      refine awp_skip_wk ?_
      refine ⟨_, Wk.refl _ _, ?_⟩
      show awp _ _ _ _ _ _ _
      refine awp_seq ?_
      refine awp_block ?_
      refine awp_seq ?_
      refine awp_seq ?_
      refine awp_regt hF hM (by kernel_rfl) (by kernel_rfl) ?_
      refine dv (gyes_none rfl) (q_loadAgg Try.isAgg26 Try.sizeOf26 rfl (s12.rd (j := 1) rfl) (Nat.le_of_ble_eq_true rfl) rfl) rfl (by decide) (cok1 trivial) ?_
      refine dv (gyes_none rfl) (q_mv (v := vN) rfl) rfl (by decide) (cok1 trivial) ?_
      refine dv (gyes_none rfl) (q_load (v := .int .i64 ((n : Nat) : Int)) Try.isAgg3 rfl (s12.rd (j := 0) rfl) rfl) rfl (by decide) (cok1 trivial) ?_
      refine dv (gyes_none rfl) (q_index_sl (l := names) (i := n) Try.underlying22 Try.sizeOf9 (s12.sl hN) rfl rfl (by omega)) rfl (by decide) (cok2 trivial trivial) ?_
      refine dv (gyes_none rfl) (q_load_sl (l := names) (i := n) Try.isAgg9 (s12.sl hN) rfl (by omega)) rfl (by decide) (cok1 trivial) ?_
      refine x_call [] hF (by kernel_rfl) (gyes_none rfl) Try.call9 rfl (args := [.agg #[vB, vC], .string (nth names n)]) rfl (walkB_ok _ _ _) (show _ < _ by decide) (call_ok rfl) rfl rfl (by
          rintro _ _ ⟨_, _, rfl, hn⟩ d hd
          rw [(hn.1).get d (lt_of_some (s12.marks_at d hd)) (fun h => h)]; exact s12.marks_at d hd) ?_
      rintro _ H15 ⟨b13, b14, rfl, hn16⟩
      have s17 := s12.callL hn16
      refine ⟨trivial, ?_⟩
      show dList _ _ _ _ _ _ _ _ _ _
      refine ⟨_, Wk.refl _ _, ?_⟩
      show awp _ _ _ _ _ _ _
      refine awp_block ?_
      refine range_st s17 rfl Try.call21 (fun fn18 lp19 d20 l21 H22 hlp23 hd24 s25 => ?_)
      refine (walk1_ok (H0 := H22) rfl (nth names n) (hNs _ hnn) B C vB vC hB1 hBv hCv hC2 _ _ _ (fun (k : Nat) (H26 : AHeap) => St H0 (none0) (Rd H0) H26 ([(l21, lp19 .ready none), (d20, .mark), (b13, .cells true [vB, vC] 1), (b14, .cells true [.string (nth names n)] 1), (bi, .cells true [.int .i64 ((n : Nat) : Int)] 1), (b, .cells true [vB, vC] 2)] ++ (marks D)) ∧ (n ∉ (walkL B C (nth names n)).take k)) (fun (k' : Nat) (H26 : AHeap) => St H0 (none0) (Rd H0) H26 ([(l21, lp19 (.done) (some (.exit 1))), (d20, .mark), (b13, .cells true [vB, vC] 1), (b14, .cells true [.string (nth names n)] 1), (bi, .cells true [.int .i64 ((n : Nat) : Int)] 1), (b, .cells true [vB, vC] 2)] ++ (marks D)) ∧ (n ∈ walkL B C (nth names n))) ?h00 ?hb ?round).mono ?after
      case h00 => exact ⟨s25, by simp⟩
      case hb =>
        rintro k H26 ⟨s27, hno⟩
        exact ⟨s27.getj (j := 2) rfl, s27.getj (j := 3) rfl, s27.sl hB, s27.sl hC⟩
      case round =>
        rintro k H26 x ⟨s27, hno⟩ hx
        refine ylds_roundB hlp23 (s27.getj (j := 0) rfl) rfl rfl (fun l28 hF => ?_)
        refine awp_regs hF ?_
        refine dv (gyes_none rfl) (q_as (v := .int .i64 ((x : Nat) : Int)) rfl) rfl (by decide) (cok1 trivial) ?_
        refine ⟨_, Wk.refl _ _, ?_⟩
        refine then_normal ?_
        refine ⟨_, _, rfl, s27.getj (j := 0) rfl, ?body⟩
        case body =>
          have s29 := s27.setAt (j := 0) rfl (lp19 .busy none)
          show awp _ _ _ _ _ _ _
          refine awp_block ?_
          refine awp_seq ?_
          refine awp_regs hF ?_
          refine dv (gyes_none rfl) (q_mv (v := .int .i64 ((x : Nat) : Int)) rfl) rfl (by decide) (cok1 trivial) ?_
          refine dv (gyes_none rfl) (q_load (v := .int .i64 ((n : Nat) : Int)) Try.isAgg3 rfl (s29.rd (j := 4) rfl) rfl) rfl (by decide) (cok1 trivial) ?_
          refine dvb (gyes_none rfl) (q_int rfl rfl rfl) rfl (by decide) (cok2 trivial trivial) (fun c2 => ?_) (fun c2 => ?_)
          ·
            replace c2 := eq_of_beq c2
            refine ⟨_, Wk.refl _ _, ?_⟩
            show awp _ _ _ _ _ _ _
            refine awp_cond_t rfl ?_
            refine awp_exit_wk ?_
            refine ⟨_, Wk.refl _ _, ?_⟩
            repeat (with_reducible first | refine then_ret ?_ | refine blk_ret ?_ | refine then_exit ?_ | refine blk_exit ?_ | refine blk_exit' (by decide) ?_ | refine blk_normal ?_ | refine then_normal ?_ | refine retq_ret ?_ | refine retq_normal ?_ | refine ng_normal ?_ | refine ng_ret ?_ | refine ng_exit ?_)
            exact ⟨s29.getj (j := 0) rfl, (fun h => nomatch h), (fun _ => ⟨(s29.setAt (j := 0) rfl (lp19 .done (some (.exit 1)))), mem_at hx (by omega)⟩)⟩
          ·
            replace c2 := ne_of_beq_false c2
            refine ⟨_, Wk.refl _ _, ?_⟩
            show awp _ _ _ _ _ _ _
            refine awp_cond_f rfl ?_
            refine awp_skip_wk ?_
            refine ⟨_, Wk.refl _ _, ?_⟩
            repeat (with_reducible first | refine then_ret ?_ | refine blk_ret ?_ | refine then_exit ?_ | refine blk_exit ?_ | refine blk_exit' (by decide) ?_ | refine blk_normal ?_ | refine then_normal ?_ | refine retq_ret ?_ | refine retq_normal ?_ | refine ng_normal ?_ | refine ng_ret ?_ | refine ng_exit ?_)
            exact ⟨s29.getj (j := 0) rfl, (fun _ => ⟨(s29.setAt (j := 0) rfl (lp19 .ready none)), notin_take hx hno (by omega)⟩), (fun h => nomatch h)⟩
      case after =>
        rintro v H' ⟨rfl, ⟨s30, hno⟩ | ⟨_, _, ⟨s31, hin⟩⟩⟩
        ·
          rw [List.take_length] at hno
          refine ⟨(by
              intro e he
              rcases List.mem_cons.1 he with rfl | he
              · exact s30.getj (j := 1) rfl
              · exact ((s30.forget 0).mark1).marks_at e (List.mem_cons_of_mem _ he)), .inl ⟨s30.getj (j := 0) rfl, ?_⟩⟩
          have s32 := (s30.setAt (j := 0) rfl .none).forget 0
          have s32 := s32.mark1
          refine ⟨_, Wk.refl _ _, ?_⟩
          show awp _ _ _ _ _ _ _
          refine awp_seq ?_
          refine awp_regs hF ?_
          refine dv (gyes_none rfl) (q_load (v := .int .i64 ((n : Nat) : Int)) Try.isAgg3 rfl (s32.rd (j := 2) rfl) rfl) rfl (by decide) (cok1 trivial) ?_
          refine dv (gyes_none rfl) (q_as (v := .int .i64 ((n : Nat) : Int)) rfl) rfl (by decide) (cok1 trivial) ?_
          refine dv (gyes_none rfl) (q_as (v := .bool false) rfl) rfl (by decide) (cok1 (cconst rfl)) ?_
          refine ⟨_, Wk.refl _ _, ?_⟩
          show awp _ _ _ _ _ _ _
          refine awp_ret_wk ?_
          refine ⟨_, Wk.refl _ _, ?_⟩
          repeat (with_reducible first | refine then_ret ?_ | refine blk_ret ?_ | refine then_exit ?_ | refine blk_exit ?_ | refine blk_exit' (by decide) ?_ | refine blk_normal ?_ | refine then_normal ?_ | refine retq_ret ?_ | refine retq_normal ?_ | refine ng_normal ?_ | refine ng_ret ?_ | refine ng_exit ?_)
          exact ret_noneDs (v := .tuple #[.int .i64 ((n : Nat) : Int), .bool false]) rfl s32 (.tmp rfl (.tmp rfl .nil)) rfl rfl ⟨by rw [chk_some (by omega) hn.1 hno hn.2]; rfl, rfl⟩
        ·
          refine ⟨(by
              intro e he
              rcases List.mem_cons.1 he with rfl | he
              · exact s31.getj (j := 1) rfl
              · exact ((s31.forget 0).mark1).marks_at e (List.mem_cons_of_mem _ he)), .inr ⟨_, s31.getj (j := 0) rfl, ?_⟩⟩
          have s33 := (s31.setAt (j := 0) rfl .none).forget 0
          have s33 := s33.mark1
          refine awp_exit_wk ?_
          refine ⟨_, Wk.refl _ _, ?_⟩
          show awp _ _ _ _ _ _ _
          refine awp_seq ?_
          refine awp_seq ?_
          refine awp_regs hF ?_
          refine dv (gyes_none rfl) (q_load (v := .int .i64 ((n : Nat) : Int)) Try.isAgg3 rfl (s33.rd (j := 2) rfl) rfl) rfl (by decide) (cok1 trivial) ?_
          refine ⟨_, Wk.refl _ _, ?_⟩
          show awp _ _ _ _ _ _ _
          refine awp_regs hF ?_
          refine x_new (fun b => .pointer (some ⟨b, 0, none⟩)) s33 (gyes_none rfl) (q_alloc (vs := [.int .i64 0]) 1 Try.zeroValue3 (by first | exact flat_scalar rfl | exact flat_agg rfl) rfl) rfl (by decide) (by simp [Op.operands]) (fun b34 H35 hb37 s36 => ?_)
          refine x_store1 [] hF s36 (by kernel_rfl) (gyes_none rfl) (j := 0) (v := .int .i64 ((n : Nat) : Int)) rfl Try.sizeOf3 rfl rfl rfl (lc_scalar rfl) (Nat.le_of_ble_eq_true rfl) trivial trivial rfl rfl (F' := ([(b34, .cells true [.int .i64 ((n : Nat) : Int)] 1), (b13, .cells true [vB, vC] 1), (b14, .cells true [.string (nth names n)] 1), (bi, .cells true [.int .i64 ((n : Nat) : Int)] 1), (b, .cells true [vB, vC] 2)] ++ marks (d20 :: D))) rfl (fun H38 s39 => ⟨?_, ?_⟩)
          · exact trivial
          refine ⟨_, Wk.refl _ _, ?_⟩
          show awp _ _ _ _ _ _ _
          refine awp_regs hF ?_
          refine dv (gyes_none rfl) (q_load (v := .int .i64 ((n : Nat) : Int)) Try.isAgg3 rfl (s39.rd (j := 0) rfl) rfl) rfl (by decide) (cok1 trivial) ?_
          refine dv (gyes_none rfl) (OpQ.cast (v' := .int .i64 ((n + 1 : Nat) : Int)) (q_int rfl rfl rfl) (congrArg _ ((i64_in (by omega)).trans (by first | rfl | omega | (push_cast; rfl))))) rfl (by decide) (cok2 trivial (cconst rfl)) ?_
          refine x_store1 [] hF s39 (by kernel_rfl) (gyes_none rfl) (j := 0) (v := .int .i64 ((n + 1 : Nat) : Int)) rfl Try.sizeOf3 rfl rfl rfl (lc_scalar rfl) (Nat.le_of_ble_eq_true rfl) trivial trivial rfl rfl (F' := ([(b34, .cells true [.int .i64 ((n + 1 : Nat) : Int)] 1), (b13, .cells true [vB, vC] 1), (b14, .cells true [.string (nth names n)] 1), (bi, .cells true [.int .i64 ((n : Nat) : Int)] 1), (b, .cells true [vB, vC] 2)] ++ marks (d20 :: D))) rfl (fun H40 s41 => ⟨?_, ?_⟩)
          · exact trivial
          refine ⟨_, Wk.U [(1, vN), (2, .pointer (some ⟨b, 0, none⟩)), (4, .int .i64 0), (5, .bool false), (6, .pointer (some ⟨b34, 0, none⟩))] ⟨rfl, rfl, rfl, rfl, rfl, trivial⟩, (n + 1), ⟨_, _, _, _, rfl, (s41.sub (.cons_cons _ (.cons _ (.cons _ (.cons _ (.cons_cons _ (.refl _))))))), ⟨by omega, fun j h1 h2 => by
              by_cases e : j = n
              · subst e; exact hin
              · exact hn.2 j h1 (by omega)⟩⟩, (by omega)⟩
    ·
      replace c1 := of_decide_eq_false c1
      refine ⟨_, Wk.refl _ _, ?_⟩
      show awp _ _ _ _ _ _ _
      refine awp_cond_f rfl ?_
      refine awp_exit_wk ?_
      refine ⟨_, Wk.refl _ _, ?_⟩
      show awp _ _ _ _ _ _ _
      refine awp_seq ?_
      refine awp_regs hF ?_
      refine dv (gyes_none rfl) (q_as (v := .int .i64 0) rfl) rfl (by decide) (cok1 (cconst rfl)) ?_
      refine dv (gyes_none rfl) (q_as (v := .bool true) rfl) rfl (by decide) (cok1 (cconst rfl)) ?_
      refine ⟨_, Wk.refl _ _, ?_⟩
      show awp _ _ _ _ _ _ _
      refine awp_ret_wk ?_
      refine ⟨_, Wk.refl _ _, ?_⟩
      repeat (with_reducible first | refine then_ret ?_ | refine blk_ret ?_ | refine then_exit ?_ | refine blk_exit ?_ | refine blk_exit' (by decide) ?_ | refine blk_normal ?_ | refine then_normal ?_ | refine retq_ret ?_ | refine retq_normal ?_ | refine ng_normal ?_ | refine ng_ret ?_ | refine ng_exit ?_)
      exact ret_noneDs (v := .tuple #[.int .i64 0, .bool true]) rfl s12 (.tmp rfl (.tmp rfl .nil)) rfl rfl ⟨by rw [chk_none (by omega) hn.2]; rfl, rfl⟩

end Go.Proofs.YtmoldjiooccppaaA


/-
  Walks of functions of the given program, and what they compute.
-/
namespace Go.Proofs.YtmoldjiooccppaaA
set_option linter.unusedVariables false
open Go Go.RowKit Go.Shelf Go.Proofs
def vN (B : ByteArray) (i : Nat) : Nat := getB (B.extract (8 + 4 * i) (12 + 4 * i))
def allL (B : ByteArray) (k : Nat) : List Nat := (List.range k).map (vN B)
theorem allL_len (B : ByteArray) (k : Nat) : (allL B k).length = k := by simp [allL]
theorem allL_nth {B : ByteArray} {k i : Nat} (h : i < k) : nth (allL B k) i = vN B i := by rw [nth_eq (by rw [allL_len]; exact h)]; simp [allL]
theorem vN_lt (B : ByteArray) (i : Nat) : vN B i < 4294967296 := getB_lt (k := 4) (by rw [ByteArray.size_extract]; omega)
theorem num_all {B : ByteArray} {k : Nat} (h : 8 + k * 4 ≤ B.size) : numL (partV B 8 (k * 4)) = allL B k := by
  rw [partV_in h]
  unfold numL numN allL
  have hs : (B.extract 8 (8 + k * 4)).size / 4 = k := by rw [size_extract h]; omega
  rw [hs]
  refine List.map_congr_left fun i hi => ?_
  have hi := List.mem_range.1 hi
  unfold vN
  rw [ByteArray.extract_extract]
  congr 2 <;> omega
def nmS (B : ByteArray) : Nat := atV B 0 4 + atV B 4 4
def badV (B : ByteArray) (i : Nat) : Bool := decide (vN B i ≠ 0 ∧ atV B 4 4 ≤ vN B i)
def firstV (B : ByteArray) (n : Nat) : Nat := ((List.range n).find? (badV B)).getD n
theorem firstV_yes {B : ByteArray} {n i : Nat} (hi : i < n) (h : badV B i = true) (hn : ∀ j, j < i → badV B j = false) : firstV B n = i := by
  have : (List.range n).find? (badV B) = some i := by
    rw [List.find?_range_eq_some]
    exact ⟨h, List.mem_range.2 hi, fun j hj => by rw [hn j hj]; rfl⟩
  unfold firstV; rw [this]; rfl
theorem firstV_no {B : ByteArray} {n : Nat} (hn : ∀ j, j < n → badV B j = false) : firstV B n = n := by
  have : (List.range n).find? (badV B) = none := by
    rw [List.find?_range_eq_none]
    exact fun j hj => by rw [hn j hj]; rfl
  unfold firstV; rw [this]; rfl
def syC (B : ByteArray) : Nat := if B.size < 8 then 2 else if atV B 0 4 = 0 then 4 else if 256 < atV B 0 4 ∨ 256 < atV B 4 4 then 6 else if ¬ (8 + nmS B * 4 ≤ B.size) then 2 else if firstV B (nmS B) < nmS B then 5 else 0
def syA (B : ByteArray) : Nat := if syC B = 5 then 8 + 4 * firstV B (nmS B) else 0
section
variable {B : ByteArray}
theorem sy_short (h : B.size < 8) : syC B = 2 ∧ syA B = 0 := by
  have e : syC B = 2 := by unfold syC; rw [if_pos h]
  exact ⟨e, by unfold syA; rw [e]; rfl⟩
theorem sy_zero (h1 : ¬ B.size < 8) (h : atV B 0 4 = 0) : syC B = 4 ∧ syA B = 0 := by
  have e : syC B = 4 := by unfold syC; rw [if_neg h1, if_pos h]
  exact ⟨e, by unfold syA; rw [e]; rfl⟩
theorem sy_many (h1 : ¬ B.size < 8) (h2 : atV B 0 4 ≠ 0) (h : 256 < atV B 0 4 ∨ 256 < atV B 4 4) : syC B = 6 ∧ syA B = 0 := by
  have e : syC B = 6 := by unfold syC; rw [if_neg h1, if_neg h2, if_pos h]
  exact ⟨e, by unfold syA; rw [e]; rfl⟩
theorem sy_out (h1 : ¬ B.size < 8) (h2 : atV B 0 4 ≠ 0) (h3 : ¬ (256 < atV B 0 4 ∨ 256 < atV B 4 4)) (h : ¬ (8 + nmS B * 4 ≤ B.size)) : syC B = 2 ∧ syA B = 0 := by
  have e : syC B = 2 := by unfold syC; rw [if_neg h1, if_neg h2, if_neg h3, if_pos h]
  exact ⟨e, by unfold syA; rw [e]; rfl⟩
theorem sy_bad (h1 : ¬ B.size < 8) (h2 : atV B 0 4 ≠ 0) (h3 : ¬ (256 < atV B 0 4 ∨ 256 < atV B 4 4)) (h4 : 8 + nmS B * 4 ≤ B.size) {i : Nat} (hi : i < nmS B) (h : badV B i = true) (hn : ∀ j, j < i → badV B j = false) : syC B = 5 ∧ syA B = 8 + 4 * i := by
  have ef := firstV_yes hi h hn
  have e : syC B = 5 := by unfold syC; rw [if_neg h1, if_neg h2, if_neg h3, if_neg (fun h => h h4), ef, if_pos hi]
  exact ⟨e, by unfold syA; rw [e, ef]; rfl⟩
theorem sy_good (h1 : ¬ B.size < 8) (h2 : atV B 0 4 ≠ 0) (h3 : ¬ (256 < atV B 0 4 ∨ 256 < atV B 4 4)) (h4 : 8 + nmS B * 4 ≤ B.size) (hn : ∀ j, j < nmS B → badV B j = false) : syC B = 0 ∧ syA B = 0 := by
  have e : syC B = 0 := by unfold syC; rw [if_neg h1, if_neg h2, if_neg h3, if_neg (fun h => h h4), firstV_no hn, if_neg (Nat.lt_irrefl _)]
  exact ⟨e, by unfold syA; rw [e]; rfl⟩
end
theorem badV_y {B : ByteArray} {i : Nat} (h1 : vN B i ≠ 0) (h2 : atV B 4 4 ≤ vN B i) : badV B i = true := decide_eq_true ⟨h1, h2⟩
theorem badV_n {B : ByteArray} {i : Nat} (h : ¬ (vN B i ≠ 0 ∧ atV B 4 4 ≤ vN B i)) : badV B i = false := decide_eq_false h
theorem lt_succ_casesN {p : Nat → Prop} {i : Nat} (h : ∀ j, j < i → p j) (hi : p i) : ∀ j, j < i + 1 → p j := fun j hj => by
  by_cases e : j = i
  · subst e; exact hi
  · exact h j (by omega)
theorem sl_part {α : Type} {f : α → Value} {H : AHeap} {b : Nat} {L : List α} (hR : Rd H b (L.map f) 1) {j n c : Nat} (hj : j + n ≤ L.length) (hc : n ≤ c) : Sl f H (.slice (some ⟨b, j, none⟩) n c) ((L.drop j).take n) := by
  have e : ((L.drop j).take n).length = n := by rw [List.length_take, List.length_drop]; omega
  refine .inr ⟨b, j, c, L.map f, by rw [e], hR, by rw [e, List.length_map]; omega, by rw [e]; exact hc, fun i h => ?_⟩
  rw [e] at h
  simp [show j + i < L.length by omega, List.getElem_take]
/-- A table's bytes. -/
def bytL (l : List Nat) : List UInt8 := l.flatMap fun x => putL x 4
theorem bytL_app (l m : List Nat) : bytL (l ++ m) = bytL l ++ bytL m := by simp [bytL]
theorem bytL_one (x : Nat) : bytL [x] = putL x 4 := by simp [bytL]
theorem bytL_len (l : List Nat) : (bytL l).length = 4 * l.length := by
  induction l with
  | nil => rfl
  | cons x l ih => rw [show x :: l = [x] ++ l from rfl, bytL_app, bytL_one, List.length_append, putL_length, ih, List.length_append]; show 4 + _ = 4 * (1 + _); omega
def putT (X Y : List Nat) : ByteArray := ⟨(putL X.length 4 ++ putL Y.length 4 ++ bytL (X ++ Y)).toArray⟩
def seli {α : Type} (a b : α) (j : Nat) : α := if j = 0 then a else b
theorem bl_put2 (a b : Nat) : (putB a 4 ++ putB b 4).data.toList = putL a 4 ++ putL b 4 := by
  have := bl_append (putB a 4) (putB b 4)
  rw [bl_putB, bl_putB] at this; exact this
theorem take_snocN {l : List Nat} {i : Nat} (h : i < l.length) : l.take i ++ [nth l i] = l.take (i + 1) := by rw [nth_eq h, List.take_append_getElem]
set_option maxRecDepth 100000 in
set_option maxHeartbeats 4000000 in
theorem same_ok {H0 : AHeap} (va vb : Value) (l : List Nat) (ha : Sl u32v H0 va l) (hb : Sl u32v H0 vb l) (hl : l.length ≤ 1000000) : ACalls Try.prog 17 [va, vb] H0 (Rets (.bool true) H0) := by
  have hF : Wd Fence.wide := .inl rfl
  have hM : Try.prog.follows .mixedOrders = true := by kernel_rfl
  have s0 := St.begin H0
  refine acalls_st Try.func17 rfl Try.ntmps17 rfl ?_
  refine awp_seq ?_
  refine awp_regs hF ?_
  refine dv (gyes_none rfl) (q_as (v := .bool false) rfl) rfl (by decide) (cok1 (cconst rfl)) ?_
  refine ⟨_, Wk.refl _ _, ?_⟩
  show awp _ _ _ _ _ _ _
  refine awp_seq ?_
  refine awp_seq ?_
  refine awp_regs hF ?_
  refine dv (gyes_none rfl) (q_mv (v := va) rfl) rfl (by decide) (cok1 trivial) ?_
  refine dv (gyes_none rfl) (q_len_sl (l := l) Try.underlying24 (s0.sl ha) rfl) rfl (by decide) (cok1 trivial) ?_
  refine dv (gyes_none rfl) (q_mv (v := vb) rfl) rfl (by decide) (cok1 trivial) ?_
  refine dv (gyes_none rfl) (q_len_sl (l := l) Try.underlying24 (s0.sl hb) rfl) rfl (by decide) (cok1 trivial) ?_
  refine dv (gyes_none rfl) (OpQ.cast (v' := .bool false) (q_int rfl rfl rfl) (congrArg Value.bool (bne_self_eq_false _))) rfl (by decide) (cok2 trivial trivial) ?_
  refine ⟨_, Wk.refl _ _, ?_⟩
  show awp _ _ _ _ _ _ _
  refine awp_cond_f rfl ?_
  refine awp_skip_wk ?_
  refine ⟨_, Wk.refl _ _, ?_⟩
  show awp _ _ _ _ _ _ _
  refine awp_seq ?_
  refine awp_seq ?_
  refine awp_regs hF ?_
  refine dv (gyes_none rfl) (q_as (v := .int .i64 0) rfl) rfl (by decide) (cok1 (cconst rfl)) ?_
  refine ⟨_, Wk.refl _ _, ?_⟩
  show awp _ _ _ _ _ _ _
  refine awp_block ?_
  refine awp_wk (Wk.U [(0, va), (1, vb), (5, .int .i64 0)] ⟨rfl, rfl, rfl, trivial⟩) ?_
  refine awp_loop (fun (i : Nat) st => ∃ (H1 : AHeap), st = ⟨26, U [(0, va), (1, vb), (5, .int .i64 ((i : Nat) : Int))], [], H1⟩ ∧ St H0 (none0) (Rd H0) H1 []) (fun (i : Nat) => l.length - i) (x0 := (0)) ?h0 ?round
  case h0 =>
    exact ⟨_, rfl, s0⟩
  case round =>
    rintro i _ ⟨H1, rfl, s2⟩
    refine awp_seq ?_
    refine awp_seq ?_
    refine awp_regs hF ?_
    refine dv (gyes_none rfl) (q_mv (v := .int .i64 ((i : Nat) : Int)) rfl) rfl (by decide) (cok1 trivial) ?_
    refine dv (gyes_none rfl) (q_mv (v := va) rfl) rfl (by decide) (cok1 trivial) ?_
    refine dv (gyes_none rfl) (q_len_sl (l := l) Try.underlying24 (s2.sl ha) rfl) rfl (by decide) (cok1 trivial) ?_
    refine dvb (gyes_none rfl) (q_int rfl rfl rfl) rfl (by decide) (cok2 trivial trivial) (fun c1 => ?_) (fun c1 => ?_)
    ·
      replace c1 := of_decide_eq_true c1
      refine ⟨_, Wk.refl _ _, ?_⟩
      show awp _ _ _ _ _ _ _
      refine awp_cond_t rfl ?_
      refine awp_skip_wk ?_
      refine ⟨_, Wk.refl _ _, ?_⟩
      show awp _ _ _ _ _ _ _
      refine awp_seq ?_
      refine awp_block ?_
      refine awp_seq ?_
      refine awp_regt hF hM (by kernel_rfl) (by kernel_rfl) ?_
      refine dv (gyes_none rfl) (q_mv (v := va) rfl) rfl (by decide) (cok1 trivial) ?_
      refine dv (gyes_none rfl) (q_mv (v := .int .i64 ((i : Nat) : Int)) rfl) rfl (by decide) (cok1 trivial) ?_
      refine dv (gyes_none rfl) (q_index_sl (l := l) (i := i) Try.underlying24 Try.sizeOf31 (s2.sl ha) rfl rfl (by omega)) rfl (by decide) (cok2 trivial trivial) ?_
      refine dv (gyes_none rfl) (q_load_sl (l := l) (i := i) Try.isAgg31 (s2.sl ha) rfl (by omega)) rfl (by decide) (cok1 trivial) ?_
      refine dv (gyes_none rfl) (q_mv (v := vb) rfl) rfl (by decide) (cok1 trivial) ?_
      refine dv (gyes_none rfl) (q_mv (v := .int .i64 ((i : Nat) : Int)) rfl) rfl (by decide) (cok1 trivial) ?_
      refine dv (gyes_none rfl) (q_index_sl (l := l) (i := i) Try.underlying24 Try.sizeOf31 (s2.sl hb) rfl rfl (by omega)) rfl (by decide) (cok2 trivial trivial) ?_
      refine dv (gyes_none rfl) (q_load_sl (l := l) (i := i) Try.isAgg31 (s2.sl hb) rfl (by omega)) rfl (by decide) (cok1 trivial) ?_
      refine dv (gyes_none rfl) (OpQ.cast (v' := .bool false) (q_int rfl rfl rfl) (congrArg Value.bool (bne_self_eq_false _))) rfl (by decide) (cok2 trivial trivial) ?_
      refine ⟨_, Wk.refl _ _, ?_⟩
      show awp _ _ _ _ _ _ _
      refine awp_cond_f rfl ?_
      refine awp_skip_wk ?_
      refine ⟨_, Wk.refl _ _, ?_⟩
      show awp _ _ _ _ _ _ _
      refine awp_regs hF ?_
      refine dv (gyes_none rfl) (q_mv (v := .int .i64 ((i : Nat) : Int)) rfl) rfl (by decide) (cok1 trivial) ?_
      refine dv (gyes_none rfl) (OpQ.cast (v' := .int .i64 ((i + 1 : Nat) : Int)) (q_int rfl rfl rfl) (congrArg _ ((i64_in (by omega)).trans (by first | rfl | omega | (push_cast; rfl))))) rfl (by decide) (cok2 trivial (cconst rfl)) ?_
      refine dv (gyes_none rfl) (q_as (v := .int .i64 ((i + 1 : Nat) : Int)) rfl) rfl (by decide) (cok1 trivial) ?_
      refine ⟨_, Wk.U [(0, va), (1, vb), (5, .int .i64 (((i + 1) : Nat) : Int))] ⟨rfl, rfl, rfl, trivial⟩, (i + 1), ⟨_, rfl, s2⟩, (by omega)⟩
    ·
      replace c1 := of_decide_eq_false c1
      refine ⟨_, Wk.refl _ _, ?_⟩
      show awp _ _ _ _ _ _ _
      refine awp_cond_f rfl ?_
      refine awp_exit_wk ?_
      refine ⟨_, Wk.refl _ _, ?_⟩
      show awp _ _ _ _ _ _ _
      refine awp_seq ?_
      refine awp_regs hF ?_
      refine dv (gyes_none rfl) (q_as (v := .bool true) rfl) rfl (by decide) (cok1 (cconst rfl)) ?_
      refine ⟨_, Wk.refl _ _, ?_⟩
      show awp _ _ _ _ _ _ _
      refine awp_ret_wk ?_
      refine ⟨_, Wk.refl _ _, ?_⟩
      repeat (with_reducible first | refine then_ret ?_ | refine blk_ret ?_ | refine then_exit ?_ | refine blk_exit ?_ | refine blk_exit' (by decide) ?_ | refine blk_normal ?_ | refine then_normal ?_ | refine retq_ret ?_ | refine retq_normal ?_ | refine ng_normal ?_ | refine ng_ret ?_ | refine ng_exit ?_)
      exact ret_none (v := .bool true) rfl s2.kp (.tmp rfl .nil) rfl rfl ⟨rfl, rfl⟩
theorem nthS_mem {α : Type} [Inhabited α] {l : List α} {k : Nat} (h : k < l.length) : nth l k ∈ l := by rw [nth_eq h]; exact List.getElem_mem h
set_option maxRecDepth 100000 in
set_option maxHeartbeats 4000000 in
theorem tput_ok {H0 : AHeap} (va vb : Value) (X Y : List Nat) (ha : Sl u32v H0 va X) (hb : Sl u32v H0 vb Y) (hXl : X.length ≤ 256) (hYl : Y.length ≤ 256) (hXw : ∀ x ∈ X, x < 4294967296) (hYw : ∀ x ∈ Y, x < 4294967296) : ACalls Try.prog 18 [.agg #[va, vb]] H0 (Rets (.string (putT X Y)) H0) := by
  have hF : Wd Fence.wide := .inl rfl
  have hM : Try.prog.follows .mixedOrders = true := by kernel_rfl
  have s0 := St.begin H0
  refine acalls_st Try.func18 rfl Try.ntmps18 rfl ?_
  refine awp_seq ?_
  refine awp_regs hF ?_
  refine x_new (fun b => .pointer (some ⟨b, 0, none⟩)) s0 (gyes_none rfl) (q_box (v := .agg #[va, vb]) (vs := [va, vb]) 2 rfl (by exact trivial) rfl) rfl (by decide) (cok1 trivial) (fun b1 H2 hb4 s3 => ?_)
  refine dv (gyes_none rfl) (q_as (v := .string (⟨#[]⟩ : ByteArray)) rfl) rfl (by decide) (cok1 (cconst rfl)) ?_
  refine ⟨_, Wk.refl _ _, ?_⟩
  show awp _ _ _ _ _ _ _
  refine awp_seq ?_
  refine awp_regs hF ?_
  refine x_newB s3 (gyes_none rfl) (te := 5) Try.zeroValue66 rfl (by decide) (by simp [Op.operands]) (fun b5 b6 H7 hb9 hb10 s8 => ?_)
  refine ⟨_, Wk.refl _ _, ?_⟩
  show awp _ _ _ _ _ _ _
  refine awp_seq ?_
  have hp8 : (putB X.length 4 ++ putB Y.length 4).size = 8 := by rw [ByteArray.size_append, putB_size, putB_size]
  refine awp_regt hF hM (by kernel_rfl) (by kernel_rfl) ?_
  refine dv (gyes_none rfl) (q_field Try.underlying26 rfl Try.sizeOf24 rfl (s8.rd (j := 2) rfl)) rfl (by decide) (cok1 trivial) ?_
  refine dv (gyes_none rfl) (q_load (v := va) Try.isAgg24 rfl (s8.rd (j := 2) rfl) rfl) rfl (by decide) (cok1 trivial) ?_
  refine dv (gyes_none rfl) (q_len_sl (l := X) Try.underlying24 (s8.sl ha) rfl) rfl (by decide) (cok1 trivial) ?_
  refine dv (gyes_none rfl) (q_convin (a := ((X.length : Nat) : Int)) Try.underlying3 Try.underlying42 rfl (u64_in (by omega))) rfl (by decide) (cok1 trivial) ?_
  refine dv (gyes_none rfl) (q_call0 Try.call30 rfl (put_ok X.length 4 (by omega) (by omega) (by omega))) rfl (by decide) (call_ok rfl) ?_
  refine dv (gyes_none rfl) (q_field Try.underlying26 rfl Try.sizeOf24 rfl (s8.rd (j := 2) rfl)) rfl (by decide) (cok1 trivial) ?_
  refine dv (gyes_none rfl) (q_load (v := vb) Try.isAgg24 rfl (s8.rd (j := 2) rfl) rfl) rfl (by decide) (cok1 trivial) ?_
  refine dv (gyes_none rfl) (q_len_sl (l := Y) Try.underlying24 (s8.sl hb) rfl) rfl (by decide) (cok1 trivial) ?_
  refine dv (gyes_none rfl) (q_convin (a := ((Y.length : Nat) : Int)) Try.underlying3 Try.underlying42 rfl (u64_in (by omega))) rfl (by decide) (cok1 trivial) ?_
  refine dv (gyes_none rfl) (q_call0 Try.call30 rfl (put_ok Y.length 4 (by omega) (by omega) (by omega))) rfl (by decide) (call_ok rfl) ?_
  refine dv (gyes_none rfl) (q_cat rfl rfl (by rw [putB_size, putB_size]; decide)) rfl (by decide) (cok2 trivial trivial) ?_
  refine x_call [] hF (by kernel_rfl) (gyes_none rfl) Try.call29 rfl (args := [.pointer (some ⟨b6, 0, none⟩), .string ((putB X.length 4) ++ (putB Y.length 4))]) rfl (wstr_n b6 b5 0 ([] : List UInt8) (by first | rfl | (simp only [List.length_append, Array.length_toList]; first | rfl | omega) | assumption | omega) (nod2 (s8.nej (i := 1) (j := 0) rfl rfl (by decide))) (s8.getj (j := 1) rfl) (s8.getj (j := 0) rfl) ((putB X.length 4) ++ (putB Y.length 4)) (by omega)) (show _ < _ by decide) (call_ok rfl) rfl rfl (fun _ _ _ _ hd => by cases hd) ?_
  rintro _ H11 ⟨b12, rfl, hk13, ho14, hn15, h16, h17⟩
  have s18 := s8.turn2 (j9 := 1) (jl := 0) rfl rfl (by decide) hk13 ho14 hn15 h16 h17
  refine ⟨trivial, ?_⟩
  show dList _ _ _ _ _ _ _ _ _ _
  refine ⟨_, Wk.refl _ _, ?_⟩
  show awp _ _ _ _ _ _ _
  refine awp_seq ?_
  refine awp_seq ?_
  have hl0 : ([] : List UInt8) ++ ((putB X.length 4) ++ (putB Y.length 4)).data.toList = putL X.length 4 ++ putL Y.length 4 ++ bytL ((X ++ Y).take 0) := by rw [List.take_zero]; show _ = _ ++ []; rw [List.append_nil, List.nil_append, bl_put2]
  rw [hl0] at s18
  refine awp_regs hF ?_
  refine dv (gyes_none rfl) (q_field Try.underlying26 rfl Try.sizeOf24 rfl (s18.rd (j := 2) rfl)) rfl (by decide) (cok1 trivial) ?_
  refine dv (gyes_none rfl) (q_load (v := va) Try.isAgg24 rfl (s18.rd (j := 2) rfl) rfl) rfl (by decide) (cok1 trivial) ?_
  refine dv (gyes_none rfl) (q_field Try.underlying26 rfl Try.sizeOf24 rfl (s18.rd (j := 2) rfl)) rfl (by decide) (cok1 trivial) ?_
  refine dv (gyes_none rfl) (q_load (v := vb) Try.isAgg24 rfl (s18.rd (j := 2) rfl) rfl) rfl (by decide) (cok1 trivial) ?_
  refine dv (gyes_none rfl) (q_buildArrL (ds := [va, vb]) [va, vb] Try.underlying72 Try.sizeOf24 Try.zeroValue72 (by first | exact flat_agg rfl | exact flat_scalar rfl) ⟨rfl, rfl, trivial⟩ (lvsC (Sl.lc (s18.sl ha)).1 (lvsC (Sl.lc (s18.sl hb)).1 lvs0)) (by show fillL (fun i => some (i * 1, 1)) [.slice none 0 0, .slice none 0 0] [(0, va), (1, vb)] = _; simp only [fillL, Sl.cells ha, Sl.cells hb]; rfl)) rfl (by decide) (cok2 trivial trivial) ?_
  refine dv (gyes_none rfl) (q_mv (v := .int .i64 0) rfl) rfl (by decide) (cok1 (cconst rfl)) ?_
  refine ⟨_, Wk.refl _ _, ?_⟩
  show awp _ _ _ _ _ _ _
  refine awp_block ?_
  refine awp_wk (Wk.U [(1, .pointer (some ⟨b1, 0, none⟩)), (2, .string (⟨#[]⟩ : ByteArray)), (3, .pointer (some ⟨b6, 0, none⟩)), (24, .agg #[va, vb]), (25, .int .i64 0)] ⟨rfl, rfl, rfl, rfl, rfl, trivial⟩) ?_
  refine awp_loop (fun ((j, n9, l9) : Nat × Nat × (List UInt8)) st => ∃ (H19 : AHeap) (r9 : Nat), st = ⟨41, U [(1, .pointer (some ⟨b1, 0, none⟩)), (2, .string (⟨#[]⟩ : ByteArray)), (3, .pointer (some ⟨b6, 0, none⟩)), (24, .agg #[va, vb]), (25, .int .i64 ((j : Nat) : Int))], [], H19⟩ ∧ St H0 (none0) (Rd H0) H19 [(r9, .typed 5 (l9.map bytv) 1), (b6, .typed 66 [.pointer (some ⟨b6, 0, none⟩), .slice (some ⟨r9, 0, none⟩) n9 n9] 2), (b1, .cells true [va, vb] 2)] ∧ (j ≤ 2 ∧ l9.length = n9 ∧ (8 ≤ n9 ∧ n9 ≤ 10000) ∧ l9 = putL X.length 4 ++ putL Y.length 4 ++ bytL ((X ++ Y).take (if j = 0 then 0 else if j = 1 then X.length else X.length + Y.length)))) (fun ((j, n9, l9) : Nat × Nat × (List UInt8)) => 2 - j) (x0 := (0, (0 + ((putB X.length 4) ++ (putB Y.length 4)).size), (putL X.length 4 ++ putL Y.length 4 ++ bytL ((X ++ Y).take 0)))) ?h0 ?round
  case h0 =>
    exact ⟨_, _, rfl, s18, ⟨by decide, by rw [List.length_append, List.length_append, putL_length, putL_length, bytL_len, List.take_zero]; show 4 + 4 + 4 * 0 = _; omega, by omega, rfl⟩⟩
  case round =>
    rintro ⟨j, n9, l9⟩ _ ⟨H19, r9, rfl, s20, hj⟩
    dsimp only at *
    refine awp_seq ?_
    refine awp_regs hF ?_
    refine dvb (gyes_none rfl) (q_int rfl rfl rfl) rfl (by decide) (cok2 trivial (cconst rfl)) (fun c1 => ?_) (fun c1 => ?_)
    ·
      replace c1 := of_decide_eq_true c1
      refine ⟨_, Wk.refl _ _, ?_⟩
      show awp _ _ _ _ _ _ _
      refine awp_seq ?_
      refine awp_cond_t rfl ?_
      refine awp_skip_wk ?_
      refine ⟨_, Wk.refl _ _, ?_⟩
      show awp _ _ _ _ _ _ _
      refine awp_seq ?_
      refine awp_block ?_
      refine awp_seq ?_
      have hsj : SlZ u32v (Rd H0) (seli va vb j) (seli X Y j) := by unfold seli; split; exact ha; exact hb
      have hsl : (seli X Y j).length ≤ 256 := by unfold seli; split; exact hXl; exact hYl
      have hsw : ∀ x ∈ seli X Y j, x < 4294967296 := by unfold seli; split; exact hXw; exact hYw
      refine awp_regs hF ?_
      refine dv (gyes_none rfl) (q_indexA1 (v := (seli va vb j)) (i := j) Try.underlying72 Try.isAgg24 Try.sizeOf24 rfl rfl (by omega) (by rcases (show j = 0 ∨ j = 1 by omega) with rfl | rfl <;> rfl)) rfl (by decide) (cok2 trivial trivial) ?_
      refine dv (gyes_none rfl) (q_as (v := (seli va vb j)) rfl) rfl (by decide) (cok1 trivial) ?_
      refine ⟨_, Wk.refl _ _, ?_⟩
      show awp _ _ _ _ _ _ _
      refine awp_seq ?_
      refine awp_regs hF ?_
      refine dv (gyes_none rfl) (q_mv (v := (seli va vb j)) rfl) rfl (by decide) (cok1 trivial) ?_
      refine dv (gyes_none rfl) (q_len_sl (l := (seli X Y j)) Try.underlying24 (s20.sl hsj) rfl) rfl (by decide) (cok1 trivial) ?_
      refine dv (gyes_none rfl) (q_mv (v := .int .i64 0) rfl) rfl (by decide) (cok1 (cconst rfl)) ?_
      refine ⟨_, Wk.refl _ _, ?_⟩
      show awp _ _ _ _ _ _ _
      refine awp_block ?_
      refine awp_wk (Wk.U [(1, .pointer (some ⟨b1, 0, none⟩)), (2, .string (⟨#[]⟩ : ByteArray)), (3, .pointer (some ⟨b6, 0, none⟩)), (24, .agg #[va, vb]), (25, .int .i64 ((j : Nat) : Int)), (28, (seli va vb j)), (29, .int .i64 (((seli X Y j).length : Nat) : Int)), (30, .int .i64 0)] ⟨rfl, rfl, rfl, rfl, rfl, rfl, rfl, rfl, trivial⟩) ?_
      refine awp_loop (fun ((k, n8, l8) : Nat × Nat × (List UInt8)) st => ∃ (H21 : AHeap) (r8 : Nat), st = ⟨41, U [(1, .pointer (some ⟨b1, 0, none⟩)), (2, .string (⟨#[]⟩ : ByteArray)), (3, .pointer (some ⟨b6, 0, none⟩)), (24, .agg #[va, vb]), (25, .int .i64 ((j : Nat) : Int)), (28, (seli va vb j)), (29, .int .i64 (((seli X Y j).length : Nat) : Int)), (30, .int .i64 ((k : Nat) : Int))], [], H21⟩ ∧ St H0 (none0) (Rd H0) H21 [(r8, .typed 5 (l8.map bytv) 1), (b6, .typed 66 [.pointer (some ⟨b6, 0, none⟩), .slice (some ⟨r8, 0, none⟩) n8 n8] 2), (b1, .cells true [va, vb] 2)] ∧ (k ≤ (seli X Y j).length ∧ l8.length = n8 ∧ (8 ≤ n8 ∧ n8 ≤ 10000) ∧ l8 = putL X.length 4 ++ putL Y.length 4 ++ bytL ((X ++ Y).take ((if j = 0 then 0 else X.length) + k)))) (fun ((k, n8, l8) : Nat × Nat × (List UInt8)) => (seli X Y j).length - k) (x0 := (0, n9, l9)) ?h0 ?round
      case h0 =>
        exact ⟨_, _, rfl, s20, ⟨Nat.zero_le _, hj.2.1, hj.2.2.1, by rw [hj.2.2.2]; congr 3; split <;> simp [*] <;> omega⟩⟩
      case round =>
        rintro ⟨k, n8, l8⟩ _ ⟨H21, r8, rfl, s22, hk9⟩
        dsimp only at *
        refine awp_seq ?_
        refine awp_regs hF ?_
        refine dvb (gyes_none rfl) (q_int rfl rfl rfl) rfl (by decide) (cok2 trivial trivial) (fun c2 => ?_) (fun c2 => ?_)
        ·
          replace c2 := of_decide_eq_true c2
          refine ⟨_, Wk.refl _ _, ?_⟩
          show awp _ _ _ _ _ _ _
          refine awp_seq ?_
          refine awp_cond_t rfl ?_
          refine awp_skip_wk ?_
          refine ⟨_, Wk.refl _ _, ?_⟩
          show awp _ _ _ _ _ _ _
          refine awp_seq ?_
          refine awp_block ?_
          refine awp_seq ?_
          have hps := putB_size (nth (seli X Y j) k) 4
          have hxw := hsw _ (nthS_mem (show k < (seli X Y j).length by omega))
          have hpl : (if j = 0 then 0 else X.length) + k < X.length + Y.length := by
            have h9 : k < (seli X Y j).length := by omega
            unfold seli at h9
            split at h9 <;> simp [*] <;> omega
          have hpn : nth (X ++ Y) ((if j = 0 then 0 else X.length) + k) = nth (seli X Y j) k := by
            have h9 : k < (seli X Y j).length := by omega
            unfold seli at h9 ⊢
            split at h9
            · rw [if_pos (by assumption), if_pos (by assumption), Nat.zero_add, nth_eq h9, nth_eq (by rw [List.length_append]; omega), List.getElem_append_left h9]
            · rw [if_neg (by assumption), if_neg (by assumption), nth_eq h9, nth_eq (by rw [List.length_append]; omega), List.getElem_append_right (by omega)]; simp
          refine awp_regs hF ?_
          refine dv (gyes_none rfl) (q_index_sl (l := (seli X Y j)) (i := k) Try.underlying24 Try.sizeOf31 (s22.sl hsj) rfl rfl (by omega)) rfl (by decide) (cok2 trivial trivial) ?_
          refine dv (gyes_none rfl) (q_load_sl (l := (seli X Y j)) (i := k) Try.isAgg31 (s22.sl hsj) rfl (by omega)) rfl (by decide) (cok1 trivial) ?_
          refine dv (gyes_none rfl) (q_as (v := .int .u32 ((nth (seli X Y j) k : Nat) : Int)) rfl) rfl (by decide) (cok1 trivial) ?_
          refine ⟨_, Wk.refl _ _, ?_⟩
          show awp _ _ _ _ _ _ _
          refine awp_regs hF ?_
          refine dv (gyes_none rfl) (q_mv (v := .int .u32 ((nth (seli X Y j) k : Nat) : Int)) rfl) rfl (by decide) (cok1 trivial) ?_
          refine dv (gyes_none rfl) (q_convin (a := ((nth (seli X Y j) k : Nat) : Int)) Try.underlying31 Try.underlying42 rfl (u64_in (by omega))) rfl (by decide) (cok1 trivial) ?_
          refine dv (gyes_none rfl) (q_call0 Try.call30 rfl (put_ok (nth (seli X Y j) k) 4 (by omega) (by omega) (by omega))) rfl (by decide) (call_ok rfl) ?_
          refine x_call [] hF (by kernel_rfl) (gyes_none rfl) Try.call29 rfl (args := [.pointer (some ⟨b6, 0, none⟩), .string (putB (nth (seli X Y j) k) 4)]) rfl (wstr_u b6 r8 n8 l8 (by first | rfl | (simp only [List.length_append, Array.length_toList]; first | rfl | omega) | assumption | omega) (nod2 (s22.nej (i := 1) (j := 0) rfl rfl (by decide))) (s22.getj (j := 1) rfl) (s22.getj (j := 0) rfl) (putB (nth (seli X Y j) k) 4) (by omega)) (show _ < _ by decide) (call_ok rfl) rfl rfl (fun _ _ _ _ hd => by cases hd) ?_
          rintro _ H23 ⟨b24, rfl, hk25, ho26, hn27, h28, h29⟩
          have s30 := s22.turn2 (j9 := 1) (jl := 0) rfl rfl (by decide) hk25 ho26 hn27 h28 h29
          refine ⟨trivial, ?_⟩
          show dList _ _ _ _ _ _ _ _ _ _
          refine ⟨_, Wk.refl _ _, ?_⟩
          show awp _ _ _ _ _ _ _
          refine awp_regs hF ?_
          refine dv (gyes_none rfl) (OpQ.cast (v' := .int .i64 ((k + 1 : Nat) : Int)) (q_int rfl rfl rfl) (congrArg _ ((i64_in (by omega)).trans (by first | rfl | omega | (push_cast; rfl))))) rfl (by decide) (cok2 trivial (cconst rfl)) ?_
          refine dv (gyes_none rfl) (q_mv (v := .int .i64 ((k + 1 : Nat) : Int)) rfl) rfl (by decide) (cok1 trivial) ?_
          have hl9 : l8 ++ (putB (nth (seli X Y j) k) 4).data.toList = putL X.length 4 ++ putL Y.length 4 ++ bytL ((X ++ Y).take ((if j = 0 then 0 else X.length) + (k + 1))) := by
            rw [hk9.2.2.2]
            have e : (putB (nth (seli X Y j) k) 4).data.toList = bytL [nth (seli X Y j) k] := by rw [bytL_one]; exact bl_putB _ _
            rw [e, List.append_assoc, ← bytL_app]
            congr 2
            rw [← Nat.add_assoc, ← take_snocN (by rw [List.length_append]; exact hpl), hpn]
          have hlen9 : (l8 ++ (putB (nth (seli X Y j) k) 4).data.toList).length = n8 + (putB (nth (seli X Y j) k) 4).size := by rw [List.length_append, hk9.2.1]; rfl
          have hb9 : (n8 + (putB (nth (seli X Y j) k) 4).size) ≤ 10000 := by
            have h1 := hlen9
            rw [hl9, List.length_append, List.length_append, putL_length, putL_length, bytL_len, List.length_take, List.length_append] at h1
            omega
          refine ⟨_, Wk.U [(1, .pointer (some ⟨b1, 0, none⟩)), (2, .string (⟨#[]⟩ : ByteArray)), (3, .pointer (some ⟨b6, 0, none⟩)), (24, .agg #[va, vb]), (25, .int .i64 ((j : Nat) : Int)), (28, (seli va vb j)), (29, .int .i64 (((seli X Y j).length : Nat) : Int)), (30, .int .i64 (((k + 1) : Nat) : Int))] ⟨rfl, rfl, rfl, rfl, rfl, rfl, rfl, rfl, trivial⟩, ((k + 1), (n8 + (putB (nth (seli X Y j) k) 4).size), (l8 ++ (putB (nth (seli X Y j) k) 4).data.toList)), ⟨_, _, rfl, s30, ⟨by dsimp only; omega, hlen9, by dsimp only; omega, hl9⟩⟩, (by omega)⟩
        ·
          replace c2 := of_decide_eq_false c2
          have hend : k = (seli X Y j).length := by omega
          refine ⟨_, Wk.refl _ _, ?_⟩
          show awp _ _ _ _ _ _ _
          refine awp_seq ?_
          refine awp_cond_f rfl ?_
          refine awp_exit_wk ?_
          refine ⟨_, Wk.refl _ _, ?_⟩
          show awp _ _ _ _ _ _ _
          refine awp_regs hF ?_
          refine dv (gyes_none rfl) (OpQ.cast (v' := .int .i64 ((j + 1 : Nat) : Int)) (q_int rfl rfl rfl) (congrArg _ ((i64_in (by omega)).trans (by first | rfl | omega | (push_cast; rfl))))) rfl (by decide) (cok2 trivial (cconst rfl)) ?_
          refine dv (gyes_none rfl) (q_mv (v := .int .i64 ((j + 1 : Nat) : Int)) rfl) rfl (by decide) (cok1 trivial) ?_
          refine ⟨_, Wk.U [(1, .pointer (some ⟨b1, 0, none⟩)), (2, .string (⟨#[]⟩ : ByteArray)), (3, .pointer (some ⟨b6, 0, none⟩)), (24, .agg #[va, vb]), (25, .int .i64 (((j + 1) : Nat) : Int))] ⟨rfl, rfl, rfl, rfl, rfl, trivial⟩, ((j + 1), n8, l8), ⟨_, _, rfl, s22, ⟨by dsimp only; omega, hk9.2.1, hk9.2.2.1, by rw [hk9.2.2.2]; congr 3; dsimp only; unfold seli at hk9 hend; split at hend <;> simp [*] <;> omega⟩⟩, (by omega)⟩
    ·
      replace c1 := of_decide_eq_false c1
      refine ⟨_, Wk.refl _ _, ?_⟩
      show awp _ _ _ _ _ _ _
      refine awp_seq ?_
      refine awp_cond_f rfl ?_
      refine awp_exit_wk ?_
      refine ⟨_, Wk.refl _ _, ?_⟩
      show awp _ _ _ _ _ _ _
      refine awp_seq ?_
      refine awp_regs hF ?_
      refine x_call [] hF (by kernel_rfl) (gyes_none rfl) Try.call31 rfl (args := [.pointer (some ⟨b6, 0, none⟩)]) rfl (bstr_ok b6 r9 n9 l9 (by first | rfl | (simp only [List.length_append, Array.length_toList]; first | rfl | omega) | assumption | omega) (by omega) (by omega) (nod2 (s20.nej (i := 1) (j := 0) rfl rfl (by decide))) (s20.getj (j := 1) rfl) (s20.getj (j := 0) rfl)) (show _ < _ by decide) (call_ok rfl) rfl rfl (fun _ _ _ _ hd => by cases hd) ?_
      rintro _ H31 ⟨rfl, hk32, h33, h34⟩
      have s35 := s20.turn2 (j9 := 1) (jl := 0) rfl rfl (by decide) hk32 (.inr (by simp)) (s20.nej (i := 0) (j := 1) rfl rfl (by decide)) h33 h34
      refine ⟨trivial, ?_⟩
      show dList _ _ _ _ _ _ _ _ _ _
      refine dv (gyes_none rfl) (q_as (v := .string ⟨(l9).toArray⟩) rfl) rfl (by decide) (cok1 trivial) ?_
      refine ⟨_, Wk.refl _ _, ?_⟩
      show awp _ _ _ _ _ _ _
      refine awp_ret_wk ?_
      refine ⟨_, Wk.refl _ _, ?_⟩
      repeat (with_reducible first | refine then_ret ?_ | refine blk_ret ?_ | refine then_exit ?_ | refine blk_exit ?_ | refine blk_exit' (by decide) ?_ | refine blk_normal ?_ | refine then_normal ?_ | refine retq_ret ?_ | refine retq_normal ?_ | refine ng_normal ?_ | refine ng_ret ?_ | refine ng_exit ?_)
      exact ret_none (v := .string ⟨(l9).toArray⟩) rfl s35.kp (.tmp rfl .nil) rfl rfl ⟨by show Value.string _ = Value.string _; rw [hj.2.2.2, show j = 2 by omega]; simp only [if_neg (show ¬ (2 = 0) by decide), if_neg (show ¬ (2 = 1) by decide)]; rw [List.take_of_length_le (by rw [List.length_append]; exact Nat.le_refl _)]; rfl, rfl⟩

end Go.Proofs.YtmoldjiooccppaaA

