/-
  Walks over abstract states: texts of one claim, merged.
-/
import Derived.Test.YtmoldjiooccppaaM2
import Derived.Test.YtmoldjiooccppaaProg
import Derived.KernelRfl
/-
  Walks of functions of the given program, and what they compute.
-/
namespace Go.Proofs.YtmoldjiooccppaaA
set_option linter.unusedVariables false
open Go Go.RowKit Go.Shelf Go.Proofs
theorem St.turn2 {H0 : AHeap} {X : Nat → Prop} {Z : Rs} {H H' : AHeap} {F : List (Nat × AObj)} (h : St H0 X Z H F) {j9 jl b9 bl bn : Nat} {o9 ol o9' on : AObj} (h9 : F[j9]? = some (b9, o9)) (hl : F[jl]? = some (bl, ol)) (hij : j9 ≠ jl) (k : Kp (· ∈ [b9, bl]) H H') (hb : H.length ≤ bn ∨ bn ∈ [b9, bl]) (hne : bn ≠ b9) (h9' : H'[b9]? = some o9') (hn : H'[bn]? = some on) : St H0 X Z H' ((F.set j9 (b9, o9')).set jl (bn, on)) := by
  have m9 : b9 ∈ F.map (·.1) := List.mem_map.2 ⟨_, List.mem_of_getElem? h9, rfl⟩
  have ml : bl ∈ F.map (·.1) := List.mem_map.2 ⟨_, List.mem_of_getElem? hl, rfl⟩
  have hjl := (List.getElem?_eq_some_iff.1 hl).1
  refine h.turn k _ ?_ (fun p hp => ?_) (fun b hb => ?_)
  · have e1 : ((F.set j9 (b9, o9')).set jl (bn, on)).map (·.1) = (F.map (·.1)).set jl bn := by rw [List.map_set, keys_set h9]
    rw [e1]
    refine nodup_of_inj fun i j x hi hj => ?_
    rw [List.getElem?_set] at hi hj
    have nb : ∀ q, q ≠ jl → (F.map (·.1))[q]? ≠ some bn := fun q hq e => by
      rw [List.getElem?_map] at e
      obtain ⟨y, hy, hy2⟩ := Option.map_eq_some_iff.1 e
      rcases hb with hb | hb
      · have := lt_of_some (h.getj (b := y.1) (o := y.2) hy)
        omega
      · rcases List.mem_cons.1 hb with hb | hb
        · exact hne hb
        · have hb : bn = bl := by simpa using hb
          exact h.ne hy hl hq (hy2.trans hb)
    by_cases ei : jl = i
    · by_cases ej : jl = j
      · omega
      · rw [if_pos ei, if_pos (by simpa using hjl)] at hi
        rw [if_neg ej] at hj
        cases hi
        exact absurd hj (nb j (Ne.symm ej))
    · rw [if_neg ei] at hi
      by_cases ej : jl = j
      · rw [if_pos ej, if_pos (by simpa using hjl)] at hj
        cases hj
        exact absurd hi (nb i (Ne.symm ei))
      · rw [if_neg ej] at hj
        exact nodup_inj h.nd hi hj
  · rcases mem_set_cases hp with rfl | ⟨i, hi, hp⟩
    · refine .inr ⟨hn, hb.imp id fun hb => ?_⟩
      rcases List.mem_cons.1 hb with hb | hb
      · exact absurd hb hne
      · have hb : bn = bl := by simpa using hb
        show bn ∈ _
        rw [hb]; exact ml
    · rw [List.getElem?_set] at hp
      by_cases e : j9 = i
      · rw [if_pos e, if_pos (List.getElem?_eq_some_iff.1 h9).1] at hp
        cases hp
        exact .inr ⟨h9', .inr m9⟩
      · rw [if_neg e] at hp
        refine .inl ⟨List.mem_of_getElem? hp, fun hm => ?_⟩
        rcases List.mem_cons.1 hm with hm | hm
        · exact h.ne hp h9 (Ne.symm e) hm
        · have hm : p.1 = bl := by simpa using hm
          exact h.ne hp hl hi hm
  · rcases List.mem_cons.1 hb with rfl | hb
    · exact m9
    · have hb : b = bl := by simpa using hb
      rw [hb]; exact ml
theorem St.turn1 {H0 : AHeap} {X : Nat → Prop} {Z : Rs} {H H' : AHeap} {F : List (Nat × AObj)} (h : St H0 X Z H F) {j b : Nat} {o o' : AObj} (hj : F[j]? = some (b, o)) (k : Kp (· ∈ [b]) H H') (h' : H'[b]? = some o') : St H0 X Z H' (F.set j (b, o')) := by
  have m9 : b ∈ F.map (·.1) := List.mem_map.2 ⟨_, List.mem_of_getElem? hj, rfl⟩
  refine h.turn k _ (by rw [keys_set hj]; exact h.nd) (fun p hp => ?_) (fun c hc => ?_)
  · rcases mem_set_cases hp with rfl | ⟨i, hi, hp⟩
    · exact .inr ⟨h', .inr m9⟩
    · exact .inl ⟨List.mem_of_getElem? hp, fun hm => h.ne hp hj hi (by simpa using hm)⟩
  · have hc : c = b := by simpa using hc
    rw [hc]; exact m9
theorem x_newB {Fc : Fence} {n : Nat} {P : Program} {N0 : AHeap} {ops : Array Oper} {rest : List Oper} {K : ASt → Prop} {nt : Nat} {T : Nat → Value} {D : List Nat} {d : Tmp} {tab : List Nat} {i : Nat} {H0 : AHeap} {X : Nat → Prop} {Z : Rs} {H : AHeap} {F : List (Nat × AObj)} {ty : TypeId} {pos : String} {af : Array Edge} {g : Option (Nat × Bool)} {t te : TypeId} {z : Value} (hS : St H0 X Z H F) (hg : GYes ops ⟨some d, .alloc t, ty, pos, af, g⟩ T) (hz : ∀ w, (zeroValue t).run P w = .ok z w) (hvs : z.cells = #[.pointer none, .slice none 0 0]) (hn : d < nt) (hc : ∀ x ∈ (Op.alloc t).operands, cOk H x)
    (hk : ∀ b c H', H.length ≤ b → H.length ≤ c → St H0 X Z H' ((b, .typed te [] 1) :: (c, .typed t [.pointer none, .slice (some ⟨b, 0, none⟩) 0 0] 2) :: F) → dList Fc n P N0 ops tab (i + 1) rest K ⟨nt, upd T d (.pointer (some ⟨c, 0, none⟩)), D, H'⟩) : dList Fc n P N0 ops tab i (⟨some d, .alloc t, ty, pos, af, g⟩ :: rest) K ⟨nt, T, D, H⟩ := by
  refine dn hg (q_allocB (te := te) hz hvs) rfl hn hc rfl (hk _ _ _ (Nat.le_refl _) (Nat.le_succ _) ?_)
  have h := (hS.push (.typed te [] 1)).push (.typed t [.pointer none, .slice (some ⟨H.length, 0, none⟩) 0 0] 2)
  rw [List.append_assoc, List.length_append] at h
  exact h.perm (.swap _ _ _)
set_option maxRecDepth 100000 in
set_option maxHeartbeats 4000000 in
theorem copyCheck_n {H0 : AHeap} (bb r n : Nat) (h1 : H0[bb]? = some (.typed 66 [.pointer none, .slice (some ⟨r, 0, none⟩) n n] 2)) : ACalls Try.prog 36 [.pointer (some ⟨bb, 0, none⟩)] H0 (fun v H' => v = .tuple #[] ∧ Kp (· ∈ [bb]) H0 H' ∧ H'[bb]? = some (.typed 66 [.pointer (some ⟨bb, 0, none⟩), .slice (some ⟨r, 0, none⟩) n n] 2)) := by
  have hF : Wd Fence.wide := .inl rfl
  have hM : Try.prog.follows .mixedOrders = true := by kernel_rfl
  have s0 : St H0 (· ∈ [bb]) (Off H0 [bb]) H0 [(bb, .typed 66 [.pointer none, .slice (some ⟨r, 0, none⟩) n n] 2)] := St.beginL [(bb, .typed 66 [.pointer none, .slice (some ⟨r, 0, none⟩) n n] 2)] (by simp) (allAt_mem ⟨h1, trivial⟩)
  refine acalls_st Try.func36 rfl Try.ntmps36 rfl ?_
  refine awp_seq ?_
  refine awp_regs hF ?_
  refine dv (gyes_none rfl) (q_mv (v := .pointer (some ⟨bb, 0, none⟩)) rfl) rfl (by decide) (cok1 trivial) ?_
  refine dv (gyes_none rfl) (q_nilCheck rfl (by rw [s0.getj (j := 0) rfl]; simp)) rfl (by decide) (cok1 trivial) ?_
  refine dv (gyes_none rfl) (q_field Try.underlying66 rfl Try.sizeOf63 rfl (s0.rdT (j := 0) rfl)) rfl (by decide) (cok1 trivial) ?_
  refine dv (gyes_none rfl) (q_load (v := .pointer none) Try.isAgg63 rfl (s0.rdT (j := 0) rfl) rfl) rfl (by decide) (cok1 trivial) ?_
  refine dv (gyes_none rfl) (q_ptrnil_t Try.underlying63 rfl rfl) rfl (by decide) (cok2 trivial (cconst rfl)) ?_
  refine ⟨_, Wk.refl _ _, ?_⟩
  show awp _ _ _ _ _ _ _
  refine awp_cond_t rfl ?_
  refine awp_regs hF ?_
  refine dv (gyes_none rfl) (q_mv (v := .pointer (some ⟨bb, 0, none⟩)) rfl) rfl (by decide) (cok1 trivial) ?_
  refine dv (gyes_none rfl) (q_mv (v := .pointer (some ⟨bb, 0, none⟩)) rfl) rfl (by decide) (cok1 trivial) ?_
  refine dv (gyes_none rfl) (q_toUnsafe (H := H0) Try.underlying63 Try.underlying78 Try.type66 (by decide) rfl (s0.getj (j := 0) rfl) (Nat.zero_lt_succ _)) rfl (by decide) (cok1 trivial) ?_
  refine dv (gyes_none rfl) (q_noEscape Try.func38 (by kernel_rfl) (by kernel_rfl) (by kernel_rfl) (by kernel_rfl) rfl) rfl (by decide) (cok2 trivial trivial) ?_
  refine dv (gyes_none rfl) (q_fromUnsafe (H := H0) Try.underlying78 Try.underlying63 Try.type66  rfl (s0.getj (j := 0) rfl) (by decide) (by kernel_rfl)) rfl (by decide) (cok1 trivial) ?_
  refine dv (gyes_none rfl) (q_nilCheck rfl (by rw [s0.getj (j := 0) rfl]; simp)) rfl (by decide) (cok1 trivial) ?_
  refine dv (gyes_none rfl) (q_field Try.underlying66 rfl Try.sizeOf63 rfl (s0.rdT (j := 0) rfl)) rfl (by decide) (cok1 trivial) ?_
  refine x_store1T [] hF s0 (by kernel_rfl) (gyes_none rfl) (j := 0) (v := .pointer (some ⟨bb, 0, none⟩)) rfl Try.sizeOf63 rfl rfl rfl (lc_ptr (by rw [s0.getj (j := 0) rfl]; simp)) (Nat.le_of_ble_eq_true rfl) trivial trivial rfl rfl (F' := [(bb, .typed 66 [.pointer (some ⟨bb, 0, none⟩), .slice (some ⟨r, 0, none⟩) n n] 2)]) rfl (fun H1 s2 => ⟨?_, ?_⟩)
  · exact trivial
  refine ⟨_, Wk.refl _ _, ?_⟩
  repeat (with_reducible first | refine then_ret ?_ | refine blk_ret ?_ | refine then_exit ?_ | refine blk_exit ?_ | refine blk_exit' (by decide) ?_ | refine blk_normal ?_ | refine then_normal ?_ | refine retq_ret ?_ | refine retq_normal ?_ | refine ng_normal ?_ | refine ng_ret ?_ | refine ng_exit ?_)
  refine ret_is (v := .tuple #[]) rfl .nil rfl ?_
  exact ⟨rfl, s2.kp, s2.getj (j := 0) rfl⟩
set_option maxRecDepth 100000 in
set_option maxHeartbeats 4000000 in
theorem copyCheck_u {H0 : AHeap} (bb r n : Nat) (hb : Rd H0 bb [.pointer (some ⟨bb, 0, none⟩), .slice (some ⟨r, 0, none⟩) n n] 2) : ACalls Try.prog 36 [.pointer (some ⟨bb, 0, none⟩)] H0 (Rets (.tuple #[]) H0) := by
  have hF : Wd Fence.wide := .inl rfl
  have hM : Try.prog.follows .mixedOrders = true := by kernel_rfl
  have s0 := St.begin H0
  refine acalls_st Try.func36 rfl Try.ntmps36 rfl ?_
  refine awp_seq ?_
  refine awp_regs hF ?_
  refine dv (gyes_none rfl) (q_mv (v := .pointer (some ⟨bb, 0, none⟩)) rfl) rfl (by decide) (cok1 trivial) ?_
  refine dv (gyes_none rfl) (q_nilCheck rfl (Rd.live (s0.zrd hb))) rfl (by decide) (cok1 trivial) ?_
  refine dv (gyes_none rfl) (q_field Try.underlying66 rfl Try.sizeOf63 rfl (s0.zrd hb)) rfl (by decide) (cok1 trivial) ?_
  refine dv (gyes_none rfl) (q_load (v := .pointer (some ⟨bb, 0, none⟩)) Try.isAgg63 rfl (s0.zrd hb) rfl) rfl (by decide) (cok1 trivial) ?_
  refine dv (gyes_none rfl) (q_ptrnil_f Try.underlying63 rfl (Rd.live (s0.zrd hb)) rfl) rfl (by decide) (cok2 trivial (cconst rfl)) ?_
  refine ⟨_, Wk.refl _ _, ?_⟩
  show awp _ _ _ _ _ _ _
  refine awp_cond_f rfl ?_
  refine awp_seq ?_
  refine awp_regs hF ?_
  refine dv (gyes_none rfl) (q_mv (v := .pointer (some ⟨bb, 0, none⟩)) rfl) rfl (by decide) (cok1 trivial) ?_
  refine dv (gyes_none rfl) (q_nilCheck rfl (Rd.live (s0.zrd hb))) rfl (by decide) (cok1 trivial) ?_
  refine dv (gyes_none rfl) (q_field Try.underlying66 rfl Try.sizeOf63 rfl (s0.zrd hb)) rfl (by decide) (cok1 trivial) ?_
  refine dv (gyes_none rfl) (q_load (v := .pointer (some ⟨bb, 0, none⟩)) Try.isAgg63 rfl (s0.zrd hb) rfl) rfl (by decide) (cok1 trivial) ?_
  refine dv (gyes_none rfl) (q_mv (v := .pointer (some ⟨bb, 0, none⟩)) rfl) rfl (by decide) (cok1 trivial) ?_
  refine dv (gyes_none rfl) (q_ptrself Try.underlying63 Try.type66 rfl (Rd.live (s0.zrd hb)) rfl) rfl (by decide) (cok2 trivial trivial) ?_
  refine ⟨_, Wk.refl _ _, ?_⟩
  show awp _ _ _ _ _ _ _
  refine awp_cond_f rfl ?_
  refine awp_skip_wk ?_
  refine ⟨_, Wk.refl _ _, ?_⟩
  repeat (with_reducible first | refine then_ret ?_ | refine blk_ret ?_ | refine then_exit ?_ | refine blk_exit ?_ | refine blk_exit' (by decide) ?_ | refine blk_normal ?_ | refine then_normal ?_ | refine retq_ret ?_ | refine retq_normal ?_ | refine ng_normal ?_ | refine ng_ret ?_ | refine ng_exit ?_)
  exact ret_none (v := .tuple #[]) rfl s0.kp .nil rfl rfl ⟨rfl, rfl⟩
set_option maxRecDepth 100000 in
set_option maxHeartbeats 4000000 in
theorem wstr_n {H0 : AHeap} (bb r n : Nat) (l : List UInt8) (hn : l.length = n) (hnd : [bb, r].Nodup) (h1 : H0[bb]? = some (.typed 66 [.pointer none, .slice (some ⟨r, 0, none⟩) n n] 2)) (h2 : H0[r]? = some (.typed 5 (l.map bytv) 1)) (t : ByteArray) (hsz : n + t.size ≤ 100000000) : ACalls Try.prog 29 [.pointer (some ⟨bb, 0, none⟩), .string t] H0 (fun v H' => ∃ rn, v = .tuple #[.int .i64 ((t.size : Nat) : Int), .nilIface] ∧ Kp (· ∈ [bb, r]) H0 H' ∧ (H0.length ≤ rn ∨ rn ∈ [bb, r]) ∧ rn ≠ bb ∧ H'[bb]? = some (.typed 66 [.pointer (some ⟨bb, 0, none⟩), .slice (some ⟨rn, 0, none⟩) (n + t.size) (n + t.size)] 2) ∧ H'[rn]? = some (.typed 5 ((l ++ t.data.toList).map bytv) 1)) := by
  have hF : Wd Fence.wide := .inl rfl
  have hM : Try.prog.follows .mixedOrders = true := by kernel_rfl
  have s0 : St H0 (· ∈ [bb, r]) (Off H0 [bb, r]) H0 [(bb, .typed 66 [.pointer none, .slice (some ⟨r, 0, none⟩) n n] 2), (r, .typed 5 (l.map bytv) 1)] := St.beginL [(bb, .typed 66 [.pointer none, .slice (some ⟨r, 0, none⟩) n n] 2), (r, .typed 5 (l.map bytv) 1)] hnd (allAt_mem ⟨h1, h2, trivial⟩)
  refine acalls_st Try.func29 rfl Try.ntmps29 rfl ?_
  refine awp_seq ?_
  refine awp_regs hF ?_
  refine dv (gyes_none rfl) (q_as (v := .int .i64 0) rfl) rfl (by decide) (cok1 (cconst rfl)) ?_
  refine dv (gyes_none rfl) (q_as (v := .nilIface) rfl) rfl (by decide) (cok1 (cconst rfl)) ?_
  refine ⟨_, Wk.refl _ _, ?_⟩
  show awp _ _ _ _ _ _ _
  refine awp_seq ?_
  refine awp_regs hF ?_
  refine dv (gyes_none rfl) (q_mv (v := .pointer (some ⟨bb, 0, none⟩)) rfl) rfl (by decide) (cok1 trivial) ?_
  refine x_call [] hF (by kernel_rfl) (gyes_none rfl) Try.call36 rfl (args := [.pointer (some ⟨bb, 0, none⟩)]) rfl (copyCheck_n bb r n (s0.getj (j := 0) rfl)) (show _ < _ by decide) (call_ok rfl) rfl rfl (fun _ _ _ _ hd => by cases hd) ?_
  rintro _ H1 ⟨rfl, hk2, h3⟩
  have s4 := s0.turn1 (j := 0) rfl hk2 h3
  refine ⟨trivial, ?_⟩
  show dList _ _ _ _ _ _ _ _ _ _
  refine ⟨_, Wk.refl _ _, ?_⟩
  show awp _ _ _ _ _ _ _
  refine awp_seq ?_
  refine awp_regs hF ?_
  refine dv (gyes_none rfl) (q_mv (v := .pointer (some ⟨bb, 0, none⟩)) rfl) rfl (by decide) (cok1 trivial) ?_
  refine dv (gyes_none rfl) (q_mv (v := .pointer (some ⟨bb, 0, none⟩)) rfl) rfl (by decide) (cok1 trivial) ?_
  refine dv (gyes_none rfl) (q_nilCheck rfl (by rw [s4.getj (j := 0) rfl]; simp)) rfl (by decide) (cok1 trivial) ?_
  refine dv (gyes_none rfl) (q_field Try.underlying66 rfl Try.sizeOf64 rfl (s4.rdT (j := 0) rfl)) rfl (by decide) (cok1 trivial) ?_
  refine dv (gyes_none rfl) (q_load (v := .slice (some ⟨r, 0, none⟩) n n) Try.isAgg64 rfl (s4.rdT (j := 0) rfl) rfl) rfl (by decide) (cok1 trivial) ?_
  refine dv (gyes_none rfl) (q_mv (v := .string t) rfl) rfl (by decide) (cok1 trivial) ?_
  refine x_appendT [] hF s4 (by kernel_rfl) (j := 1) (n + t.size) rfl (gyes_none rfl) Try.underlying64 Try.underlying9 Try.type5 rfl rfl (by decide) rfl rfl rfl rfl hn.symm (by show (2 * _ + 1000) * 1 ≤ _; omega) trivial trivial (by decide) rfl rfl (fun b5 H6 hb8 s7 => ⟨?_, ?_⟩)
  · exact trivial
  refine dv (gyes_none rfl) (q_nilCheck rfl (by rw [s7.getj (j := 0) rfl]; simp)) rfl (by decide) (cok1 trivial) ?_
  refine dv (gyes_none rfl) (q_field Try.underlying66 rfl Try.sizeOf64 rfl (s7.rdT (j := 0) rfl)) rfl (by decide) (cok1 trivial) ?_
  refine x_store1T [] hF s7 (by kernel_rfl) (gyes_none rfl) (j := 0) (v := .slice (some ⟨b5, 0, none⟩) (n + t.size) (n + t.size)) rfl Try.sizeOf64 rfl rfl rfl (lc_slice (by rw [s7.getj (j := 1) rfl]; simp)) (Nat.le_of_ble_eq_true rfl) trivial trivial rfl rfl (F' := [(bb, .typed 66 [.pointer (some ⟨bb, 0, none⟩), .slice (some ⟨b5, 0, none⟩) (n + t.size) (n + t.size)] 2), (b5, .typed 5 ((l ++ t.data.toList).map bytv) 1)]) rfl (fun H9 s10 => ⟨?_, ?_⟩)
  · exact trivial
  refine ⟨_, Wk.refl _ _, ?_⟩
  show awp _ _ _ _ _ _ _
  refine awp_seq ?_
  refine awp_regs hF ?_
  refine dv (gyes_none rfl) (q_mv (v := .string t) rfl) rfl (by decide) (cok1 trivial) ?_
  refine dv (gyes_none rfl) (q_len_str Try.underlying9 rfl) rfl (by decide) (cok1 trivial) ?_
  refine dv (gyes_none rfl) (q_as (v := .int .i64 ((t.size : Nat) : Int)) rfl) rfl (by decide) (cok1 trivial) ?_
  refine dv (gyes_none rfl) (q_as (v := .nilIface) rfl) rfl (by decide) (cok1 (cconst rfl)) ?_
  refine ⟨_, Wk.refl _ _, ?_⟩
  show awp _ _ _ _ _ _ _
  refine awp_ret_wk ?_
  refine ⟨_, Wk.refl _ _, ?_⟩
  repeat (with_reducible first | refine then_ret ?_ | refine blk_ret ?_ | refine then_exit ?_ | refine blk_exit ?_ | refine blk_exit' (by decide) ?_ | refine blk_normal ?_ | refine then_normal ?_ | refine retq_ret ?_ | refine retq_normal ?_ | refine ng_normal ?_ | refine ng_ret ?_ | refine ng_exit ?_)
  refine ret_is (v := .tuple #[.int .i64 ((t.size : Nat) : Int), .nilIface]) rfl (.tmp rfl (.tmp rfl .nil)) rfl ?_
  exact ⟨_, rfl, s10.kp, s10.own _ (List.mem_of_getElem? (i := 1) rfl), s10.nej (i := 1) (j := 0) rfl rfl (by decide), s10.getj (j := 0) rfl, s10.getj (j := 1) rfl⟩
set_option maxRecDepth 100000 in
set_option maxHeartbeats 4000000 in
theorem wstr_u {H0 : AHeap} (bb r n : Nat) (l : List UInt8) (hn : l.length = n) (hnd : [bb, r].Nodup) (h1 : H0[bb]? = some (.typed 66 [.pointer (some ⟨bb, 0, none⟩), .slice (some ⟨r, 0, none⟩) n n] 2)) (h2 : H0[r]? = some (.typed 5 (l.map bytv) 1)) (t : ByteArray) (hsz : n + t.size ≤ 100000000) : ACalls Try.prog 29 [.pointer (some ⟨bb, 0, none⟩), .string t] H0 (fun v H' => ∃ rn, v = .tuple #[.int .i64 ((t.size : Nat) : Int), .nilIface] ∧ Kp (· ∈ [bb, r]) H0 H' ∧ (H0.length ≤ rn ∨ rn ∈ [bb, r]) ∧ rn ≠ bb ∧ H'[bb]? = some (.typed 66 [.pointer (some ⟨bb, 0, none⟩), .slice (some ⟨rn, 0, none⟩) (n + t.size) (n + t.size)] 2) ∧ H'[rn]? = some (.typed 5 ((l ++ t.data.toList).map bytv) 1)) := by
  have hF : Wd Fence.wide := .inl rfl
  have hM : Try.prog.follows .mixedOrders = true := by kernel_rfl
  have s0 : St H0 (· ∈ [bb, r]) (Off H0 [bb, r]) H0 [(bb, .typed 66 [.pointer (some ⟨bb, 0, none⟩), .slice (some ⟨r, 0, none⟩) n n] 2), (r, .typed 5 (l.map bytv) 1)] := St.beginL [(bb, .typed 66 [.pointer (some ⟨bb, 0, none⟩), .slice (some ⟨r, 0, none⟩) n n] 2), (r, .typed 5 (l.map bytv) 1)] hnd (allAt_mem ⟨h1, h2, trivial⟩)
  refine acalls_st Try.func29 rfl Try.ntmps29 rfl ?_
  refine awp_seq ?_
  refine awp_regs hF ?_
  refine dv (gyes_none rfl) (q_as (v := .int .i64 0) rfl) rfl (by decide) (cok1 (cconst rfl)) ?_
  refine dv (gyes_none rfl) (q_as (v := .nilIface) rfl) rfl (by decide) (cok1 (cconst rfl)) ?_
  refine ⟨_, Wk.refl _ _, ?_⟩
  show awp _ _ _ _ _ _ _
  refine awp_seq ?_
  refine awp_regs hF ?_
  refine dv (gyes_none rfl) (q_mv (v := .pointer (some ⟨bb, 0, none⟩)) rfl) rfl (by decide) (cok1 trivial) ?_
  refine dv (gyes_none rfl) (q_call0 Try.call36 rfl (copyCheck_u bb r n (s0.rdT (j := 0) rfl))) rfl (by decide) (cok2 trivial trivial) ?_
  refine ⟨_, Wk.refl _ _, ?_⟩
  show awp _ _ _ _ _ _ _
  refine awp_seq ?_
  refine awp_regs hF ?_
  refine dv (gyes_none rfl) (q_mv (v := .pointer (some ⟨bb, 0, none⟩)) rfl) rfl (by decide) (cok1 trivial) ?_
  refine dv (gyes_none rfl) (q_mv (v := .pointer (some ⟨bb, 0, none⟩)) rfl) rfl (by decide) (cok1 trivial) ?_
  refine dv (gyes_none rfl) (q_nilCheck rfl (by rw [s0.getj (j := 0) rfl]; simp)) rfl (by decide) (cok1 trivial) ?_
  refine dv (gyes_none rfl) (q_field Try.underlying66 rfl Try.sizeOf64 rfl (s0.rdT (j := 0) rfl)) rfl (by decide) (cok1 trivial) ?_
  refine dv (gyes_none rfl) (q_load (v := .slice (some ⟨r, 0, none⟩) n n) Try.isAgg64 rfl (s0.rdT (j := 0) rfl) rfl) rfl (by decide) (cok1 trivial) ?_
  refine dv (gyes_none rfl) (q_mv (v := .string t) rfl) rfl (by decide) (cok1 trivial) ?_
  refine x_appendT [] hF s0 (by kernel_rfl) (j := 1) (n + t.size) rfl (gyes_none rfl) Try.underlying64 Try.underlying9 Try.type5 rfl rfl (by decide) rfl rfl rfl rfl hn.symm (by show (2 * _ + 1000) * 1 ≤ _; omega) trivial trivial (by decide) rfl rfl (fun b1 H2 hb4 s3 => ⟨?_, ?_⟩)
  · exact trivial
  refine dv (gyes_none rfl) (q_nilCheck rfl (by rw [s3.getj (j := 0) rfl]; simp)) rfl (by decide) (cok1 trivial) ?_
  refine dv (gyes_none rfl) (q_field Try.underlying66 rfl Try.sizeOf64 rfl (s3.rdT (j := 0) rfl)) rfl (by decide) (cok1 trivial) ?_
  refine x_store1T [] hF s3 (by kernel_rfl) (gyes_none rfl) (j := 0) (v := .slice (some ⟨b1, 0, none⟩) (n + t.size) (n + t.size)) rfl Try.sizeOf64 rfl rfl rfl (lc_slice (by rw [s3.getj (j := 1) rfl]; simp)) (Nat.le_of_ble_eq_true rfl) trivial trivial rfl rfl (F' := [(bb, .typed 66 [.pointer (some ⟨bb, 0, none⟩), .slice (some ⟨b1, 0, none⟩) (n + t.size) (n + t.size)] 2), (b1, .typed 5 ((l ++ t.data.toList).map bytv) 1)]) rfl (fun H5 s6 => ⟨?_, ?_⟩)
  · exact trivial
  refine ⟨_, Wk.refl _ _, ?_⟩
  show awp _ _ _ _ _ _ _
  refine awp_seq ?_
  refine awp_regs hF ?_
  refine dv (gyes_none rfl) (q_mv (v := .string t) rfl) rfl (by decide) (cok1 trivial) ?_
  refine dv (gyes_none rfl) (q_len_str Try.underlying9 rfl) rfl (by decide) (cok1 trivial) ?_
  refine dv (gyes_none rfl) (q_as (v := .int .i64 ((t.size : Nat) : Int)) rfl) rfl (by decide) (cok1 trivial) ?_
  refine dv (gyes_none rfl) (q_as (v := .nilIface) rfl) rfl (by decide) (cok1 (cconst rfl)) ?_
  refine ⟨_, Wk.refl _ _, ?_⟩
  show awp _ _ _ _ _ _ _
  refine awp_ret_wk ?_
  refine ⟨_, Wk.refl _ _, ?_⟩
  repeat (with_reducible first | refine then_ret ?_ | refine blk_ret ?_ | refine then_exit ?_ | refine blk_exit ?_ | refine blk_exit' (by decide) ?_ | refine blk_normal ?_ | refine then_normal ?_ | refine retq_ret ?_ | refine retq_normal ?_ | refine ng_normal ?_ | refine ng_ret ?_ | refine ng_exit ?_)
  refine ret_is (v := .tuple #[.int .i64 ((t.size : Nat) : Int), .nilIface]) rfl (.tmp rfl (.tmp rfl .nil)) rfl ?_
  exact ⟨_, rfl, s6.kp, s6.own _ (List.mem_of_getElem? (i := 1) rfl), s6.nej (i := 1) (j := 0) rfl rfl (by decide), s6.getj (j := 0) rfl, s6.getj (j := 1) rfl⟩
set_option maxRecDepth 100000 in
set_option maxHeartbeats 4000000 in
theorem bstr_ok {H0 : AHeap} (bb r n : Nat) (l : List UInt8) (hn : l.length = n) (hn0 : 0 < n) (hn1 : n ≤ 100000000) (hnd : [bb, r].Nodup) (h1 : H0[bb]? = some (.typed 66 [.pointer (some ⟨bb, 0, none⟩), .slice (some ⟨r, 0, none⟩) n n] 2)) (h2 : H0[r]? = some (.typed 5 (l.map bytv) 1)) : ACalls Try.prog 31 [.pointer (some ⟨bb, 0, none⟩)] H0 (fun v H' => v = .string ⟨l.toArray⟩ ∧ Kp (· ∈ [bb, r]) H0 H' ∧ H'[bb]? = some (.typed 66 [.pointer (some ⟨bb, 0, none⟩), .slice (some ⟨r, 0, none⟩) n n] 2) ∧ H'[r]? = some .dead) := by
  have hF : Wd Fence.wide := .inl rfl
  have hM : Try.prog.follows .mixedOrders = true := by kernel_rfl
  have hl0 : l ≠ [] := fun e => by rw [e] at hn; simp at hn; omega
  have s0 : St H0 (· ∈ [bb, r]) (Off H0 [bb, r]) H0 [(bb, .typed 66 [.pointer (some ⟨bb, 0, none⟩), .slice (some ⟨r, 0, none⟩) n n] 2), (r, .typed 5 (l.map bytv) 1)] := St.beginL [(bb, .typed 66 [.pointer (some ⟨bb, 0, none⟩), .slice (some ⟨r, 0, none⟩) n n] 2), (r, .typed 5 (l.map bytv) 1)] hnd (allAt_mem ⟨h1, h2, trivial⟩)
  refine acalls_st Try.func31 rfl Try.ntmps31 rfl ?_
  refine awp_seq ?_
  refine awp_regs hF ?_
  refine dv (gyes_none rfl) (q_as (v := .string (⟨#[]⟩ : ByteArray)) rfl) rfl (by decide) (cok1 (cconst rfl)) ?_
  refine ⟨_, Wk.refl _ _, ?_⟩
  show awp _ _ _ _ _ _ _
  refine awp_seq ?_
  refine awp_regt hF hM (by kernel_rfl) (by kernel_rfl) ?_
  refine dv (gyes_none rfl) (q_mv (v := .pointer (some ⟨bb, 0, none⟩)) rfl) rfl (by decide) (cok1 trivial) ?_
  refine dv (gyes_none rfl) (q_nilCheck rfl (by rw [s0.getj (j := 0) rfl]; simp)) rfl (by decide) (cok1 trivial) ?_
  refine dv (gyes_none rfl) (q_field Try.underlying66 rfl Try.sizeOf64 rfl (s0.rdT (j := 0) rfl)) rfl (by decide) (cok1 trivial) ?_
  refine dv (gyes_none rfl) (q_load (v := .slice (some ⟨r, 0, none⟩) n n) Try.isAgg64 rfl (s0.rdT (j := 0) rfl) rfl) rfl (by decide) (cok1 trivial) ?_
  refine dv (gyes_none rfl) (q_sliceData rfl hn0 (s0.getj (j := 1) rfl)) rfl (by decide) (cok1 trivial) ?_
  refine dv (gyes_none rfl) (q_mv (v := .pointer (some ⟨bb, 0, none⟩)) rfl) rfl (by decide) (cok1 trivial) ?_
  refine dv (gyes_none rfl) (q_nilCheck rfl (by rw [s0.getj (j := 0) rfl]; simp)) rfl (by decide) (cok1 trivial) ?_
  refine dv (gyes_none rfl) (q_field Try.underlying66 rfl Try.sizeOf64 rfl (s0.rdT (j := 0) rfl)) rfl (by decide) (cok1 trivial) ?_
  refine dv (gyes_none rfl) (q_load (v := .slice (some ⟨r, 0, none⟩) n n) Try.isAgg64 rfl (s0.rdT (j := 0) rfl) rfl) rfl (by decide) (cok1 trivial) ?_
  refine dv (gyes_none rfl) (q_len_slice Try.underlying64 rfl (s0.rdT (j := 1) rfl)) rfl (by decide) (cok1 trivial) ?_
  refine x_unsafeString [] hF s0 (by kernel_rfl) (j := 1) (gyes_none rfl) Try.underlying75 (by kernel_rfl) rfl (by show Value.int _ _ = _; rw [hn]) hl0 (by omega) rfl trivial trivial (by decide) rfl rfl (fun H1 s2 => ⟨?_, ?_⟩)
  · exact trivial
  refine dv (gyes_none rfl) (q_as (v := .string ⟨l.toArray⟩) rfl) rfl (by decide) (cok1 trivial) ?_
  refine ⟨_, Wk.refl _ _, ?_⟩
  show awp _ _ _ _ _ _ _
  refine awp_ret_wk ?_
  refine ⟨_, Wk.refl _ _, ?_⟩
  repeat (with_reducible first | refine then_ret ?_ | refine blk_ret ?_ | refine then_exit ?_ | refine blk_exit ?_ | refine blk_exit' (by decide) ?_ | refine blk_normal ?_ | refine then_normal ?_ | refine retq_ret ?_ | refine retq_normal ?_ | refine ng_normal ?_ | refine ng_ret ?_ | refine ng_exit ?_)
  refine ret_is (v := .string ⟨l.toArray⟩) rfl (.tmp rfl .nil) rfl ?_
  exact ⟨rfl, s2.kp, s2.getj (j := 0) rfl, s2.getj (j := 1) rfl⟩

end Go.Proofs.YtmoldjiooccppaaA


/-
  Walks of functions of the given program, and what they compute.
-/
namespace Go.Proofs.YtmoldjiooccppaaA
set_option linter.unusedVariables false
open Go Go.RowKit Go.Shelf Go.Proofs
set_option maxRecDepth 100000 in
set_option maxHeartbeats 4000000 in
theorem sized_ok {H0 : AHeap} (k : Nat) (h1 : 1 ≤ k) (h8 : k ≤ 8) : ACalls Try.prog 33 [.int .i64 ((k : Nat) : Int)] H0 (Rets (.bool true) H0) := by
  have hF : Wd Fence.wide := .inl rfl
  have hM : Try.prog.follows .mixedOrders = true := by kernel_rfl
  have s0 := St.begin H0
  refine acalls_st Try.func33 rfl Try.ntmps33 rfl ?_
  refine awp_seq ?_
  refine awp_regs hF ?_
  refine dv (gyes_none rfl) (q_as (v := .bool false) rfl) rfl (by decide) (cok1 (cconst rfl)) ?_
  refine ⟨_, Wk.refl _ _, ?_⟩
  show awp _ _ _ _ _ _ _
  refine awp_seq ?_
  refine awp_regs hF ?_
  refine dv (gyes_none rfl) (q_mv (v := .int .i64 ((k : Nat) : Int)) rfl) rfl (by decide) (cok1 trivial) ?_
  refine dv (gyes_none rfl) (OpQ.cast (v' := .bool true) (q_int rfl rfl rfl) (congrArg Value.bool (decide_eq_true (by omega)))) rfl (by decide) (cok2 trivial (cconst rfl)) ?_
  refine dv (gyes_none rfl) (q_mv (v := .bool true) rfl) rfl (by decide) (cok1 trivial) ?_
  refine dv (gyes_some rfl rfl) (q_mv (v := .int .i64 ((k : Nat) : Int)) rfl) rfl (by decide) (cok1 trivial) ?_
  refine dv (gyes_some rfl rfl) (OpQ.cast (v' := .bool true) (q_int rfl rfl rfl) (congrArg Value.bool (decide_eq_true (by omega)))) rfl (by decide) (cok2 trivial (cconst rfl)) ?_
  refine dv (gyes_none rfl) (q_pt (v := .bool true) rfl rfl) rfl (by decide) (call_ok rfl) ?_
  refine dv (gyes_none rfl) (q_as (v := .bool true) rfl) rfl (by decide) (cok1 trivial) ?_
  refine ⟨_, Wk.refl _ _, ?_⟩
  show awp _ _ _ _ _ _ _
  refine awp_ret_wk ?_
  refine ⟨_, Wk.refl _ _, ?_⟩
  repeat (with_reducible first | refine then_ret ?_ | refine blk_ret ?_ | refine then_exit ?_ | refine blk_exit ?_ | refine blk_exit' (by decide) ?_ | refine blk_normal ?_ | refine then_normal ?_ | refine retq_ret ?_ | refine retq_normal ?_ | refine ng_normal ?_ | refine ng_ret ?_ | refine ng_exit ?_)
  exact ret_none (v := .bool true) rfl s0.kp (.tmp rfl .nil) rfl rfl ⟨rfl, rfl⟩
theorem or_byte {n b : Nat} (h : b < 256) : n * 2 ^ 8 ||| b = b + 256 * n := by
  rw [← Nat.shiftLeft_eq, ← Nat.shiftLeft_add_eq_or_of_lt h, Nat.shiftLeft_eq]; omega
set_option maxRecDepth 100000 in
set_option maxHeartbeats 4000000 in
theorem get_ok {H0 : AHeap} (s : ByteArray) (hs : s.size ≤ 8) : ACalls Try.prog 34 [.string s] H0 (Rets (.int .u64 ((getB s : Nat) : Int)) H0) := by
  have hF : Wd Fence.wide := .inl rfl
  have hM : Try.prog.follows .mixedOrders = true := by kernel_rfl
  have s0 := St.begin H0
  refine acalls_st Try.func34 rfl Try.ntmps34 rfl ?_
  refine awp_seq ?_
  refine awp_regs hF ?_
  refine dv (gyes_none rfl) (q_as (v := .int .u64 0) rfl) rfl (by decide) (cok1 (cconst rfl)) ?_
  refine ⟨_, Wk.refl _ _, ?_⟩
  show awp _ _ _ _ _ _ _
  refine awp_seq ?_
  refine awp_seq ?_
  refine awp_regs hF ?_
  refine dv (gyes_none rfl) (q_mv (v := .string s) rfl) rfl (by decide) (cok1 trivial) ?_
  refine dv (gyes_none rfl) (q_len_str Try.underlying9 rfl) rfl (by decide) (cok1 trivial) ?_
  refine dvb (gyes_none rfl) (q_int rfl rfl rfl) rfl (by decide) (cok2 trivial (cconst rfl)) (fun c1 => ?_) (fun c1 => ?_)
  ·
    replace c1 := of_decide_eq_true c1
    exfalso; omega
  ·
    replace c1 := of_decide_eq_false c1
    refine ⟨_, Wk.refl _ _, ?_⟩
    show awp _ _ _ _ _ _ _
    refine awp_cond_f rfl ?_
    refine awp_skip_wk ?_
    refine ⟨_, Wk.refl _ _, ?_⟩
    show awp _ _ _ _ _ _ _
    refine awp_seq ?_
    refine awp_regs hF ?_
    refine dv (gyes_none rfl) (q_as (v := .int .u64 0) rfl) rfl (by decide) (cok1 (cconst rfl)) ?_
    refine ⟨_, Wk.refl _ _, ?_⟩
    show awp _ _ _ _ _ _ _
    refine awp_seq ?_
    refine awp_seq ?_
    refine awp_regs hF ?_
    refine dv (gyes_none rfl) (q_mv (v := .string s) rfl) rfl (by decide) (cok1 trivial) ?_
    refine dv (gyes_none rfl) (q_len_str Try.underlying9 rfl) rfl (by decide) (cok1 trivial) ?_
    refine dv (gyes_none rfl) (OpQ.cast (v' := .int .i64 (((s.size : Nat) : Int) - 1)) (q_int rfl rfl rfl) (congrArg _ (i64_in (by omega)))) rfl (by decide) (cok2 trivial (cconst rfl)) ?_
    refine dv (gyes_none rfl) (q_as (v := .int .i64 (((s.size : Nat) : Int) - 1)) rfl) rfl (by decide) (cok1 trivial) ?_
    refine ⟨_, Wk.refl _ _, ?_⟩
    show awp _ _ _ _ _ _ _
    refine awp_block ?_
    refine awp_wk (Wk.U [(0, .string s), (3, .int .u64 0), (4, .int .i64 (((s.size : Nat) : Int) - 1))] ⟨rfl, rfl, rfl, trivial⟩) ?_
    refine awp_loop (fun ((i, n) : Int × Nat) st => ∃ (H1 : AHeap), st = ⟨23, U [(0, .string s), (3, .int .u64 ((n : Nat) : Int)), (4, .int .i64 i)], [], H1⟩ ∧ St H0 (none0) (Rd H0) H1 [] ∧ (-1 ≤ i ∧ i < s.size ∧ n = getN ((bl s).drop (i + 1).toNat) ∧ n < 256 ^ (s.size - (i + 1).toNat))) (fun ((i, n) : Int × Nat) => (i + 1).toNat) (x0 := ((((s.size : Nat) : Int) - 1), 0)) ?h0 ?round
    case h0 =>
      exact ⟨_, rfl, s0, ⟨by omega, by omega, by rw [List.drop_eq_nil_iff.2 (by rw [bl_length]; omega)]; rfl, Nat.pow_pos (by decide)⟩⟩
    case round =>
      rintro ⟨i, n⟩ _ ⟨H1, rfl, s2, hn⟩
      dsimp only at *
      refine awp_seq ?_
      refine awp_seq ?_
      refine awp_regs hF ?_
      refine dv (gyes_none rfl) (q_mv (v := .int .i64 i) rfl) rfl (by decide) (cok1 trivial) ?_
      refine dvb (gyes_none rfl) (q_int rfl rfl rfl) rfl (by decide) (cok2 trivial (cconst rfl)) (fun c2 => ?_) (fun c2 => ?_)
      ·
        replace c2 := of_decide_eq_true c2
        have hb := byt_lt s i.toNat
        have hn7 : n < 72057594037927936 := Nat.lt_of_lt_of_le hn.2.2.2 (Nat.pow_le_pow_right (by decide) (by omega) : 256 ^ _ ≤ 256 ^ 7)
        refine ⟨_, Wk.refl _ _, ?_⟩
        show awp _ _ _ _ _ _ _
        refine awp_cond_t rfl ?_
        refine awp_skip_wk ?_
        refine ⟨_, Wk.refl _ _, ?_⟩
        show awp _ _ _ _ _ _ _
        refine awp_seq ?_
        refine awp_block ?_
        refine awp_regs hF ?_
        refine dv (gyes_none rfl) (q_mv (v := .int .u64 ((n : Nat) : Int)) rfl) rfl (by decide) (cok1 trivial) ?_
        refine dv (gyes_none rfl) (q_shlN (a := n) (c := 8) rfl rfl rfl (by decide) (by show n * 2 ^ 8 < 2 ^ 64; omega)) rfl (by decide) (cok2 trivial (cconst rfl)) ?_
        refine dv (gyes_none rfl) (q_mv (v := .string s) rfl) rfl (by decide) (cok1 trivial) ?_
        refine dv (gyes_none rfl) (q_mv (v := .int .i64 i) rfl) rfl (by decide) (cok1 trivial) ?_
        refine dv (gyes_none rfl) (q_bytI (z := i) Try.underlying9 rfl rfl (by omega) (by omega)) rfl (by decide) (cok2 trivial trivial) ?_
        refine dv (gyes_none rfl) (q_convin (a := ((byt s (i.toNat) : Nat) : Int)) Try.underlying5 Try.underlying42 rfl (u64_in (by omega))) rfl (by decide) (cok1 trivial) ?_
        refine dv (gyes_none rfl) (OpQ.cast (v' := .int .u64 ((byt s i.toNat + 256 * n : Nat) : Int)) (q_orN (a := (n * 2 ^ 8)) (b := (byt s (i.toNat))) rfl rfl rfl (by show n * 2 ^ 8 < 2 ^ 64; omega) (by show _ < 2 ^ 64; omega)) (congrArg _ (congrArg _ (or_byte hb)))) rfl (by decide) (cok2 trivial trivial) ?_
        refine dv (gyes_none rfl) (q_as (v := .int .u64 ((byt s i.toNat + 256 * n : Nat) : Int)) rfl) rfl (by decide) (cok1 trivial) ?_
        refine ⟨_, Wk.refl _ _, ?_⟩
        show awp _ _ _ _ _ _ _
        refine awp_regs hF ?_
        refine dv (gyes_none rfl) (q_mv (v := .int .i64 i) rfl) rfl (by decide) (cok1 trivial) ?_
        refine dv (gyes_none rfl) (OpQ.cast (v' := .int .i64 (i - 1)) (q_int rfl rfl rfl) (congrArg _ (i64_in (by omega)))) rfl (by decide) (cok2 trivial (cconst rfl)) ?_
        refine dv (gyes_none rfl) (q_as (v := .int .i64 (i - 1)) rfl) rfl (by decide) (cok1 trivial) ?_
        refine ⟨_, Wk.U [(0, .string s), (3, .int .u64 (((byt s i.toNat + 256 * n) : Nat) : Int)), (4, .int .i64 (i - 1))] ⟨rfl, rfl, rfl, trivial⟩, ((i - 1), (byt s i.toNat + 256 * n)), ⟨_, rfl, s2, ⟨by omega, by omega, by dsimp only; rw [show (i - 1 + 1).toNat = i.toNat by omega, getN_step (by omega), hn.2.2.1, show i.toNat + 1 = (i + 1).toNat by omega], by
              dsimp only
              have h1 : 256 ^ (s.size - (i - 1 + 1).toNat) = 256 ^ (s.size - (i + 1).toNat) * 256 := by rw [← Nat.pow_succ]; congr 1; omega
              have := hn.2.2.2
              omega⟩⟩, (by omega)⟩
      ·
        replace c2 := of_decide_eq_false c2
        refine ⟨_, Wk.refl _ _, ?_⟩
        show awp _ _ _ _ _ _ _
        refine awp_cond_f rfl ?_
        refine awp_exit_wk ?_
        refine ⟨_, Wk.refl _ _, ?_⟩
        show awp _ _ _ _ _ _ _
        refine awp_seq ?_
        refine awp_regs hF ?_
        refine dv (gyes_none rfl) (q_mv (v := .int .u64 ((n : Nat) : Int)) rfl) rfl (by decide) (cok1 trivial) ?_
        refine dv (gyes_none rfl) (q_as (v := .int .u64 ((n : Nat) : Int)) rfl) rfl (by decide) (cok1 trivial) ?_
        refine ⟨_, Wk.refl _ _, ?_⟩
        show awp _ _ _ _ _ _ _
        refine awp_ret_wk ?_
        refine ⟨_, Wk.refl _ _, ?_⟩
        repeat (with_reducible first | refine then_ret ?_ | refine blk_ret ?_ | refine then_exit ?_ | refine blk_exit ?_ | refine blk_exit' (by decide) ?_ | refine blk_normal ?_ | refine then_normal ?_ | refine retq_ret ?_ | refine retq_normal ?_ | refine ng_normal ?_ | refine ng_ret ?_ | refine ng_exit ?_)
        exact ret_none (v := .int .u64 ((n : Nat) : Int)) rfl s2.kp (.tmp rfl .nil) rfl rfl ⟨by rw [hn.2.2.1, show (i + 1).toNat = 0 by omega]; rfl, rfl⟩
set_option maxRecDepth 100000 in
set_option maxHeartbeats 4000000 in
theorem part_ok {H0 : AHeap} (s : ByteArray) (a n : Nat) (hs : s.size ≤ 140737488355328) (ha : a < 18446744073709551616) (hn : n < 18446744073709551616) : ACalls Try.prog 25 [.string s, .int .u64 ((a : Nat) : Int), .int .u64 ((n : Nat) : Int)] H0 (Rets (.tuple #[.string (partV s a n), .bool (decide (a + n ≤ s.size))]) H0) := by
  have hF : Wd Fence.wide := .inl rfl
  have hM : Try.prog.follows .mixedOrders = true := by kernel_rfl
  have s0 := St.begin H0
  refine acalls_st Try.func25 rfl Try.ntmps25 rfl ?_
  refine awp_seq ?_
  refine awp_regs hF ?_
  refine dv (gyes_none rfl) (q_as (v := .string (⟨#[]⟩ : ByteArray)) rfl) rfl (by decide) (cok1 (cconst rfl)) ?_
  refine dv (gyes_none rfl) (q_as (v := .bool false) rfl) rfl (by decide) (cok1 (cconst rfl)) ?_
  refine ⟨_, Wk.refl _ _, ?_⟩
  show awp _ _ _ _ _ _ _
  refine awp_seq ?_
  refine awp_regs hF ?_
  refine dv (gyes_none rfl) (q_mv (v := .string s) rfl) rfl (by decide) (cok1 trivial) ?_
  refine dv (gyes_none rfl) (q_len_str Try.underlying9 rfl) rfl (by decide) (cok1 trivial) ?_
  refine dv (gyes_none rfl) (q_convin (a := ((s.size : Nat) : Int)) Try.underlying3 Try.underlying42 rfl (u64_in (by omega))) rfl (by decide) (cok1 trivial) ?_
  refine dv (gyes_none rfl) (q_as (v := .int .u64 ((s.size : Nat) : Int)) rfl) rfl (by decide) (cok1 trivial) ?_
  refine ⟨_, Wk.refl _ _, ?_⟩
  show awp _ _ _ _ _ _ _
  refine awp_seq ?_
  refine awp_seq ?_
  refine awp_regs hF ?_
  refine dv (gyes_none rfl) (q_mv (v := .int .u64 ((a : Nat) : Int)) rfl) rfl (by decide) (cok1 trivial) ?_
  refine dv (gyes_none rfl) (q_mv (v := .int .u64 ((s.size : Nat) : Int)) rfl) rfl (by decide) (cok1 trivial) ?_
  refine dvb (gyes_none rfl) (q_int rfl rfl rfl) rfl (by decide) (cok2 trivial trivial) (fun c1 => ?_) (fun c1 => ?_)
  ·
    replace c1 := of_decide_eq_true c1
    refine dv (gyes_none rfl) (q_mv (v := .bool true) rfl) rfl (by decide) (cok1 trivial) ?_
    refine dno rfl (.inl rfl) rfl (by decide) ?_
    refine dno rfl (.inl rfl) rfl (by decide) ?_
    refine dno rfl (.inl rfl) rfl (by decide) ?_
    refine dno rfl (.inl rfl) rfl (by decide) ?_
    refine dno rfl (.inl rfl) rfl (by decide) ?_
    refine dv (gyes_none rfl) (q_pt (v := .bool true) rfl rfl) rfl (by decide) (call_ok rfl) ?_
    refine ⟨_, Wk.refl _ _, ?_⟩
    show awp _ _ _ _ _ _ _
    refine awp_cond_t rfl ?_
    refine awp_seq ?_
    refine awp_regs hF ?_
    refine dv (gyes_none rfl) (q_as (v := .string (⟨#[]⟩ : ByteArray)) rfl) rfl (by decide) (cok1 (cconst rfl)) ?_
    refine dv (gyes_none rfl) (q_as (v := .bool false) rfl) rfl (by decide) (cok1 (cconst rfl)) ?_
    refine ⟨_, Wk.refl _ _, ?_⟩
    show awp _ _ _ _ _ _ _
    refine awp_ret_wk ?_
    refine ⟨_, Wk.refl _ _, ?_⟩
    repeat (with_reducible first | refine then_ret ?_ | refine blk_ret ?_ | refine then_exit ?_ | refine blk_exit ?_ | refine blk_exit' (by decide) ?_ | refine blk_normal ?_ | refine then_normal ?_ | refine retq_ret ?_ | refine retq_normal ?_ | refine ng_normal ?_ | refine ng_ret ?_ | refine ng_exit ?_)
    exact ret_none (v := .tuple #[.string (⟨#[]⟩ : ByteArray), .bool false]) rfl s0.kp (.tmp rfl (.tmp rfl .nil)) rfl rfl ⟨by rw [partV_out (by omega), decide_eq_false (by omega)], rfl⟩
  ·
    replace c1 := of_decide_eq_false c1
    refine dv (gyes_none rfl) (q_mv (v := .bool false) rfl) rfl (by decide) (cok1 trivial) ?_
    refine dv (gyes_some rfl rfl) (q_mv (v := .int .u64 ((n : Nat) : Int)) rfl) rfl (by decide) (cok1 trivial) ?_
    refine dv (gyes_some rfl rfl) (q_mv (v := .int .u64 ((s.size : Nat) : Int)) rfl) rfl (by decide) (cok1 trivial) ?_
    refine dv (gyes_some rfl rfl) (q_mv (v := .int .u64 ((a : Nat) : Int)) rfl) rfl (by decide) (cok1 trivial) ?_
    refine dv (gyes_some rfl rfl) (OpQ.cast (v' := .int .u64 ((s.size - a : Nat) : Int)) (q_int rfl rfl rfl) (congrArg _ ((u64_in (by omega)).trans (by omega)))) rfl (by decide) (cok2 trivial trivial) ?_
    refine dvb (gyes_some rfl rfl) (q_int rfl rfl rfl) rfl (by decide) (cok2 trivial trivial) (fun c2 => ?_) (fun c2 => ?_)
    ·
      replace c2 := of_decide_eq_true c2
      refine dv (gyes_none rfl) (q_pf (v := .bool true) rfl rfl) rfl (by decide) (call_ok rfl) ?_
      refine ⟨_, Wk.refl _ _, ?_⟩
      show awp _ _ _ _ _ _ _
      refine awp_cond_t rfl ?_
      refine awp_seq ?_
      refine awp_regs hF ?_
      refine dv (gyes_none rfl) (q_as (v := .string (⟨#[]⟩ : ByteArray)) rfl) rfl (by decide) (cok1 (cconst rfl)) ?_
      refine dv (gyes_none rfl) (q_as (v := .bool false) rfl) rfl (by decide) (cok1 (cconst rfl)) ?_
      refine ⟨_, Wk.refl _ _, ?_⟩
      show awp _ _ _ _ _ _ _
      refine awp_ret_wk ?_
      refine ⟨_, Wk.refl _ _, ?_⟩
      repeat (with_reducible first | refine then_ret ?_ | refine blk_ret ?_ | refine then_exit ?_ | refine blk_exit ?_ | refine blk_exit' (by decide) ?_ | refine blk_normal ?_ | refine then_normal ?_ | refine retq_ret ?_ | refine retq_normal ?_ | refine ng_normal ?_ | refine ng_ret ?_ | refine ng_exit ?_)
      exact ret_none (v := .tuple #[.string (⟨#[]⟩ : ByteArray), .bool false]) rfl s0.kp (.tmp rfl (.tmp rfl .nil)) rfl rfl ⟨by rw [partV_out (by omega), decide_eq_false (by omega)], rfl⟩
    ·
      replace c2 := of_decide_eq_false c2
      refine dv (gyes_none rfl) (q_pf (v := .bool false) rfl rfl) rfl (by decide) (call_ok rfl) ?_
      refine ⟨_, Wk.refl _ _, ?_⟩
      show awp _ _ _ _ _ _ _
      refine awp_cond_f rfl ?_
      refine awp_skip_wk ?_
      refine ⟨_, Wk.refl _ _, ?_⟩
      show awp _ _ _ _ _ _ _
      refine awp_seq ?_
      refine awp_regs hF ?_
      refine dv (gyes_none rfl) (q_mv (v := .string s) rfl) rfl (by decide) (cok1 trivial) ?_
      refine dv (gyes_none rfl) (q_mv (v := .int .u64 ((a : Nat) : Int)) rfl) rfl (by decide) (cok1 trivial) ?_
      refine dv (gyes_none rfl) (q_mv (v := .int .u64 ((a : Nat) : Int)) rfl) rfl (by decide) (cok1 trivial) ?_
      refine dv (gyes_none rfl) (q_mv (v := .int .u64 ((n : Nat) : Int)) rfl) rfl (by decide) (cok1 trivial) ?_
      refine dv (gyes_none rfl) (OpQ.cast (v' := .int .u64 ((a + n : Nat) : Int)) (q_int rfl rfl rfl) (congrArg _ ((u64_in (by omega)).trans (by first | rfl | omega | (push_cast; rfl))))) rfl (by decide) (cok2 trivial trivial) ?_
      refine dv (gyes_none rfl) (q_substr (i := a) (j := (a + n)) Try.underlying9 rfl ⟨_, rfl⟩ ⟨_, rfl⟩ (by omega) (by omega)) rfl (by decide) (call_ok rfl) ?_
      refine dv (gyes_none rfl) (q_as (v := .string (s.extract a (a + n))) rfl) rfl (by decide) (cok1 trivial) ?_
      refine dv (gyes_none rfl) (q_as (v := .bool true) rfl) rfl (by decide) (cok1 (cconst rfl)) ?_
      refine ⟨_, Wk.refl _ _, ?_⟩
      show awp _ _ _ _ _ _ _
      refine awp_ret_wk ?_
      refine ⟨_, Wk.refl _ _, ?_⟩
      repeat (with_reducible first | refine then_ret ?_ | refine blk_ret ?_ | refine then_exit ?_ | refine blk_exit ?_ | refine blk_exit' (by decide) ?_ | refine blk_normal ?_ | refine then_normal ?_ | refine retq_ret ?_ | refine retq_normal ?_ | refine ng_normal ?_ | refine ng_ret ?_ | refine ng_exit ?_)
      exact ret_none (v := .tuple #[.string (s.extract a (a + n)), .bool true]) rfl s0.kp (.tmp rfl (.tmp rfl .nil)) rfl rfl ⟨by rw [partV_in (by omega), decide_eq_true (by omega)], rfl⟩
set_option maxRecDepth 100000 in
set_option maxHeartbeats 4000000 in
theorem at_ok {H0 : AHeap} (s : ByteArray) (a k : Nat) (hs : s.size ≤ 140737488355328) (ha : a < 18446744073709551616) (h1 : 1 ≤ k) (h8 : k ≤ 8) : ACalls Try.prog 23 [.string s, .int .u64 ((a : Nat) : Int), .int .i64 ((k : Nat) : Int)] H0 (Rets (.tuple #[.int .u64 ((atV s a k : Nat) : Int), .bool (decide (a + k ≤ s.size))]) H0) := by
  have hF : Wd Fence.wide := .inl rfl
  have hM : Try.prog.follows .mixedOrders = true := by kernel_rfl
  have s0 := St.begin H0
  refine acalls_st Try.func23 rfl Try.ntmps23 rfl ?_
  refine awp_seq ?_
  refine awp_regs hF ?_
  refine dv (gyes_none rfl) (q_as (v := .int .u64 0) rfl) rfl (by decide) (cok1 (cconst rfl)) ?_
  refine dv (gyes_none rfl) (q_as (v := .bool false) rfl) rfl (by decide) (cok1 (cconst rfl)) ?_
  refine ⟨_, Wk.refl _ _, ?_⟩
  show awp _ _ _ _ _ _ _
  refine awp_seq ?_
  refine awp_seq ?_
  refine awp_regs hF ?_
  refine dv (gyes_none rfl) (q_mv (v := .int .i64 ((k : Nat) : Int)) rfl) rfl (by decide) (cok1 trivial) ?_
  refine dv (gyes_none rfl) (q_call0 Try.call33 rfl (sized_ok k (by omega) (by omega))) rfl (by decide) (cok2 trivial trivial) ?_
  refine dv (gyes_none rfl) (q_not (b := true) rfl) rfl (by decide) (cok1 trivial) ?_
  refine ⟨_, Wk.refl _ _, ?_⟩
  show awp _ _ _ _ _ _ _
  refine awp_cond_f rfl ?_
  refine awp_skip_wk ?_
  refine ⟨_, Wk.refl _ _, ?_⟩
  show awp _ _ _ _ _ _ _
  refine awp_seq ?_
  refine awp_regs hF ?_
  refine dv (gyes_none rfl) (q_mv (v := .string s) rfl) rfl (by decide) (cok1 trivial) ?_
  refine dv (gyes_none rfl) (q_mv (v := .int .u64 ((a : Nat) : Int)) rfl) rfl (by decide) (cok1 trivial) ?_
  refine dv (gyes_none rfl) (q_mv (v := .int .i64 ((k : Nat) : Int)) rfl) rfl (by decide) (cok1 trivial) ?_
  refine dv (gyes_none rfl) (q_convin (a := ((k : Nat) : Int)) Try.underlying3 Try.underlying42 rfl (u64_in (by omega))) rfl (by decide) (cok1 trivial) ?_
  refine dv (gyes_none rfl) (q_call0 Try.call25 rfl (part_ok s a k (by first | assumption | omega) (by omega) (by omega))) rfl (by decide) (call_ok rfl) ?_
  refine dv (gyes_none rfl) (q_mv (v := .tuple #[.string (partV s a k), .bool (decide (a + k ≤ s.size))]) rfl) rfl (by decide) (cok1 trivial) ?_
  refine dv (gyes_none rfl) (q_extract (v := .string (partV s a k)) rfl rfl) rfl (by decide) (cok1 trivial) ?_
  refine dv (gyes_none rfl) (q_extract (v := .bool (decide (a + k ≤ s.size))) rfl rfl) rfl (by decide) (cok1 trivial) ?_
  refine dv (gyes_none rfl) (q_as (v := .string (partV s a k)) rfl) rfl (by decide) (cok1 trivial) ?_
  refine dv (gyes_none rfl) (q_as (v := .bool (decide (a + k ≤ s.size))) rfl) rfl (by decide) (cok1 trivial) ?_
  refine ⟨_, Wk.refl _ _, ?_⟩
  show awp _ _ _ _ _ _ _
  refine awp_seq ?_
  refine awp_regs hF ?_
  refine dv (gyes_none rfl) (q_mv (v := .string (partV s a k)) rfl) rfl (by decide) (cok1 trivial) ?_
  refine dv (gyes_none rfl) (q_call0 Try.call34 rfl (get_ok (partV s a k) (Nat.le_trans partV_size h8))) rfl (by decide) (cok2 trivial trivial) ?_
  refine dv (gyes_none rfl) (q_mv (v := .bool (decide (a + k ≤ s.size))) rfl) rfl (by decide) (cok1 trivial) ?_
  refine dv (gyes_none rfl) (q_as (v := .int .u64 ((getB (partV s a k) : Nat) : Int)) rfl) rfl (by decide) (cok1 trivial) ?_
  refine dv (gyes_none rfl) (q_as (v := .bool (decide (a + k ≤ s.size))) rfl) rfl (by decide) (cok1 trivial) ?_
  refine ⟨_, Wk.refl _ _, ?_⟩
  show awp _ _ _ _ _ _ _
  refine awp_ret_wk ?_
  refine ⟨_, Wk.refl _ _, ?_⟩
  repeat (with_reducible first | refine then_ret ?_ | refine blk_ret ?_ | refine then_exit ?_ | refine blk_exit ?_ | refine blk_exit' (by decide) ?_ | refine blk_normal ?_ | refine then_normal ?_ | refine retq_ret ?_ | refine retq_normal ?_ | refine ng_normal ?_ | refine ng_ret ?_ | refine ng_exit ?_)
  exact ret_none (v := .tuple #[.int .u64 ((getB (partV s a k) : Nat) : Int), .bool (decide (a + k ≤ s.size))]) rfl s0.kp (.tmp rfl (.tmp rfl .nil)) rfl rfl ⟨by rw [getB_part], rfl⟩
theorem putL_snoc (i : Nat) : ∀ n, putL n (i + 1) = putL n i ++ [UInt8.ofNat (n / 256 ^ i)] := by
  induction i with
  | zero => intro n; simp [putL]
  | succ i ih => intro n; rw [putL, ih, putL]; simp only [List.cons_append]; rw [Nat.div_div_eq_div_mul, ← Nat.pow_succ']
theorem putL_set {n i k : Nat} (h : i < k) : (putL n i ++ List.replicate (k - i) (0 : UInt8)).set i (UInt8.ofNat (n / 2 ^ (8 * i))) = putL n (i + 1) ++ List.replicate (k - (i + 1)) 0 := by
  rw [show k - i = (k - (i + 1)) + 1 by omega, List.replicate_succ, putL_snoc, List.set_append_right _ _ (by rw [putL_length]; exact Nat.le_refl _), putL_length, Nat.sub_self, List.set_cons_zero, Nat.pow_mul, List.append_assoc]
  rfl
set_option maxRecDepth 100000 in
set_option maxHeartbeats 4000000 in
theorem put_ok {H0 : AHeap} (n k : Nat) (hn : n < 18446744073709551616) (h1 : 1 ≤ k) (h8 : k ≤ 8) : ACalls Try.prog 30 [.int .u64 ((n : Nat) : Int), .int .i64 ((k : Nat) : Int)] H0 (Rets (.string (putB n k)) H0) := by
  have hF : Wd Fence.wide := .inl rfl
  have hM : Try.prog.follows .mixedOrders = true := by kernel_rfl
  have s0 := St.begin H0
  refine acalls_st Try.func30 rfl Try.ntmps30 rfl ?_
  refine awp_seq ?_
  refine awp_regs hF ?_
  refine dv (gyes_none rfl) (q_as (v := .string (⟨#[]⟩ : ByteArray)) rfl) rfl (by decide) (cok1 (cconst rfl)) ?_
  refine ⟨_, Wk.refl _ _, ?_⟩
  show awp _ _ _ _ _ _ _
  refine awp_seq ?_
  refine awp_seq ?_
  refine awp_regs hF ?_
  refine dv (gyes_none rfl) (q_mv (v := .int .i64 ((k : Nat) : Int)) rfl) rfl (by decide) (cok1 trivial) ?_
  refine dv (gyes_none rfl) (q_call0 Try.call33 rfl (sized_ok k (by omega) (by omega))) rfl (by decide) (cok2 trivial trivial) ?_
  refine dv (gyes_none rfl) (q_not (b := true) rfl) rfl (by decide) (cok1 trivial) ?_
  refine ⟨_, Wk.refl _ _, ?_⟩
  show awp _ _ _ _ _ _ _
  refine awp_cond_f rfl ?_
  refine awp_skip_wk ?_
  refine ⟨_, Wk.refl _ _, ?_⟩
  show awp _ _ _ _ _ _ _
  refine awp_seq ?_
  refine awp_regs hF ?_
  refine dv (gyes_none rfl) (q_mv (v := .int .i64 ((k : Nat) : Int)) rfl) rfl (by decide) (cok1 trivial) ?_
  refine x_new (fun b => .slice (some ⟨b, 0, none⟩) k k) s0 (gyes_none rfl) (q_makeSlice1 (len := k) (m := k) rfl Try.underlying64 Try.typeInfo5 rfl Try.zeroValue5 rfl rfl rfl rfl (by omega) (by omega) (by show 1 * _ ≤ _; omega) (vs := (List.replicate k (0 : UInt8)).map bytv) (by simp [bytv])) rfl (by decide) (cok2 trivial trivial) (fun b1 H2 hb4 s3 => ?_)
  refine dv (gyes_none rfl) (q_as (v := .slice (some ⟨b1, 0, none⟩) k k) rfl) rfl (by decide) (cok1 trivial) ?_
  refine ⟨_, Wk.refl _ _, ?_⟩
  show awp _ _ _ _ _ _ _
  refine awp_seq ?_
  refine awp_seq ?_
  refine awp_regs hF ?_
  refine dv (gyes_none rfl) (q_mv (v := .slice (some ⟨b1, 0, none⟩) k k) rfl) rfl (by decide) (cok1 trivial) ?_
  refine dv (gyes_none rfl) (q_len_slice Try.underlying64 rfl (s3.rd (j := 0) rfl)) rfl (by decide) (cok1 trivial) ?_
  refine dv (gyes_none rfl) (q_mv (v := .int .i64 0) rfl) rfl (by decide) (cok1 (cconst rfl)) ?_
  refine ⟨_, Wk.refl _ _, ?_⟩
  show awp _ _ _ _ _ _ _
  refine awp_block ?_
  refine awp_wk (Wk.U [(0, .int .u64 ((n : Nat) : Int)), (1, .int .i64 ((k : Nat) : Int)), (5, .slice (some ⟨b1, 0, none⟩) k k), (13, .int .i64 ((k : Nat) : Int)), (14, .int .i64 0)] ⟨rfl, rfl, rfl, rfl, rfl, trivial⟩) ?_
  refine awp_loop (fun ((i, l) : Nat × (List UInt8)) st => ∃ (H5 : AHeap) (b : Nat), st = ⟨28, U [(0, .int .u64 ((n : Nat) : Int)), (1, .int .i64 ((k : Nat) : Int)), (5, .slice (some ⟨b, 0, none⟩) k k), (13, .int .i64 ((k : Nat) : Int)), (14, .int .i64 ((i : Nat) : Int))], [], H5⟩ ∧ St H0 (none0) (Rd H0) H5 [(b, .cells true (l.map bytv) 1)] ∧ (i ≤ k ∧ l = putL n i ++ List.replicate (k - i) (0 : UInt8))) (fun ((i, l) : Nat × (List UInt8)) => k - i) (x0 := (0, (List.replicate k (0 : UInt8)))) ?h0 ?round
  case h0 =>
    exact ⟨_, _, rfl, s3, ⟨Nat.zero_le _, rfl⟩⟩
  case round =>
    rintro ⟨i, l⟩ _ ⟨H5, b, rfl, s6, hl⟩
    dsimp only at *
    have hll : l.length = k := by rw [hl.2, List.length_append, putL_length, List.length_replicate]; omega
    refine awp_seq ?_
    refine awp_regs hF ?_
    refine dvb (gyes_none rfl) (q_int rfl rfl rfl) rfl (by decide) (cok2 trivial trivial) (fun c1 => ?_) (fun c1 => ?_)
    ·
      replace c1 := of_decide_eq_true c1
      refine ⟨_, Wk.refl _ _, ?_⟩
      show awp _ _ _ _ _ _ _
      refine awp_seq ?_
      refine awp_cond_t rfl ?_
      refine awp_skip_wk ?_
      refine ⟨_, Wk.refl _ _, ?_⟩
      show awp _ _ _ _ _ _ _
      refine awp_seq ?_
      refine awp_block ?_
      refine awp_seq ?_
      refine awp_regs hF ?_
      refine dv (gyes_none rfl) (q_mv (v := .int .i64 ((i : Nat) : Int)) rfl) rfl (by decide) (cok1 trivial) ?_
      refine dv (gyes_none rfl) (q_as (v := .int .i64 ((i : Nat) : Int)) rfl) rfl (by decide) (cok1 trivial) ?_
      refine ⟨_, Wk.refl _ _, ?_⟩
      show awp _ _ _ _ _ _ _
      refine awp_regs hF ?_
      refine dv (gyes_none rfl) (q_mv (v := .slice (some ⟨b, 0, none⟩) k k) rfl) rfl (by decide) (cok1 trivial) ?_
      refine dv (gyes_none rfl) (q_mv (v := .int .i64 ((i : Nat) : Int)) rfl) rfl (by decide) (cok1 trivial) ?_
      refine dv (gyes_none rfl) (q_mv (v := .int .u64 ((n : Nat) : Int)) rfl) rfl (by decide) (cok1 trivial) ?_
      refine dv (gyes_none rfl) (q_mv (v := .int .i64 ((i : Nat) : Int)) rfl) rfl (by decide) (cok1 trivial) ?_
      refine dv (gyes_none rfl) (OpQ.cast (v' := .int .i64 ((8 * i : Nat) : Int)) (q_int rfl rfl rfl) (congrArg _ ((i64_in (by omega)).trans (by first | rfl | omega | (push_cast; rfl))))) rfl (by decide) (cok2 (cconst rfl) trivial) ?_
      refine dv (gyes_none rfl) (q_shrN (a := n) (c := (8 * i)) rfl rfl (by show n < 2 ^ 64; omega)) rfl (by decide) (cok2 trivial trivial) ?_
      refine dv (gyes_none rfl) (OpQ.cast (v' := .int .u8 (((n / 2 ^ (8 * i)) % 256 : Nat) : Int)) (q_conv Try.underlying42 Try.underlying5 rfl) (congrArg _ (wrapU8 (n / 2 ^ (8 * i))))) rfl (by decide) (cok1 trivial) ?_
      refine dv (gyes_none rfl) (OpQ.cast (v' := .pointer (some ⟨b, i, none⟩)) (q_index1 (i := i) Try.underlying64 Try.sizeOf5 rfl rfl (by omega) (s6.rd (j := 0) rfl)) (by rw [Nat.zero_add])) rfl (by decide) (cok2 trivial trivial) ?_
      refine x_store1 [] hF s6 (by kernel_rfl) (gyes_none rfl) (j := 0) (v := bytv (UInt8.ofNat (n / 2 ^ (8 * i)))) rfl Try.sizeOf5 rfl rfl rfl (lc_scalar rfl) (by rw [List.length_map]; omega) trivial trivial rfl rfl (F' := [(b, .cells true ((l.set i (UInt8.ofNat (n / 2 ^ (8 * i)))).map bytv) 1)]) (by simp only [set_map1]; rfl) (fun H7 s8 => ⟨?_, ?_⟩)
      · exact trivial
      refine ⟨_, Wk.refl _ _, ?_⟩
      show awp _ _ _ _ _ _ _
      refine awp_regs hF ?_
      refine dv (gyes_none rfl) (OpQ.cast (v' := .int .i64 ((i + 1 : Nat) : Int)) (q_int rfl rfl rfl) (congrArg _ ((i64_in (by omega)).trans (by first | rfl | omega | (push_cast; rfl))))) rfl (by decide) (cok2 trivial (cconst rfl)) ?_
      refine dv (gyes_none rfl) (q_mv (v := .int .i64 ((i + 1 : Nat) : Int)) rfl) rfl (by decide) (cok1 trivial) ?_
      refine ⟨_, Wk.U [(0, .int .u64 ((n : Nat) : Int)), (1, .int .i64 ((k : Nat) : Int)), (5, .slice (some ⟨b, 0, none⟩) k k), (13, .int .i64 ((k : Nat) : Int)), (14, .int .i64 (((i + 1) : Nat) : Int))] ⟨rfl, rfl, rfl, rfl, rfl, trivial⟩, ((i + 1), (l.set i (UInt8.ofNat (n / 2 ^ (8 * i))))), ⟨_, _, rfl, s8, ⟨by omega, by rw [hl.2]; exact putL_set (by omega)⟩⟩, (by omega)⟩
    ·
      replace c1 := of_decide_eq_false c1
      refine ⟨_, Wk.refl _ _, ?_⟩
      show awp _ _ _ _ _ _ _
      refine awp_seq ?_
      refine awp_cond_f rfl ?_
      refine awp_exit_wk ?_
      refine ⟨_, Wk.refl _ _, ?_⟩
      show awp _ _ _ _ _ _ _
      refine awp_seq ?_
      refine awp_regs hF ?_
      refine dv (gyes_none rfl) (q_mv (v := .slice (some ⟨b, 0, none⟩) k k) rfl) rfl (by decide) (cok1 trivial) ?_
      refine dv (gyes_none rfl) (q_bytesl (l := l) Try.underlying64 Try.underlying9 Try.underlying5 rfl (s6.rd (j := 0) rfl) hll) rfl (by decide) (cok1 trivial) ?_
      refine dv (gyes_none rfl) (q_as (v := .string (bytesOf l)) rfl) rfl (by decide) (cok1 trivial) ?_
      refine ⟨_, Wk.refl _ _, ?_⟩
      show awp _ _ _ _ _ _ _
      refine awp_ret_wk ?_
      refine ⟨_, Wk.refl _ _, ?_⟩
      repeat (with_reducible first | refine then_ret ?_ | refine blk_ret ?_ | refine then_exit ?_ | refine blk_exit ?_ | refine blk_exit' (by decide) ?_ | refine blk_normal ?_ | refine then_normal ?_ | refine retq_ret ?_ | refine retq_normal ?_ | refine ng_normal ?_ | refine ng_ret ?_ | refine ng_exit ?_)
      exact ret_none (v := .string (bytesOf l)) rfl s6.kp (.tmp rfl .nil) rfl rfl ⟨by rw [hl.2, show i = k by omega, Nat.sub_self]; simp [putB, bytesOf], rfl⟩
set_option maxRecDepth 100000 in
set_option maxHeartbeats 4000000 in
theorem each_ok {H0 : AHeap} (s : ByteArray) (k : Nat) : ACalls Try.prog 35 [.string s, .int .i64 ((k : Nat) : Int)] H0 (fun v H' => ∃ b0 b1, v = .func (.func 37) #[] #[.pointer (some ⟨b0, 0, none⟩), .pointer (some ⟨b1, 0, none⟩)] ∧ NewL H0 H' [(b0, .cells true [.int .i64 ((k : Nat) : Int)] 1), (b1, .cells true [.string s] 1)]) := by
  have hF : Wd Fence.wide := .inl rfl
  have hM : Try.prog.follows .mixedOrders = true := by kernel_rfl
  have s0 := St.begin H0
  refine acalls_st Try.func35 rfl Try.ntmps35 rfl ?_
  refine awp_seq ?_
  refine awp_regs hF ?_
  refine x_new (fun b => .pointer (some ⟨b, 0, none⟩)) s0 (gyes_none rfl) (q_box (v := .string s) (vs := [.string s]) 1 rfl (by exact trivial) rfl) rfl (by decide) (cok1 trivial) (fun b1 H2 hb4 s3 => ?_)
  refine x_new (fun b => .pointer (some ⟨b, 0, none⟩)) s3 (gyes_none rfl) (q_box (v := .int .i64 ((k : Nat) : Int)) (vs := [.int .i64 ((k : Nat) : Int)]) 1 rfl (by exact trivial) rfl) rfl (by decide) (cok1 trivial) (fun b5 H6 hb8 s7 => ?_)
  refine dv (gyes_none rfl) (q_as (v := .nilFunc) rfl) rfl (by decide) (cok1 (cconst rfl)) ?_
  refine ⟨_, Wk.refl _ _, ?_⟩
  show awp _ _ _ _ _ _ _
  refine awp_seq ?_
  refine awp_regs hF ?_
  refine dv (gyes_none rfl) (q_makeFuncL [.pointer (some ⟨b5, 0, none⟩), .pointer (some ⟨b1, 0, none⟩)] ⟨rfl, rfl, trivial⟩) rfl (by decide) (cok2 trivial trivial) ?_
  refine dv (gyes_none rfl) (q_as (v := .func (.func 37) #[] #[.pointer (some ⟨b5, 0, none⟩), .pointer (some ⟨b1, 0, none⟩)]) rfl) rfl (by decide) (cok1 trivial) ?_
  refine ⟨_, Wk.refl _ _, ?_⟩
  show awp _ _ _ _ _ _ _
  refine awp_ret_wk ?_
  refine ⟨_, Wk.refl _ _, ?_⟩
  repeat (with_reducible first | refine then_ret ?_ | refine blk_ret ?_ | refine then_exit ?_ | refine blk_exit ?_ | refine blk_exit' (by decide) ?_ | refine blk_normal ?_ | refine then_normal ?_ | refine retq_ret ?_ | refine retq_normal ?_ | refine ng_normal ?_ | refine ng_ret ?_ | refine ng_exit ?_)
  refine ret_is (v := .func (.func 37) #[] #[.pointer (some ⟨b5, 0, none⟩), .pointer (some ⟨b1, 0, none⟩)]) rfl (.tmp rfl .nil) rfl ?_
  exact ⟨_, _, rfl, s7.newL⟩
theorem mul_le1 (i k n : Nat) (h : i < n) : i * k ≤ (i + 1) * k ∧ (i + 1) * k ≤ n * k := ⟨Nat.mul_le_mul_right _ (Nat.le_succ _), Nat.mul_le_mul_right _ h⟩
set_option maxRecDepth 100000 in
set_option maxHeartbeats 4000000 in
theorem each1_ok {H0 : AHeap} (s : ByteArray) (k : Nat) (hk : 1 ≤ k) (hk2 : k ≤ 140737488355328) (hs : s.size ≤ 140737488355328) (y : Value) (bk bs : Nat) (hnd : [bk, bs].Nodup) (Iv E : Nat → AHeap → Prop) (h0 : Iv 0 H0)
    (hb : ∀ i H, Iv i H → H[bk]? = some (.cells true [.int .i64 ((k : Nat) : Int)] 1) ∧ H[bs]? = some (.cells true [.string s] 1))
    (hy : ∀ i H, Iv i H → i < s.size / k → Ylds Try.prog y [.int .i64 ((i : Nat) : Int), .string (s.extract (i * k) ((i + 1) * k))] H (fun b H' => (b = true → Iv (i + 1) H') ∧ (b = false → E (i + 1) H'))) : ACalls Try.prog 37 [y, .pointer (some ⟨bk, 0, none⟩), .pointer (some ⟨bs, 0, none⟩)] H0 (fun v H' => v = .tuple #[] ∧ (Iv (s.size / k) H' ∨ ∃ i, i < s.size / k ∧ E (i + 1) H')) := by
  have hF : Wd Fence.wide := .inl rfl
  have hM : Try.prog.follows .mixedOrders = true := by kernel_rfl
  have s0 : St H0 (· ∈ [bk, bs]) (Off H0 [bk, bs]) H0 [(bk, .cells true [.int .i64 ((k : Nat) : Int)] 1), (bs, .cells true [.string s] 1)] := St.beginL [(bk, .cells true [.int .i64 ((k : Nat) : Int)] 1), (bs, .cells true [.string s] 1)] hnd (allAt_mem ⟨(hb _ _ h0).1, (hb _ _ h0).2, trivial⟩)
  refine acalls_st Try.func37 rfl Try.ntmps37 rfl ?_
  refine awp_seq ?_
  refine awp_seq ?_
  refine awp_regs hF ?_
  refine dv (gyes_none rfl) (q_load (v := .int .i64 ((k : Nat) : Int)) Try.isAgg3 rfl (s0.rd (j := 0) rfl) rfl) rfl (by decide) (cok1 trivial) ?_
  refine dvb (gyes_none rfl) (q_int rfl rfl rfl) rfl (by decide) (cok2 trivial (cconst rfl)) (fun c1 => ?_) (fun c1 => ?_)
  ·
    replace c1 := of_decide_eq_true c1
    exfalso; omega
  ·
    replace c1 := of_decide_eq_false c1
    refine ⟨_, Wk.refl _ _, ?_⟩
    show awp _ _ _ _ _ _ _
    refine awp_cond_f rfl ?_
    refine awp_skip_wk ?_
    refine ⟨_, Wk.refl _ _, ?_⟩
    show awp _ _ _ _ _ _ _
    refine awp_seq ?_
    refine awp_regs hF ?_
    refine dv (gyes_none rfl) (q_as (v := .int .i64 0) rfl) rfl (by decide) (cok1 (cconst rfl)) ?_
    refine ⟨_, Wk.refl _ _, ?_⟩
    show awp _ _ _ _ _ _ _
    refine awp_block ?_
    refine awp_wk (Wk.U [(0, y), (1, .pointer (some ⟨bk, 0, none⟩)), (2, .pointer (some ⟨bs, 0, none⟩)), (4, .int .i64 0)] ⟨rfl, rfl, rfl, rfl, trivial⟩) ?_
    refine awp_loop (fun (i : Nat) st => ∃ (H1 : AHeap), st = ⟨28, U [(0, y), (1, .pointer (some ⟨bk, 0, none⟩)), (2, .pointer (some ⟨bs, 0, none⟩)), (4, .int .i64 ((i : Nat) : Int))], [], H1⟩ ∧ St H1 ((· ∈ [bk, bs])) (Off H1 [bk, bs]) H1 [(bk, .cells true [.int .i64 ((k : Nat) : Int)] 1), (bs, .cells true [.string s] 1)] ∧ (i ≤ s.size / k ∧ Iv i H1)) (fun (i : Nat) => s.size / k - i) (x0 := (0)) ?h0 ?round
    case h0 =>
      exact ⟨_, rfl, s0, ⟨Nat.zero_le _, h0⟩⟩
    case round =>
      rintro i _ ⟨H1, rfl, s2, hI⟩
      have hdd := Nat.div_le_self s.size k
      have hkk := Nat.div_mul_le_self s.size k
      have hmm := mul_le1 i k (s.size / k)
      refine awp_seq ?_
      refine awp_seq ?_
      refine awp_regs hF ?_
      refine dv (gyes_none rfl) (q_mv (v := .int .i64 ((i : Nat) : Int)) rfl) rfl (by decide) (cok1 trivial) ?_
      refine dv (gyes_none rfl) (q_load (v := .string s) Try.isAgg9 rfl (s2.rd (j := 1) rfl) rfl) rfl (by decide) (cok1 trivial) ?_
      refine dv (gyes_none rfl) (q_len_str Try.underlying9 rfl) rfl (by decide) (cok1 trivial) ?_
      refine dv (gyes_none rfl) (q_load (v := .int .i64 ((k : Nat) : Int)) Try.isAgg3 rfl (s2.rd (j := 0) rfl) rfl) rfl (by decide) (cok1 trivial) ?_
      refine dv (gyes_none rfl) (q_quoM (a := s.size) (b := k) rfl rfl (by first | decide | omega) (i64_in (by have := div_le_of (a := s.size) (b := k) (M := 9223372036854775807) (by omega); omega))) rfl (by decide) (cok2 trivial trivial) ?_
      refine dvb (gyes_none rfl) (q_int rfl rfl rfl) rfl (by decide) (cok2 trivial trivial) (fun c2 => ?_) (fun c2 => ?_)
      ·
        replace c2 := of_decide_eq_true c2
        have hm2 := hmm (by omega)
        refine ⟨_, Wk.refl _ _, ?_⟩
        show awp _ _ _ _ _ _ _
        refine awp_cond_t rfl ?_
        refine awp_skip_wk ?_
        refine ⟨_, Wk.refl _ _, ?_⟩
        show awp _ _ _ _ _ _ _
        refine awp_seq ?_
        refine awp_block ?_
        refine awp_seq ?_
        refine awp_regs hF ?_
        refine dv (gyes_none rfl) (q_mv (v := y) rfl) rfl (by decide) (cok1 trivial) ?_
        refine dv (gyes_none rfl) (q_mv (v := .int .i64 ((i : Nat) : Int)) rfl) rfl (by decide) (cok1 trivial) ?_
        refine dv (gyes_none rfl) (q_load (v := .string s) Try.isAgg9 rfl (s2.rd (j := 1) rfl) rfl) rfl (by decide) (cok1 trivial) ?_
        refine dv (gyes_none rfl) (q_mv (v := .int .i64 ((i : Nat) : Int)) rfl) rfl (by decide) (cok1 trivial) ?_
        refine dv (gyes_none rfl) (q_load (v := .int .i64 ((k : Nat) : Int)) Try.isAgg3 rfl (s2.rd (j := 0) rfl) rfl) rfl (by decide) (cok1 trivial) ?_
        refine dv (gyes_none rfl) (OpQ.cast (v' := .int .i64 ((i * k : Nat) : Int)) (q_int rfl rfl rfl) (congrArg _ ((i64_in (by omega)).trans (by first | rfl | omega | (push_cast; rfl))))) rfl (by decide) (cok2 trivial trivial) ?_
        refine dv (gyes_none rfl) (q_mv (v := .int .i64 ((i : Nat) : Int)) rfl) rfl (by decide) (cok1 trivial) ?_
        refine dv (gyes_none rfl) (OpQ.cast (v' := .int .i64 ((i + 1 : Nat) : Int)) (q_int rfl rfl rfl) (congrArg _ ((i64_in (by omega)).trans (by first | rfl | omega | (push_cast; rfl))))) rfl (by decide) (cok2 trivial (cconst rfl)) ?_
        refine dv (gyes_none rfl) (q_load (v := .int .i64 ((k : Nat) : Int)) Try.isAgg3 rfl (s2.rd (j := 0) rfl) rfl) rfl (by decide) (cok1 trivial) ?_
        refine dv (gyes_none rfl) (OpQ.cast (v' := .int .i64 (((i + 1) * k : Nat) : Int)) (q_int rfl rfl rfl) (congrArg _ ((i64_in (by omega)).trans (by first | rfl | omega | (push_cast; rfl))))) rfl (by decide) (cok2 trivial trivial) ?_
        refine dv (gyes_none rfl) (q_substr (i := (i * k)) (j := ((i + 1) * k)) Try.underlying9 rfl ⟨_, rfl⟩ ⟨_, rfl⟩ (by omega) (by omega)) rfl (by decide) (call_ok rfl) ?_
        refine x_yield [] (by kernel_rfl) (gyes_none rfl) (y := y) (args := [.int .i64 ((i : Nat) : Int), .string (s.extract (i * k) ((i + 1) * k))]) rfl rfl (hy i _ hI.2 (by omega)) (show _ < _ by decide) (cok2 trivial trivial) rfl rfl (fun y3 H4 hy5 => ⟨trivial, ?_⟩)
        show dList _ _ _ _ _ _ _ _ _ _
        cases y3
        case false =>
          refine dv (gyes_none rfl) (q_not (b := false) rfl) rfl (by decide) (cok1 trivial) ?_
          refine ⟨_, Wk.refl _ _, ?_⟩
          show awp _ _ _ _ _ _ _
          refine awp_cond_t rfl ?_
          refine awp_ret_wk ?_
          refine ⟨_, Wk.refl _ _, ?_⟩
          repeat (with_reducible first | refine then_ret ?_ | refine blk_ret ?_ | refine then_exit ?_ | refine blk_exit ?_ | refine blk_exit' (by decide) ?_ | refine blk_normal ?_ | refine then_normal ?_ | refine retq_ret ?_ | refine retq_normal ?_ | refine ng_normal ?_ | refine ng_ret ?_ | refine ng_exit ?_)
          refine ret_is (v := .tuple #[]) rfl .nil rfl ?_
          exact ⟨rfl, .inr ⟨i, by omega, hy5.2 rfl⟩⟩
        case true =>
          have h6 := hy5.1 rfl
          have s7 : St H4 (· ∈ [bk, bs]) (Off H4 [bk, bs]) H4 [(bk, .cells true [.int .i64 ((k : Nat) : Int)] 1), (bs, .cells true [.string s] 1)] := St.beginL [(bk, .cells true [.int .i64 ((k : Nat) : Int)] 1), (bs, .cells true [.string s] 1)] hnd (allAt_mem ⟨(hb _ _ h6).1, (hb _ _ h6).2, trivial⟩)
          refine dv (gyes_none rfl) (q_not (b := true) rfl) rfl (by decide) (cok1 trivial) ?_
          refine ⟨_, Wk.refl _ _, ?_⟩
          show awp _ _ _ _ _ _ _
          refine awp_cond_f rfl ?_
          refine awp_skip_wk ?_
          refine ⟨_, Wk.refl _ _, ?_⟩
          show awp _ _ _ _ _ _ _
          refine awp_regs hF ?_
          refine dv (gyes_none rfl) (q_mv (v := .int .i64 ((i : Nat) : Int)) rfl) rfl (by decide) (cok1 trivial) ?_
          refine dv (gyes_none rfl) (OpQ.cast (v' := .int .i64 ((i + 1 : Nat) : Int)) (q_int rfl rfl rfl) (congrArg _ ((i64_in (by omega)).trans (by first | rfl | omega | (push_cast; rfl))))) rfl (by decide) (cok2 trivial (cconst rfl)) ?_
          refine dv (gyes_none rfl) (q_as (v := .int .i64 ((i + 1 : Nat) : Int)) rfl) rfl (by decide) (cok1 trivial) ?_
          refine ⟨_, Wk.U [(0, y), (1, .pointer (some ⟨bk, 0, none⟩)), (2, .pointer (some ⟨bs, 0, none⟩)), (4, .int .i64 (((i + 1) : Nat) : Int))] ⟨rfl, rfl, rfl, rfl, trivial⟩, (i + 1), ⟨_, rfl, s7, ⟨by omega, h6⟩⟩, (by omega)⟩
      ·
        replace c2 := of_decide_eq_false c2
        refine ⟨_, Wk.refl _ _, ?_⟩
        show awp _ _ _ _ _ _ _
        refine awp_cond_f rfl ?_
        refine awp_exit_wk ?_
        refine ⟨_, Wk.refl _ _, ?_⟩
        repeat (with_reducible first | refine then_ret ?_ | refine blk_ret ?_ | refine then_exit ?_ | refine blk_exit ?_ | refine blk_exit' (by decide) ?_ | refine blk_normal ?_ | refine then_normal ?_ | refine retq_ret ?_ | refine retq_normal ?_ | refine ng_normal ?_ | refine ng_ret ?_ | refine ng_exit ?_)
        refine ret_is (v := .tuple #[]) rfl .nil rfl ?_
        obtain rfl : i = s.size / k := by omega
        exact ⟨rfl, .inl hI.2⟩
set_option maxRecDepth 100000 in
set_option maxHeartbeats 4000000 in
theorem rget_ok {H0 : AHeap} (s : ByteArray) (hs : s.size ≤ 8) : ACalls Try.prog 28 [.string s] H0 (Rets (.int .u64 ((getB s : Nat) : Int)) H0) := by
  have hF : Wd Fence.wide := .inl rfl
  have hM : Try.prog.follows .mixedOrders = true := by kernel_rfl
  have s0 := St.begin H0
  refine acalls_st Try.func28 rfl Try.ntmps28 rfl ?_
  refine awp_seq ?_
  refine awp_regs hF ?_
  refine dv (gyes_none rfl) (q_as (v := .int .u64 0) rfl) rfl (by decide) (cok1 (cconst rfl)) ?_
  refine ⟨_, Wk.refl _ _, ?_⟩
  show awp _ _ _ _ _ _ _
  refine awp_seq ?_
  refine awp_regs hF ?_
  refine dv (gyes_none rfl) (q_as (v := .int .u64 0) rfl) rfl (by decide) (cok1 (cconst rfl)) ?_
  refine ⟨_, Wk.refl _ _, ?_⟩
  show awp _ _ _ _ _ _ _
  refine awp_seq ?_
  refine awp_seq ?_
  refine awp_regs hF ?_
  refine dv (gyes_none rfl) (q_mv (v := .string s) rfl) rfl (by decide) (cok1 trivial) ?_
  refine dv (gyes_none rfl) (q_len_str Try.underlying9 rfl) rfl (by decide) (cok1 trivial) ?_
  refine dv (gyes_none rfl) (q_as (v := .int .i64 ((s.size : Nat) : Int)) rfl) rfl (by decide) (cok1 trivial) ?_
  refine ⟨_, Wk.refl _ _, ?_⟩
  show awp _ _ _ _ _ _ _
  refine awp_block ?_
  refine awp_wk (Wk.U [(0, .string s), (3, .int .u64 0), (4, .int .i64 ((s.size : Nat) : Int))] ⟨rfl, rfl, rfl, trivial⟩) ?_
  refine awp_loop (fun ((i, n) : Nat × Nat) st => ∃ (H1 : AHeap), st = ⟨25, U [(0, .string s), (3, .int .u64 ((n : Nat) : Int)), (4, .int .i64 ((i : Nat) : Int))], [], H1⟩ ∧ St H0 (none0) (Rd H0) H1 [] ∧ (i ≤ s.size ∧ n = getN ((bl s).drop i) ∧ n < 256 ^ (s.size - i))) (fun ((i, n) : Nat × Nat) => i) (x0 := (s.size, 0)) ?h0 ?round
  case h0 =>
    exact ⟨_, rfl, s0, ⟨Nat.le_refl _, by rw [List.drop_eq_nil_iff.2 (by rw [bl_length]; omega)]; rfl, Nat.pow_pos (by decide)⟩⟩
  case round =>
    rintro ⟨i, n⟩ _ ⟨H1, rfl, s2, hn⟩
    dsimp only at *
    refine awp_seq ?_
    refine awp_seq ?_
    refine awp_regs hF ?_
    refine dv (gyes_none rfl) (q_mv (v := .int .i64 ((i : Nat) : Int)) rfl) rfl (by decide) (cok1 trivial) ?_
    refine dvb (gyes_none rfl) (q_int rfl rfl rfl) rfl (by decide) (cok2 trivial (cconst rfl)) (fun c1 => ?_) (fun c1 => ?_)
    ·
      replace c1 := of_decide_eq_true c1
      refine dv (gyes_none rfl) (q_mv (v := .bool true) rfl) rfl (by decide) (cok1 trivial) ?_
      refine dv (gyes_some rfl rfl) (q_mv (v := .string s) rfl) rfl (by decide) (cok1 trivial) ?_
      refine dv (gyes_some rfl rfl) (q_len_str Try.underlying9 rfl) rfl (by decide) (cok1 trivial) ?_
      refine dvb (gyes_some rfl rfl) (q_int rfl rfl rfl) rfl (by decide) (cok2 trivial (cconst rfl)) (fun c2 => ?_) (fun c2 => ?_)
      ·
        replace c2 := of_decide_eq_true c2
        have hb := byt_lt s (i - 1)
        have hn7 : n < 72057594037927936 := Nat.lt_of_lt_of_le hn.2.2 (Nat.pow_le_pow_right (by decide) (by omega) : 256 ^ _ ≤ 256 ^ 7)
        refine dv (gyes_none rfl) (q_pt (v := .bool true) rfl rfl) rfl (by decide) (call_ok rfl) ?_
        refine ⟨_, Wk.refl _ _, ?_⟩
        show awp _ _ _ _ _ _ _
        refine awp_cond_t rfl ?_
        refine awp_skip_wk ?_
        refine ⟨_, Wk.refl _ _, ?_⟩
        show awp _ _ _ _ _ _ _
        refine awp_seq ?_
        refine awp_block ?_
        refine awp_regs hF ?_
        refine dv (gyes_none rfl) (q_mv (v := .int .u64 ((n : Nat) : Int)) rfl) rfl (by decide) (cok1 trivial) ?_
        refine dv (gyes_none rfl) (OpQ.cast (v' := .int .u64 ((256 * n : Nat) : Int)) (q_int rfl rfl rfl) (congrArg _ ((u64_in (by omega)).trans (by first | rfl | omega | (push_cast; rfl))))) rfl (by decide) (cok2 (cconst rfl) trivial) ?_
        refine dv (gyes_none rfl) (q_mv (v := .string s) rfl) rfl (by decide) (cok1 trivial) ?_
        refine dv (gyes_none rfl) (q_mv (v := .int .i64 ((i : Nat) : Int)) rfl) rfl (by decide) (cok1 trivial) ?_
        refine dv (gyes_none rfl) (OpQ.cast (v' := .int .i64 ((i - 1 : Nat) : Int)) (q_int rfl rfl rfl) (congrArg _ ((i64_in (by omega)).trans (by omega)))) rfl (by decide) (cok2 trivial (cconst rfl)) ?_
        refine dv (gyes_none rfl) (q_byt (i := (i - 1)) Try.underlying9 rfl rfl (by omega)) rfl (by decide) (cok2 trivial trivial) ?_
        refine dv (gyes_none rfl) (q_convin (a := ((byt s (i - 1) : Nat) : Int)) Try.underlying5 Try.underlying42 rfl (u64_in (by omega))) rfl (by decide) (cok1 trivial) ?_
        refine dv (gyes_none rfl) (OpQ.cast (v' := .int .u64 ((256 * n + (byt s (i - 1)) : Nat) : Int)) (q_int rfl rfl rfl) (congrArg _ ((u64_in (by omega)).trans (by first | rfl | omega | (push_cast; rfl))))) rfl (by decide) (cok2 trivial trivial) ?_
        refine dv (gyes_none rfl) (q_as (v := .int .u64 ((256 * n + (byt s (i - 1)) : Nat) : Int)) rfl) rfl (by decide) (cok1 trivial) ?_
        refine ⟨_, Wk.refl _ _, ?_⟩
        show awp _ _ _ _ _ _ _
        refine awp_regs hF ?_
        refine dv (gyes_none rfl) (q_mv (v := .int .i64 ((i : Nat) : Int)) rfl) rfl (by decide) (cok1 trivial) ?_
        refine dv (gyes_none rfl) (OpQ.cast (v' := .int .i64 ((i - 1 : Nat) : Int)) (q_int rfl rfl rfl) (congrArg _ ((i64_in (by omega)).trans (by omega)))) rfl (by decide) (cok2 trivial (cconst rfl)) ?_
        refine dv (gyes_none rfl) (q_as (v := .int .i64 ((i - 1 : Nat) : Int)) rfl) rfl (by decide) (cok1 trivial) ?_
        have hst : 256 * n + (byt s (i - 1)) = getN ((bl s).drop (i - 1)) ∧ 256 * n + (byt s (i - 1)) < 256 ^ (s.size - (i - 1)) := by
          have e : getN ((bl s).drop (i - 1)) = byt s (i - 1) + 256 * n := by rw [getN_step (by omega), show i - 1 + 1 = i by omega, ← hn.2.1]
          refine ⟨by rw [e]; omega, ?_⟩
          have h1 : 256 ^ (s.size - (i - 1)) = 256 ^ (s.size - i) * 256 := by rw [← Nat.pow_succ]; congr 1; omega
          have := hn.2.2
          omega
        refine ⟨_, Wk.U [(0, .string s), (3, .int .u64 (((256 * n + (byt s (i - 1))) : Nat) : Int)), (4, .int .i64 (((i - 1) : Nat) : Int))] ⟨rfl, rfl, rfl, trivial⟩, ((i - 1), (256 * n + (byt s (i - 1)))), ⟨_, rfl, s2, ⟨by omega, hst.1, hst.2⟩⟩, (by omega)⟩
      ·
        replace c2 := of_decide_eq_false c2
        refine dv (gyes_none rfl) (q_pt (v := .bool false) rfl rfl) rfl (by decide) (call_ok rfl) ?_
        refine ⟨_, Wk.refl _ _, ?_⟩
        show awp _ _ _ _ _ _ _
        refine awp_cond_f rfl ?_
        refine awp_exit_wk ?_
        refine ⟨_, Wk.refl _ _, ?_⟩
        show awp _ _ _ _ _ _ _
        refine awp_seq ?_
        refine awp_regs hF ?_
        refine dv (gyes_none rfl) (q_mv (v := .int .u64 ((n : Nat) : Int)) rfl) rfl (by decide) (cok1 trivial) ?_
        refine dv (gyes_none rfl) (q_as (v := .int .u64 ((n : Nat) : Int)) rfl) rfl (by decide) (cok1 trivial) ?_
        refine ⟨_, Wk.refl _ _, ?_⟩
        show awp _ _ _ _ _ _ _
        refine awp_ret_wk ?_
        refine ⟨_, Wk.refl _ _, ?_⟩
        repeat (with_reducible first | refine then_ret ?_ | refine blk_ret ?_ | refine then_exit ?_ | refine blk_exit ?_ | refine blk_exit' (by decide) ?_ | refine blk_normal ?_ | refine then_normal ?_ | refine retq_ret ?_ | refine retq_normal ?_ | refine ng_normal ?_ | refine ng_ret ?_ | refine ng_exit ?_)
        exact ret_none (v := .int .u64 ((n : Nat) : Int)) rfl s2.kp (.tmp rfl .nil) rfl rfl ⟨by rw [hn.2.1, show i = 0 by omega]; rfl, rfl⟩
    ·
      replace c1 := of_decide_eq_false c1
      refine dv (gyes_none rfl) (q_mv (v := .bool false) rfl) rfl (by decide) (cok1 trivial) ?_
      refine dno rfl (.inl rfl) rfl (by decide) ?_
      refine dno rfl (.inl rfl) rfl (by decide) ?_
      refine dno rfl (.inl rfl) rfl (by decide) ?_
      refine dv (gyes_none rfl) (q_pf (v := .bool false) rfl rfl) rfl (by decide) (call_ok rfl) ?_
      refine ⟨_, Wk.refl _ _, ?_⟩
      show awp _ _ _ _ _ _ _
      refine awp_cond_f rfl ?_
      refine awp_exit_wk ?_
      refine ⟨_, Wk.refl _ _, ?_⟩
      show awp _ _ _ _ _ _ _
      refine awp_seq ?_
      refine awp_regs hF ?_
      refine dv (gyes_none rfl) (q_mv (v := .int .u64 ((n : Nat) : Int)) rfl) rfl (by decide) (cok1 trivial) ?_
      refine dv (gyes_none rfl) (q_as (v := .int .u64 ((n : Nat) : Int)) rfl) rfl (by decide) (cok1 trivial) ?_
      refine ⟨_, Wk.refl _ _, ?_⟩
      show awp _ _ _ _ _ _ _
      refine awp_ret_wk ?_
      refine ⟨_, Wk.refl _ _, ?_⟩
      repeat (with_reducible first | refine then_ret ?_ | refine blk_ret ?_ | refine then_exit ?_ | refine blk_exit ?_ | refine blk_exit' (by decide) ?_ | refine blk_normal ?_ | refine then_normal ?_ | refine retq_ret ?_ | refine retq_normal ?_ | refine ng_normal ?_ | refine ng_ret ?_ | refine ng_exit ?_)
      exact ret_none (v := .int .u64 ((n : Nat) : Int)) rfl s2.kp (.tmp rfl .nil) rfl rfl ⟨by rw [hn.2.1, show i = 0 by omega]; rfl, rfl⟩

end Go.Proofs.YtmoldjiooccppaaA


/-
  Walks of functions of the given program, and what they compute.
-/
namespace Go.Proofs.YtmoldjiooccppaaA
set_option linter.unusedVariables false
open Go Go.RowKit Go.Shelf Go.Proofs
def numN (b : ByteArray) (k : Nat) : List Nat := (List.range k).map fun i => getB (b.extract (i * 4) ((i + 1) * 4))
def numL (b : ByteArray) : List Nat := numN b (b.size / 4)
theorem numN_len (b : ByteArray) (k : Nat) : (numN b k).length = k := by simp [numN]
theorem numN_succ (b : ByteArray) (k : Nat) : numN b k ++ [getB (b.extract (k * 4) ((k + 1) * 4))] = numN b (k + 1) := by simp [numN, List.range_succ]
theorem part4_size {b : ByteArray} {k : Nat} (h : k < b.size / 4) : (b.extract (k * 4) ((k + 1) * 4)).size = 4 := by
  rw [ByteArray.size_extract]; omega
theorem getB_lt4 {b : ByteArray} {k : Nat} (h : k < b.size / 4) : getB (b.extract (k * 4) ((k + 1) * 4)) < 4294967296 := by
  have := getB_lt (k := 4) (Nat.le_of_eq (part4_size h)); exact this
theorem fresh_of2n {α : Type} {f : α → Value} {l : List α} {H0 : AHeap} {Z : Rs} {H : AHeap} {F : List (Nat × AObj)} (h : St H0 none0 Z H F) {j b n : Nat} (hj : F[j]? = some (b, .cells true (l.map f) 1)) (hn : l.length = n) : Fresh f l H0 (.slice (some ⟨b, 0, none⟩) n n) H := by
  subst hn; exact fresh_of h hj rfl
set_option maxRecDepth 100000 in
set_option maxHeartbeats 4000000 in
theorem numbers_ok {H0 : AHeap} (b : ByteArray) (hb : b.size ≤ 1000000) : ACalls Try.prog 26 [.string b] H0 (Fresh u32v (numL b) H0) := by
  have hF : Wd Fence.wide := .inl rfl
  have hM : Try.prog.follows .mixedOrders = true := by kernel_rfl
  have s0 := St.begin H0
  refine acalls_st Try.func26 rfl Try.ntmps26 rfl ?_
  refine awp_seq ?_
  refine awp_regs hF ?_
  refine dv (gyes_none rfl) (q_as (v := .slice none 0 0) rfl) rfl (by decide) (cok1 (cconst rfl)) ?_
  refine ⟨_, Wk.refl _ _, ?_⟩
  show awp _ _ _ _ _ _ _
  refine awp_seq ?_
  refine awp_regs hF ?_
  refine x_new (fun b => .pointer (some ⟨b, 0, none⟩)) s0 (gyes_none rfl) (q_alloc (vs := [.slice none 0 0]) 1 Try.zeroValue24 (by first | exact flat_scalar rfl | exact flat_agg rfl) rfl) rfl (by decide) (by simp [Op.operands]) (fun b1 H2 hb4 s3 => ?_)
  refine ⟨_, Wk.refl _ _, ?_⟩
  show awp _ _ _ _ _ _ _
  refine awp_seq ?_
  refine awp_seq ?_
  refine awp_nilc s3 (j := 0) (o := 0) (sz' := 1) rfl rfl (fun b5 H6 hb8 s7 => ?_)
  refine awp_regs hF ?_
  refine dv (gyes_none rfl) (q_mv (v := .string b) rfl) rfl (by decide) (cok1 trivial) ?_
  refine x_call [] hF (by kernel_rfl) (gyes_none rfl) Try.call35 rfl (args := [.string b, .int .i64 4]) rfl (each_ok b 4) (show _ < _ by decide) (call_ok rfl) rfl rfl (fun _ _ _ _ hd => by cases hd) ?_
  rintro _ H11 ⟨b9, b10, rfl, hn12⟩
  have s13 := s7.callL hn12
  refine ⟨trivial, ?_⟩
  show dList _ _ _ _ _ _ _ _ _ _
  refine ⟨_, Wk.refl _ _, ?_⟩
  show awp _ _ _ _ _ _ _
  refine awp_block ?_
  refine range_st s13 rfl Try.call37 (fun fn14 lp15 d16 l17 H18 hlp19 hd20 s21 => ?_)
  refine (each1_ok (H0 := H18) b 4 (by decide) (by decide) (by omega) _ b9 b10 (nod2 (s21.nej (i := 2) (j := 3) rfl rfl (by decide))) (fun (k : Nat) (H22 : AHeap) => ∃ (bn : Nat), St H0 (none0) (Rd H0) H22 [(l17, lp15 .ready none), (d16, .mark), (b9, .cells true [.int .i64 4] 1), (b10, .cells true [.string b] 1), (bn, .cells true ((numN b k).map u32v) 1), (b1, .cells true [.slice (some ⟨bn, 0, none⟩) k k] 1)]) (fun _ _ => False) ?h00 ?hb ?round).mono ?after
  case h00 => exact ⟨_, s21⟩
  case hb =>
    rintro k H22 ⟨bn, s23⟩
    exact ⟨s23.getj (j := 2) rfl, s23.getj (j := 3) rfl⟩
  case round =>
    rintro k H22  ⟨bn, s23⟩ hx
    have hp2 := part4_size hx
    have hg2 := getB_lt4 hx
    refine ylds_roundB hlp19 (s23.getj (j := 0) rfl) rfl rfl (fun l24 hF => ?_)
    refine awp_regs hF ?_
    refine dv (gyes_none rfl) (q_as (v := .string (b.extract (k * 4) ((k + 1) * 4))) rfl) rfl (by decide) (cok1 trivial) ?_
    refine ⟨_, Wk.refl _ _, ?_⟩
    refine then_normal ?_
    refine ⟨_, _, rfl, s23.getj (j := 0) rfl, ?body⟩
    case body =>
      have s25 := s23.setAt (j := 0) rfl (lp15 .busy none)
      show awp _ _ _ _ _ _ _
      refine awp_block ?_
      refine awp_regt hF hM (by kernel_rfl) (by kernel_rfl) ?_
      refine dv (gyes_none rfl) (q_load (v := .slice (some ⟨bn, 0, none⟩) k k) Try.isAgg24 rfl (s25.rd (j := 5) rfl) rfl) rfl (by decide) (cok1 trivial) ?_
      refine dv (gyes_none rfl) (q_mv (v := .string (b.extract (k * 4) ((k + 1) * 4))) rfl) rfl (by decide) (cok1 trivial) ?_
      refine dv (gyes_none rfl) (q_call0 Try.call34 rfl (get_ok (b.extract (k * 4) ((k + 1) * 4)) (by omega))) rfl (by decide) (cok2 trivial trivial) ?_
      refine dv (gyes_none rfl) (q_convin (a := ((getB (b.extract (k * 4) ((k + 1) * 4)) : Nat) : Int)) Try.underlying42 Try.underlying31 rfl (u32_in (by omega))) rfl (by decide) (cok1 trivial) ?_
      refine x_new (fun b => .slice (some ⟨b, 0, none⟩) 1 1) s25 (gyes_none rfl) (q_buildSliceL (ds := [.int .u32 ((getB (b.extract (k * 4) ((k + 1) * 4)) : Nat) : Int)]) [.int .u32 ((getB (b.extract (k * 4) ((k + 1) * 4)) : Nat) : Int)] rfl Try.underlying24 Try.sizeOf31 Try.zeroValue31 rfl (by decide) (by decide) ⟨rfl, trivial⟩ (lvsC (by exact trivial) lvs0) rfl rfl) rfl (by decide) (cok1 trivial) (fun b26 H27 hb29 s28 => ?_)
      refine x_append (l := [(getB (b.extract (k * 4) ((k + 1) * 4)))]) (f := u32v) [] hF s28 (by kernel_rfl) (j := 5) (k + 1) rfl (gyes_none rfl) Try.underlying24 Try.underlying24 Try.type31 rfl rfl (by decide) rfl rfl rfl rfl (s28.slj (l := [(getB (b.extract (k * 4) ((k + 1) * 4)))]) (f := u32v) (j := 0) rfl rfl (Nat.le_refl _)) (fun x => lc_scalar rfl) (by rw [List.length_map, numN_len, Nat.zero_add]) (by show (2 * (k + 1) + 1000) * 4 ≤ _; omega) trivial trivial (by decide) rfl rfl (vs' := (numN b (k + 1)).map u32v) (by rw [← numN_succ, List.map_append]; rfl) (fun b30 H31 hb33 s32 => ⟨?_, ?_⟩)
      · exact trivial
      refine x_store1 [] hF s32 (by kernel_rfl) (gyes_none rfl) (j := 6) (v := .slice (some ⟨b30, 0, none⟩) (k + 1) (k + 1)) rfl Try.sizeOf24 rfl rfl rfl (lc_slice (s32.live (j := 5) rfl)) (Nat.le_of_ble_eq_true rfl) trivial trivial rfl rfl (F' := [(b26, .cells true [.int .u32 ((getB (b.extract (k * 4) ((k + 1) * 4)) : Nat) : Int)] 1), (l17, lp15 .busy none), (d16, .mark), (b9, .cells true [.int .i64 4] 1), (b10, .cells true [.string b] 1), (b30, .cells true ((numN b (k + 1)).map u32v) 1), (b1, .cells true [.slice (some ⟨b30, 0, none⟩) (k + 1) (k + 1)] 1)]) rfl (fun H34 s35 => ⟨?_, ?_⟩)
      · exact trivial
      refine ⟨_, Wk.refl _ _, ?_⟩
      repeat (with_reducible first | refine then_ret ?_ | refine blk_ret ?_ | refine then_exit ?_ | refine blk_exit ?_ | refine blk_exit' (by decide) ?_ | refine blk_normal ?_ | refine then_normal ?_ | refine retq_ret ?_ | refine retq_normal ?_ | refine ng_normal ?_ | refine ng_ret ?_ | refine ng_exit ?_)
      exact ⟨(s35.forget 0).getj (j := 0) rfl, (fun _ => ⟨_, ((s35.forget 0).setAt (j := 0) rfl (lp15 .ready none))⟩), (fun h => nomatch h)⟩
  case after =>
    rintro v H' ⟨rfl, hpost⟩
    replace hpost := hpost.resolve_right (fun ⟨_, _, h⟩ => h)
    obtain ⟨bn, s36⟩ := hpost
    generalize hkk : b.size / 4 = k at *
    refine ⟨(by
        intro e he
        rcases List.mem_cons.1 he with rfl | he
        · exact s36.getj (j := 1) rfl
        · cases he), .inl ⟨s36.getj (j := 0) rfl, ?_⟩⟩
    have s38 := (s36.setAt (j := 0) rfl .none).forget 0
    refine ⟨_, Wk.refl _ _, ?_⟩
    show awp _ _ _ _ _ _ _
    refine awp_seq ?_
    refine awp_regs hF ?_
    refine dv (gyes_none rfl) (q_load (v := .slice (some ⟨bn, 0, none⟩) k k) Try.isAgg24 rfl (s38.rd (j := 4) rfl) rfl) rfl (by decide) (cok1 trivial) ?_
    refine dv (gyes_none rfl) (q_as (v := .slice (some ⟨bn, 0, none⟩) k k) rfl) rfl (by decide) (cok1 trivial) ?_
    refine ⟨_, Wk.refl _ _, ?_⟩
    show awp _ _ _ _ _ _ _
    refine awp_ret_wk ?_
    refine ⟨_, Wk.refl _ _, ?_⟩
    repeat (with_reducible first | refine then_ret ?_ | refine blk_ret ?_ | refine then_exit ?_ | refine blk_exit ?_ | refine blk_exit' (by decide) ?_ | refine blk_normal ?_ | refine then_normal ?_ | refine retq_ret ?_ | refine retq_normal ?_ | refine ng_normal ?_ | refine ng_ret ?_ | refine ng_exit ?_)
    refine ret_isD (v := .slice (some ⟨bn, 0, none⟩) k k) rfl (.tmp rfl .nil) rfl ?_
    rw [show numL b = numN b k by rw [numL, hkk]]
    exact fresh_of2n (s38.setAt (j := 0) rfl .none) (j := 3) rfl (numN_len b k)

end Go.Proofs.YtmoldjiooccppaaA


/-
  Walks of functions of the given program, and what they compute.
-/
namespace Go.Proofs.YtmoldjiooccppaaA
set_option linter.unusedVariables false
open Go Go.RowKit Go.Shelf Go.Proofs
set_option maxRecDepth 100000 in
set_option maxHeartbeats 2000000 in
theorem hash_ok {H0 : AHeap} {n0 : Nat} (h0 : H0.length = n0) (s : ByteArray) (hs : s.size ≤ 140737488355328) : ACalls Try.prog 32 [.string s] H0 (Rets (.int .u32 ((hash s : Nat) : Int)) H0) := by
  have hF : Wd Fence.wide := .inl rfl
  have hM : Try.prog.follows .mixedOrders = true := by kernel_rfl
  refine acalls_begin Try.func32 rfl Try.ntmps32 rfl ?_
  refine awp_seq ?_
  refine awp_reg hF ?_
  refine sv hF (gyes_none rfl) (q_as (by conv => lhs; whnf)) rfl (by decide) (cok1 (cconst rfl)) ?_
  refine ⟨_, Wk.refl _ _, ?_⟩
  show awp _ _ _ _ _ _ _
  refine awp_seq ?_
  refine awp_reg hF ?_
  refine sv hF (gyes_none rfl) (q_as (by conv => lhs; whnf)) rfl (by decide) (cok1 (cconst rfl)) ?_
  refine ⟨_, Wk.refl _ _, ?_⟩
  show awp _ _ _ _ _ _ _
  refine awp_seq ?_
  refine awp_seq ?_
  refine awp_reg hF ?_
  refine sv hF (gyes_none rfl) (q_mv (by conv => lhs; whnf)) rfl (by decide) (cok1 trivial) ?_
  refine sv hF (gyes_none rfl) (q_len_str Try.underlying9 rfl) rfl (by decide) (cok1 trivial) ?_
  refine sv hF (gyes_none rfl) (q_mv (by conv => lhs; whnf)) rfl (by decide) (cok1 (cconst rfl)) ?_
  refine ⟨_, Wk.refl _ _, ?_⟩
  show awp _ _ _ _ _ _ _
  refine awp_block ?_
  refine awp_wk (Wk.U [(0, .string s), (3, .int .u32 ((hashN s 0 : Nat) : Int)), (7, .int .i64 s.size), (8, .int .i64 ((0 : Nat) : Int))] ⟨rfl, rfl, rfl, rfl, trivial⟩) ?_
  refine awp_loop (fun (i : Nat) st => i ≤ s.size ∧ st = ⟨28, U [(0, .string s), (3, .int .u32 ((hashN s i : Nat) : Int)), (7, .int .i64 s.size), (8, .int .i64 ((i : Nat) : Int))], [], H0 ++ []⟩) (fun i => s.size - i) (x0 := 0) ?h0 ?round
  case h0 => exact ⟨Nat.zero_le _, rfl⟩
  case round =>
    rintro i _ ⟨hi, rfl⟩
    refine awp_seq ?_
    refine awp_reg hF ?_
    refine svb hF (gyes_none rfl) (q_int rfl rfl rfl) rfl (by decide) (cok2 trivial trivial) (fun c1 => ?_) (fun c1 => ?_)
    ·
      try simp only [decide_eq_true_eq] at c1
      refine ⟨_, Wk.refl _ _, ?_⟩
      show awp _ _ _ _ _ _ _
      refine awp_seq ?_
      refine awp_cond_t rfl ?_
      refine awp_skip_wk ?_
      refine ⟨_, Wk.refl _ _, ?_⟩
      show awp _ _ _ _ _ _ _
      refine awp_seq ?_
      refine awp_block ?_
      refine awp_seq ?_
      refine awp_reg hF ?_
      refine sv hF (gyes_none rfl) (q_mv (by conv => lhs; whnf)) rfl (by decide) (cok1 trivial) ?_
      refine sv hF (gyes_none rfl) (q_as (by conv => lhs; whnf)) rfl (by decide) (cok1 trivial) ?_
      refine ⟨_, Wk.refl _ _, ?_⟩
      show awp _ _ _ _ _ _ _
      refine awp_seq ?_
      refine awp_reg hF ?_
      refine sv hF (gyes_none rfl) (q_mv (by conv => lhs; whnf)) rfl (by decide) (cok1 trivial) ?_
      refine sv hF (gyes_none rfl) (q_shl rfl rfl (by first | decide | omega)) rfl (by decide) (cok2 trivial (cconst rfl)) ?_
      refine sv hF (gyes_none rfl) (q_mv (by conv => lhs; whnf)) rfl (by decide) (cok1 trivial) ?_
      refine sv hF (gyes_none rfl) (q_mv (by conv => lhs; whnf)) rfl (by decide) (cok1 trivial) ?_
      refine sv hF (gyes_none rfl) (q_strix Try.underlying9 rfl rfl (by omega)) rfl (by decide) (cok2 trivial trivial) ?_
      refine sv hF (gyes_none rfl) (by first | exact q_convin Try.underlying5 Try.underlying31 rfl (by first | exact i64_in (by omega) | exact u64_in (by omega) | exact u32_in (by omega) | exact u8_in (by omega)) | exact q_conv Try.underlying5 Try.underlying31 rfl) rfl (by decide) (cok1 trivial) ?_
      refine sv hF (gyes_none rfl) (q_int rfl rfl rfl) rfl (by decide) (cok2 trivial trivial) ?_
      refine sv hF (gyes_none rfl) (q_as (by conv => lhs; whnf)) rfl (by decide) (cok1 trivial) ?_
      refine ⟨_, Wk.refl _ _, ?_⟩
      show awp _ _ _ _ _ _ _
      refine awp_seq ?_
      refine awp_reg hF ?_
      refine sv hF (gyes_none rfl) (q_mv (by conv => lhs; whnf)) rfl (by decide) (cok1 trivial) ?_
      refine sv hF (gyes_none rfl) (q_int rfl rfl rfl) rfl (by decide) (cok2 trivial (cconst rfl)) ?_
      refine sv hF (gyes_none rfl) (q_as (by conv => lhs; whnf)) rfl (by decide) (cok1 trivial) ?_
      refine ⟨_, Wk.refl _ _, ?_⟩
      show awp _ _ _ _ _ _ _
      refine awp_reg hF ?_
      refine sv hF (gyes_none rfl) (q_mv (by conv => lhs; whnf)) rfl (by decide) (cok1 trivial) ?_
      refine sv hF (gyes_none rfl) (q_mv (by conv => lhs; whnf)) rfl (by decide) (cok1 trivial) ?_
      refine sv hF (gyes_none rfl) (q_shr rfl rfl (by first | decide | omega)) rfl (by decide) (cok2 trivial (cconst rfl)) ?_
      refine sv hF (gyes_none rfl) (q_int rfl rfl rfl) rfl (by decide) (cok2 trivial trivial) ?_
      refine sv hF (gyes_none rfl) (q_mv (by conv => lhs; whnf)) rfl (by decide) (cok1 trivial) ?_
      refine sv hF (gyes_none rfl) (q_int rfl rfl rfl) rfl (by decide) (cok2 trivial trivial) ?_
      refine sv hF (gyes_none rfl) (q_as (by conv => lhs; whnf)) rfl (by decide) (cok1 trivial) ?_
      refine ⟨_, Wk.refl _ _, ?_⟩
      show awp _ _ _ _ _ _ _
      refine awp_reg hF ?_
      refine sv hF (gyes_none rfl) (by first | exact q_add64 rfl rfl (by omega) | exact q_int rfl rfl rfl) rfl (by decide) (cok2 trivial (cconst rfl)) ?_
      refine sv hF (gyes_none rfl) (q_mv (by conv => lhs; whnf)) rfl (by decide) (cok1 trivial) ?_
      refine ⟨_, Wk.U [(0, .string s), (3, .int .u32 ((hashN s (i + 1) : Nat) : Int)), (7, .int .i64 s.size), (8, .int .i64 (((i + 1) : Nat) : Int))] ⟨rfl, ?_, rfl, rfl, trivial⟩, i + 1, ⟨by omega, rfl⟩, by omega⟩
      rw [hashN_succ s i (by omega), ← vstep _ _ (hashN_lt s i) (s[i].toNat_lt)]
      rfl
    ·
      try simp only [decide_eq_false_iff_not] at c1
      refine ⟨_, Wk.refl _ _, ?_⟩
      show awp _ _ _ _ _ _ _
      refine awp_seq ?_
      refine awp_cond_f rfl ?_
      refine awp_exit_wk ?_
      refine ⟨_, Wk.refl _ _, ?_⟩
      show awp _ _ _ _ _ _ _
      refine awp_seq ?_
      refine awp_reg hF ?_
      refine sv hF (gyes_none rfl) (q_mv (by conv => lhs; whnf)) rfl (by decide) (cok1 trivial) ?_
      refine sv hF (gyes_none rfl) (q_as (by conv => lhs; whnf)) rfl (by decide) (cok1 trivial) ?_
      refine ⟨_, Wk.refl _ _, ?_⟩
      show awp _ _ _ _ _ _ _
      refine awp_ret_wk ?_
      refine ⟨_, Wk.refl _ _, ?_⟩
      refine ret_drop1 rfl (.tmp (by conv => lhs; whnf) .nil) rfl ⟨?_, rfl⟩
      rw [show i = s.size by omega]; rfl
set_option maxRecDepth 100000 in
set_option maxHeartbeats 2000000 in
theorem bucket_ok {H0 : AHeap} {n0 : Nat} (h0 : H0.length = n0) (s : ByteArray) (hs : s.size ≤ 140737488355328) (B : List Nat) (vB vC : Value) (hB : Sl u32v H0 vB B) (hB0 : 0 < B.length) (hB1 : B.length < 4294967296) : ACalls Try.prog 20 [.agg #[vB, vC], .string s] H0 (Rets (.int .i64 ((hash s % B.length : Nat) : Int)) H0) := by
  have hF : Wd Fence.wide := .inl rfl
  have hM : Try.prog.follows .mixedOrders = true := by kernel_rfl
  refine acalls_begin Try.func20 rfl Try.ntmps20 rfl ?_
  refine awp_seq ?_
  refine awp_reg hF ?_
  refine sn hF (gyes_none rfl) (q_boxN 1 (loc_len h0 rfl) (by conv => lhs; whnf) (by exact trivial) rfl) rfl (by decide) (cok1 trivial) (List.append_assoc _ _ _) ?_
  refine sv hF (gyes_none rfl) (q_as (by conv => lhs; whnf)) rfl (by decide) (cok1 (cconst rfl)) ?_
  refine ⟨_, Wk.refl _ _, ?_⟩
  show awp _ _ _ _ _ _ _
  refine awp_seq ?_
  refine awp_regt hF hM (by kernel_rfl) (by kernel_rfl) ?_
  refine dv (gyes_none rfl) (q_mv (by conv => lhs; whnf)) rfl (by decide) (cok1 trivial) ?_
  refine dv (gyes_none rfl) (q_call0 Try.call32 rfl (hash_ok rfl s hs)) rfl (by decide) (cok2 trivial trivial) ?_
  refine dv (gyes_none rfl) (q_field Try.underlying26 rfl Try.sizeOf24 rfl (by first | exact loc_rd h0 rfl | exact frm_rd (by assumption) | exact frm_rd' (by assumption) | assumption)) rfl (by decide) (cok1 trivial) ?_
  refine dv (gyes_none rfl) (q_load Try.isAgg24 rfl (by first | exact loc_rd h0 rfl | exact frm_rd (by assumption) | exact frm_rd' (by assumption) | assumption) rfl) rfl (by decide) (cok1 trivial) ?_
  refine dv (gyes_none rfl) (q_len_sl Try.underlying24 (hB.app _) rfl) rfl (by decide) (call_ok rfl) ?_
  refine dv (gyes_none rfl) (q_convin Try.underlying3 Try.underlying31 rfl (u32_in (by omega))) rfl (by decide) (call_ok rfl) ?_
  refine dv (gyes_none rfl) (OpQ.cast (v' := .int .u32 ((hash s % B.length : Nat) : Int)) (q_remN rfl rfl (by omega) (by omega)) rfl) rfl (by decide) (call_ok rfl) ?_
  refine dv (gyes_none rfl) (q_convin Try.underlying31 Try.underlying3 rfl (i64_in (by have := hash_lt s; have := Nat.mod_lt (hash s) hB0; omega))) rfl (by decide) (call_ok rfl) ?_
  refine dv (gyes_none rfl) (q_as (by conv => lhs; whnf)) rfl (by decide) (cok1 trivial) ?_
  refine ⟨_, Wk.refl _ _, ?_⟩
  show awp _ _ _ _ _ _ _
  refine awp_ret_wk ?_
  refine ⟨_, Wk.refl _ _, ?_⟩
  refine ret_drop1 rfl (.tmp (by conv => lhs; whnf) .nil) rfl ⟨?_, rfl⟩
  rfl
set_option maxRecDepth 100000 in
set_option maxHeartbeats 2000000 in
theorem walk_ok {H0 : AHeap} {n0 : Nat} (h0 : H0.length = n0) (s : ByteArray) (vB vC : Value) {b0 b1 : Nat} (e0 : n0 + 0 = b0) (e1 : n0 + 1 = b1) : ACalls Try.prog 9 [.agg #[vB, vC], .string s] H0 (Rets (.func (.func 21) #[] #[.pointer (some ⟨b0, 0, none⟩), .pointer (some ⟨b1, 0, none⟩)]) (H0 ++ [.cells true [vB, vC] 1, .cells true [.string s] 1])) := by
  have hF : Wd Fence.wide := .inl rfl
  have hM : Try.prog.follows .mixedOrders = true := by kernel_rfl
  refine acalls_begin Try.func9 rfl Try.ntmps9 rfl ?_
  refine awp_seq ?_
  refine awp_reg hF ?_
  refine sn hF (gyes_none rfl) (q_boxN 1 (loc_len h0 rfl) (by conv => lhs; whnf) (by exact trivial) rfl) rfl (by decide) (cok1 trivial) (List.append_assoc _ _ _) ?_
  refine sn hF (gyes_none rfl) (q_boxN 1 (loc_len h0 rfl) (by conv => lhs; whnf) (by exact trivial) rfl) rfl (by decide) (cok1 trivial) (List.append_assoc _ _ _) ?_
  refine sv hF (gyes_none rfl) (q_as (by conv => lhs; whnf)) rfl (by decide) (cok1 (cconst rfl)) ?_
  refine ⟨_, Wk.refl _ _, ?_⟩
  show awp _ _ _ _ _ _ _
  refine awp_seq ?_
  refine awp_reg hF ?_
  refine sv hF (gyes_none rfl) (q_makeFuncL [_, _] ⟨(by conv => lhs; whnf), (by conv => lhs; whnf), trivial⟩) rfl (by decide) (cok2 trivial trivial) ?_
  refine sv hF (gyes_none rfl) (q_as (by conv => lhs; whnf)) rfl (by decide) (cok1 trivial) ?_
  refine ⟨_, Wk.refl _ _, ?_⟩
  show awp _ _ _ _ _ _ _
  refine awp_ret_wk ?_
  subst e0 e1
  refine ⟨_, Wk.refl _ _, ?_⟩
  repeat (with_reducible first | refine then_ret ?_ | refine blk_ret ?_ | refine then_exit ?_ | refine blk_exit ?_ | refine blk_exit' (by decide) ?_ | refine blk_normal ?_ | refine then_normal ?_ | refine retq_ret ?_ | refine retq_normal ?_ | refine ng_normal ?_ | refine ng_ret ?_ | refine ng_exit ?_)
  exact ret_same (H := H0 ++ _) (by rw [List.append_nil]; first | done | rfl) (.tmp rfl .nil) rfl ⟨rfl, rfl⟩

end Go.Proofs.YtmoldjiooccppaaA

