/-
  Walks over abstract states: texts of one claim, merged.
-/
import Derived.Test.YtponfeigjmjbmaaM3
import Derived.Test.YtponfeigjmjbmaaProg
import Derived.KernelRfl
import Derived.ChangeSlices
import Derived.SliceStrings
import Derived.WideShapes
import Derived.SizedLaws
import Derived.OpenShut
import Derived.Deep.Slices
/-
  Walks of functions of the given program, and what they compute.
-/
namespace Go.Proofs.YtponfeigjmjbmaaA
set_option linter.unusedVariables false
open Go Go.RowKit Go.Shelf Go.Proofs
def firstK (p : Nat → Bool) (n : Nat) : Nat := ((List.range n).find? p).getD n
theorem firstK_yes {p : Nat → Bool} {n i : Nat} (hi : i < n) (h : p i = true) (hn : ∀ j, j < i → p j = false) : firstK p n = i := by
  have : (List.range n).find? p = some i := by
    rw [List.find?_range_eq_some]
    exact ⟨h, List.mem_range.2 hi, fun j hj => by rw [hn j hj]; rfl⟩
  unfold firstK; rw [this]; rfl
theorem firstK_no {p : Nat → Bool} {n : Nat} (hn : ∀ j, j < n → p j = false) : firstK p n = n := by
  have : (List.range n).find? p = none := by
    rw [List.find?_range_eq_none]
    exact fun j hj => by rw [hn j hj]; rfl
  unfold firstK; rw [this]; rfl
theorem firstK_le (p : Nat → Bool) (n : Nat) : firstK p n ≤ n := by
  unfold firstK
  cases e : (List.range n).find? p with
  | none => exact Nat.le_refl _
  | some i => exact Nat.le_of_lt (List.mem_range.1 (List.mem_of_find?_eq_some e))
theorem firstK_is {p : Nat → Bool} {n : Nat} (h : firstK p n < n) : p (firstK p n) = true := by
  unfold firstK at h ⊢
  cases e : (List.range n).find? p with
  | none => rw [e] at h; exact absurd h (Nat.lt_irrefl _)
  | some i => exact List.find?_some e
theorem firstK_min {p : Nat → Bool} {n : Nat} : ∀ j, j < firstK p n → p j = false := fun j hj => by
  unfold firstK at hj
  cases e : (List.range n).find? p with
  | none => rw [e] at hj; exact Bool.eq_false_iff.2 (List.find?_eq_none.1 e j (List.mem_range.2 hj))
  | some i =>
    rw [e] at hj
    have h := (List.find?_range_eq_some.1 e).2.2 j hj
    simpa using h
def gOk (lb lk : List Nat) (sh f h : Nat) : Prop := mayV lb sh h = true ∧ 0 < lk.length ∧ f ≤ nth lk (h % lk.length)
instance (lb lk : List Nat) (sh f h : Nat) : Decidable (gOk lb lk sh f h) := inferInstanceAs (Decidable (_ ∧ _))
def gS (lk : List Nat) (f h : Nat) : Nat := nth lk (h % lk.length) - f
def gZ (lc : List Nat) (s : Nat) : Nat := firstK (fun i => decide (s ≤ i) && decide (nth lc i % 2 = 1)) lc.length
def gE (lb lk lc : List Nat) (sh f h : Nat) : Nat := if gOk lb lk sh f h then (if gZ lc (gS lk f h) < lc.length then gZ lc (gS lk f h) + 1 else max (gS lk f h) lc.length) else gS lk f h
structure Ends (lc : List Nat) (s e : Nat) : Prop where
  le : s ≤ e
  top : e ≤ max s lc.length
  odd : ∀ i, s ≤ i → i + 1 < e → nth lc i % 2 = 0
  fin : e < lc.length → s < e ∧ nth lc (e - 1) % 2 = 1
theorem gZ_min {lc : List Nat} {s i : Nat} (h1 : s ≤ i) (h2 : i < gZ lc s) : nth lc i % 2 = 0 := by
  have h := firstK_min (p := fun i => decide (s ≤ i) && decide (nth lc i % 2 = 1)) (n := lc.length) i h2
  try dsimp only at h
  rw [decide_eq_true h1, Bool.true_and, decide_eq_false_iff_not] at h
  omega
theorem gE_ends {lb lk lc : List Nat} {sh f h : Nat} (ho : gOk lb lk sh f h) : Ends lc (gS lk f h) (gE lb lk lc sh f h) := by
  unfold gE
  rw [if_pos ho]
  generalize gS lk f h = s
  split
  · rename_i hz
    have h1 := firstK_is hz
    rw [Bool.and_eq_true, decide_eq_true_iff, decide_eq_true_iff] at h1
    change s ≤ gZ lc s ∧ nth lc (gZ lc s) % 2 = 1 at h1
    exact ⟨by omega, by omega, fun i h2 h3 => gZ_min h2 (by omega), fun _ => ⟨by omega, by rw [Nat.add_sub_cancel]; exact h1.2⟩⟩
  · rename_i hz
    have hl : gZ lc s ≤ lc.length := firstK_le _ _
    exact ⟨Nat.le_max_left _ _, Nat.le_refl _, fun i h2 h3 => gZ_min h2 (by omega), fun h2 => absurd h2 (by omega)⟩
theorem gE_le {lb lk lc : List Nat} {sh f h : Nat} : gS lk f h ≤ gE lb lk lc sh f h := by
  by_cases ho : gOk lb lk sh f h
  · exact (gE_ends ho).le
  · unfold gE; rw [if_neg ho]; exact Nat.le_refl _
theorem gE_in {lb lk lc : List Nat} {sh f h i : Nat} (h1 : gS lk f h ≤ i) (h2 : i < gE lb lk lc sh f h) : gOk lb lk sh f h ∧ i < lc.length := by
  by_cases ho : gOk lb lk sh f h
  · exact ⟨ho, by have := (gE_ends (lc := lc) ho).top; omega⟩
  · unfold gE at h2; rw [if_neg ho] at h2; omega
def gP (names : List ByteArray) (lc : List Nat) (f : Nat) (s : ByteArray) (j : Nat) : Prop := nth lc j / 2 = gh s / 2 ∧ j + f < names.length ∧ nth names (j + f) = s
instance (names : List ByteArray) (lc : List Nat) (f : Nat) (s : ByteArray) (j : Nat) : Decidable (gP names lc f s j) := inferInstanceAs (Decidable (_ ∧ _))
section
variable (lb lk lc : List Nat) (sh f : Nat) (names : List ByteArray) (s : ByteArray)
def gF : Nat := firstK (fun j => decide (gS lk f (gh s) ≤ j) && decide (gP names lc f s j)) (gE lb lk lc sh f (gh s))
def gFV : Nat × Bool := if gF lb lk lc sh f names s < gE lb lk lc sh f (gh s) then (gF lb lk lc sh f names s + f, true) else (0, false)
end
section
variable {lb lk lc : List Nat} {sh f : Nat} {names : List ByteArray} {s : ByteArray}
theorem gF_yes {r : Nat} (h1 : gS lk f (gh s) ≤ r) (h2 : r < gE lb lk lc sh f (gh s)) (h3 : gP names lc f s r) (hn : ∀ j, gS lk f (gh s) ≤ j → j < r → ¬ gP names lc f s j) : gFV lb lk lc sh f names s = (r + f, true) := by
  have e : gF lb lk lc sh f names s = r := firstK_yes h2 (by rw [decide_eq_true h1, decide_eq_true h3]; rfl) fun j hj => by
    by_cases e : gS lk f (gh s) ≤ j
    · rw [decide_eq_false (hn j e hj), Bool.and_false]
    · rw [decide_eq_false e, Bool.false_and]
  unfold gFV
  rw [e, if_pos h2]
theorem gF_no (hn : ∀ j, gS lk f (gh s) ≤ j → j < gE lb lk lc sh f (gh s) → ¬ gP names lc f s j) : gFV lb lk lc sh f names s = (0, false) := by
  have e : gF lb lk lc sh f names s = gE lb lk lc sh f (gh s) := firstK_no fun j hj => by
    by_cases e : gS lk f (gh s) ≤ j
    · rw [decide_eq_false (hn j e hj), Bool.and_false]
    · rw [decide_eq_false e, Bool.false_and]
  unfold gFV
  rw [e, if_neg (Nat.lt_irrefl _)]
end
theorem lt_casesN {p : Nat → Prop} {a i : Nat} (h : ∀ j, a ≤ j → j < i → p j) (hi : p i) : ∀ j, a ≤ j → j < i + 1 → p j := fun j h1 h2 => by
  by_cases e : j = i
  · subst e; exact hi
  · exact h j h1 (by omega)
set_option maxRecDepth 100000 in
set_option maxHeartbeats 4000000 in
theorem walk1_ok {H0 : AHeap} (f sh : Nat) (vb vk vc : Value) (lb lk lc : List Nat) (hfl : f < 4294967296) (hl1 : lb.length < 4294967296) (hl2 : lk.length < 4294967296) (hl3 : lc.length ≤ 1000000) (hw : ∀ x ∈ lb, x < 18446744073709551616) (hkw : ∀ x ∈ lk, x < 4294967296) (hcw : ∀ x ∈ lc, x < 4294967296) (s : ByteArray) (hs : s.size ≤ 140737488355328) (ho : gOk lb lk sh f (gh s)) (y : Value) (bt bs : Nat) (Iv E' : Nat → AHeap → Prop) (h0 : Iv (gS lk f (gh s)) H0)
    (hm : ∀ i H H', Iv i H → K0 H H' → Iv i H') (hsk : ∀ i H, Iv i H → gS lk f (gh s) ≤ i → i < gE lb lk lc sh f (gh s) → nth lc i / 2 ≠ gh s / 2 → Iv (i + 1) H)
    (hb : ∀ i H, Iv i H → Rd H bt [.int .u32 ((f : Nat) : Int), .int .u32 ((sh : Nat) : Int), vb, vk, vc] 5 ∧ Rd H bs [.string s] 1 ∧ Sl u64v H vb lb ∧ Sl u32v H vk lk ∧ Sl u32v H vc lc)
    (hy : ∀ i H, Iv i H → gS lk f (gh s) ≤ i → i < gE lb lk lc sh f (gh s) → nth lc i / 2 = gh s / 2 → Ylds Try.prog y [.int .i64 ((i + f : Nat) : Int)] H (fun b H' => (b = true → Iv (i + 1) H') ∧ (b = false → E' (i + 1) H'))) : ACalls Try.prog 27 [y, .pointer (some ⟨bt, 0, none⟩), .pointer (some ⟨bs, 0, none⟩)] H0 (fun v H' => v = .tuple #[] ∧ (Iv (gE lb lk lc sh f (gh s)) H' ∨ ∃ i, gS lk f (gh s) ≤ i ∧ i < gE lb lk lc sh f (gh s) ∧ E' (i + 1) H')) := by
  have hF : Wd Fence.wide := .inl rfl
  have hM : Try.prog.follows .mixedOrders = true := by kernel_rfl
  have s0 := St.begin H0
  obtain ⟨hi_, hk_, hB_, hK_, hC_⟩ := hb _ _ h0
  refine acalls_st Try.func27 rfl Try.ntmps27 rfl ?_
  refine awp_seq ?_
  refine awp_seq ?_
  refine awp_regs hF ?_
  refine dv (gyes_none rfl) (q_loadAgg Try.isAgg31 Try.sizeOf31 rfl (s0.zrd hi_) (Nat.le_of_ble_eq_true rfl) rfl) rfl (by decide) (cok1 trivial) ?_
  refine dv (gyes_none rfl) (q_load (v := .string s) Try.isAgg9 rfl (s0.zrd hk_) rfl) rfl (by decide) (cok1 trivial) ?_
  refine dv (gyes_none rfl) (q_call0 Try.call12 rfl (ACalls.castV (v' := .bool true) (may_ok f sh vb vk vc lb lk lc hB_ hK_ hC_ s hs hl1 hw) (by rw [ho.1]))) rfl (by decide) (call_ok rfl) ?_
  refine dv (gyes_none rfl) (q_not (b := true) rfl) rfl (by decide) (cok1 trivial) ?_
  refine dv (gyes_none rfl) (q_mv (v := .bool false) rfl) rfl (by decide) (cok1 trivial) ?_
  refine dv (gyes_some rfl rfl) (q_field Try.underlying31 rfl Try.sizeOf29 rfl (s0.zrd hi_)) rfl (by decide) (cok1 trivial) ?_
  refine dv (gyes_some rfl rfl) (q_load (v := vk) Try.isAgg29 rfl (s0.zrd hi_) rfl) rfl (by decide) (cok1 trivial) ?_
  refine dv (gyes_some rfl rfl) (q_len_sl (l := lk) Try.underlying29 (hK_) rfl) rfl (by decide) (cok1 trivial) ?_
  refine dv (gyes_some rfl rfl) (OpQ.cast (v' := .bool false) (q_int rfl rfl rfl) (congrArg Value.bool (beq_eq_false_iff_ne.2 (by have := ho.2.1; omega)))) rfl (by decide) (cok2 trivial (cconst rfl)) ?_
  refine dv (gyes_none rfl) (q_pf (v := .bool false) rfl rfl) rfl (by decide) (call_ok rfl) ?_
  refine ⟨_, Wk.refl _ _, ?_⟩
  show awp _ _ _ _ _ _ _
  refine awp_cond_f rfl ?_
  refine awp_skip_wk ?_
  refine ⟨_, Wk.refl _ _, ?_⟩
  show awp _ _ _ _ _ _ _
  refine awp_seq ?_
  refine awp_regs hF ?_
  refine dv (gyes_none rfl) (q_load (v := .string s) Try.isAgg9 rfl (s0.zrd hk_) rfl) rfl (by decide) (cok1 trivial) ?_
  refine dv (gyes_none rfl) (q_call0 Try.call19 rfl (hash_ok s hs)) rfl (by decide) (cok2 trivial trivial) ?_
  refine dv (gyes_none rfl) (q_as (v := .int .u32 ((gh s : Nat) : Int)) rfl) rfl (by decide) (cok1 trivial) ?_
  refine ⟨_, Wk.refl _ _, ?_⟩
  show awp _ _ _ _ _ _ _
  refine awp_seq ?_
  have hm2 := Nat.mod_lt (gh s) ho.2.1
  have hkl := hkw _ (nthS_mem hm2)
  have hf := ho.2.2
  refine awp_regt hF hM (by kernel_rfl) (by kernel_rfl) ?_
  refine dv (gyes_none rfl) (q_field Try.underlying31 rfl Try.sizeOf29 rfl (s0.zrd hi_)) rfl (by decide) (cok1 trivial) ?_
  refine dv (gyes_none rfl) (q_load (v := vk) Try.isAgg29 rfl (s0.zrd hi_) rfl) rfl (by decide) (cok1 trivial) ?_
  refine dv (gyes_none rfl) (q_mv (v := .int .u32 ((gh s : Nat) : Int)) rfl) rfl (by decide) (cok1 trivial) ?_
  refine dv (gyes_none rfl) (q_field Try.underlying31 rfl Try.sizeOf29 rfl (s0.zrd hi_)) rfl (by decide) (cok1 trivial) ?_
  refine dv (gyes_none rfl) (q_load (v := vk) Try.isAgg29 rfl (s0.zrd hi_) rfl) rfl (by decide) (cok1 trivial) ?_
  refine dv (gyes_none rfl) (q_len_sl (l := lk) Try.underlying29 (hK_) rfl) rfl (by decide) (cok1 trivial) ?_
  refine dv (gyes_none rfl) (q_convin (a := ((lk.length : Nat) : Int)) Try.underlying3 Try.underlying27 rfl (u32_in (by omega))) rfl (by decide) (cok1 trivial) ?_
  refine dv (gyes_none rfl) (q_remM (a := (gh s)) (b := lk.length) rfl rfl ho.2.1) rfl (by decide) (cok2 trivial trivial) ?_
  refine dv (gyes_none rfl) (q_index_sl (l := lk) (i := ((gh s) % lk.length)) Try.underlying29 Try.sizeOf27 (hK_) rfl rfl hm2) rfl (by decide) (cok2 trivial trivial) ?_
  refine dv (gyes_none rfl) (q_load_sl (l := lk) (i := ((gh s) % lk.length)) Try.isAgg27 (hK_) rfl (by omega)) rfl (by decide) (cok1 trivial) ?_
  refine dv (gyes_none rfl) (q_as (v := .int .u32 ((nth lk ((gh s) % lk.length) : Nat) : Int)) rfl) rfl (by decide) (cok1 trivial) ?_
  refine ⟨_, Wk.refl _ _, ?_⟩
  show awp _ _ _ _ _ _ _
  refine awp_seq ?_
  refine awp_seq ?_
  refine awp_regs hF ?_
  refine dv (gyes_none rfl) (q_mv (v := .int .u32 ((nth lk ((gh s) % lk.length) : Nat) : Int)) rfl) rfl (by decide) (cok1 trivial) ?_
  refine dv (gyes_none rfl) (q_field Try.underlying31 rfl Try.sizeOf27 rfl (s0.zrd hi_)) rfl (by decide) (cok1 trivial) ?_
  refine dv (gyes_none rfl) (q_load (v := .int .u32 ((f : Nat) : Int)) Try.isAgg27 rfl (s0.zrd hi_) rfl) rfl (by decide) (cok1 trivial) ?_
  refine dv (gyes_none rfl) (OpQ.cast (v' := .bool false) (q_int rfl rfl rfl) (congrArg Value.bool (decide_eq_false (by omega)))) rfl (by decide) (cok2 trivial trivial) ?_
  refine ⟨_, Wk.refl _ _, ?_⟩
  show awp _ _ _ _ _ _ _
  refine awp_cond_f rfl ?_
  refine awp_skip_wk ?_
  refine ⟨_, Wk.refl _ _, ?_⟩
  show awp _ _ _ _ _ _ _
  refine awp_seq ?_
  refine awp_regs hF ?_
  refine dv (gyes_none rfl) (q_mv (v := .int .u32 ((nth lk ((gh s) % lk.length) : Nat) : Int)) rfl) rfl (by decide) (cok1 trivial) ?_
  refine dv (gyes_none rfl) (q_field Try.underlying31 rfl Try.sizeOf27 rfl (s0.zrd hi_)) rfl (by decide) (cok1 trivial) ?_
  refine dv (gyes_none rfl) (q_load (v := .int .u32 ((f : Nat) : Int)) Try.isAgg27 rfl (s0.zrd hi_) rfl) rfl (by decide) (cok1 trivial) ?_
  refine dv (gyes_none rfl) (OpQ.cast (v' := .int .u32 (((nth lk ((gh s) % lk.length)) - f : Nat) : Int)) (q_int rfl rfl rfl) (congrArg _ ((u32_in (by omega)).trans (by omega)))) rfl (by decide) (cok2 trivial trivial) ?_
  refine dv (gyes_none rfl) (q_convin (a := (((nth lk ((gh s) % lk.length)) - f : Nat) : Int)) Try.underlying27 Try.underlying45 rfl (u64_in (by omega))) rfl (by decide) (cok1 trivial) ?_
  refine dv (gyes_none rfl) (q_as (v := .int .u64 (((nth lk ((gh s) % lk.length)) - f : Nat) : Int)) rfl) rfl (by decide) (cok1 trivial) ?_
  refine ⟨_, Wk.refl _ _, ?_⟩
  show awp _ _ _ _ _ _ _
  refine awp_block ?_
  refine awp_wk (Wk.U [(0, y), (1, .pointer (some ⟨bt, 0, none⟩)), (2, .pointer (some ⟨bs, 0, none⟩)), (4, .int .u32 ((gh s : Nat) : Int)), (6, .int .u64 (((gS lk f (gh s)) : Nat) : Int))] ⟨rfl, rfl, rfl, rfl, rfl, trivial⟩) ?_
  refine awp_loop (fun (i : Nat) st => ∃ (H1 : AHeap), st = ⟨73, U [(0, y), (1, .pointer (some ⟨bt, 0, none⟩)), (2, .pointer (some ⟨bs, 0, none⟩)), (4, .int .u32 ((gh s : Nat) : Int)), (6, .int .u64 ((i : Nat) : Int))], [], H1⟩ ∧ St H1 (none0) (Rd H1) H1 [] ∧ ((gS lk f (gh s)) ≤ i ∧ i ≤ gE lb lk lc sh f (gh s) ∧ (gS lk f (gh s) < i → nth lc (i - 1) % 2 = 0) ∧ Iv i H1)) (fun (i : Nat) => lc.length - i) (x0 := ((gS lk f (gh s)))) ?h0 ?round
  case h0 =>
    exact ⟨_, rfl, s0, ⟨Nat.le_refl _, gE_le, fun h => absurd h (Nat.lt_irrefl _), hm _ _ _ h0 s0.kp⟩⟩
  case round =>
    rintro i _ ⟨H1, rfl, s2, hI⟩
    obtain ⟨hi_, hk_, hB_, hK_, hC_⟩ := hb _ _ hI.2.2.2
    refine awp_seq ?_
    refine awp_seq ?_
    refine awp_regs hF ?_
    refine dv (gyes_none rfl) (q_mv (v := .int .u64 ((i : Nat) : Int)) rfl) rfl (by decide) (cok1 trivial) ?_
    refine dv (gyes_none rfl) (q_field Try.underlying31 rfl Try.sizeOf29 rfl (s2.zrd hi_)) rfl (by decide) (cok1 trivial) ?_
    refine dv (gyes_none rfl) (q_load (v := vc) Try.isAgg29 rfl (s2.zrd hi_) rfl) rfl (by decide) (cok1 trivial) ?_
    refine dv (gyes_none rfl) (q_len_sl (l := lc) Try.underlying29 (hC_) rfl) rfl (by decide) (cok1 trivial) ?_
    refine dv (gyes_none rfl) (q_convin (a := ((lc.length : Nat) : Int)) Try.underlying3 Try.underlying45 rfl (u64_in (by omega))) rfl (by decide) (cok1 trivial) ?_
    refine dvb (gyes_none rfl) (q_int rfl rfl rfl) rfl (by decide) (cok2 trivial trivial) (fun c1 => ?_) (fun c1 => ?_)
    ·
      replace c1 := of_decide_eq_true c1
      have hie : i < gE lb lk lc sh f (gh s) := by
        have hE := gE_ends (lc := lc) ho
        refine Decidable.byContradiction fun hn => ?_
        have e : gE lb lk lc sh f (gh s) = i := by omega
        have h9 := hE.fin (by omega)
        have h8 := hI.2.2.1 (by omega)
        rw [e] at h9
        omega
      have hcl := hcw _ (nthS_mem (show i < lc.length by omega))
      have hgl := gh_lt s
      refine ⟨_, Wk.refl _ _, ?_⟩
      show awp _ _ _ _ _ _ _
      refine awp_cond_t rfl ?_
      refine awp_skip_wk ?_
      refine ⟨_, Wk.refl _ _, ?_⟩
      show awp _ _ _ _ _ _ _
      refine awp_seq ?_
      refine awp_block ?_
      refine awp_seq ?_
      refine awp_regs hF ?_
      refine dv (gyes_none rfl) (q_field Try.underlying31 rfl Try.sizeOf29 rfl (s2.zrd hi_)) rfl (by decide) (cok1 trivial) ?_
      refine dv (gyes_none rfl) (q_load (v := vc) Try.isAgg29 rfl (s2.zrd hi_) rfl) rfl (by decide) (cok1 trivial) ?_
      refine dv (gyes_none rfl) (q_mv (v := .int .u64 ((i : Nat) : Int)) rfl) rfl (by decide) (cok1 trivial) ?_
      refine dv (gyes_none rfl) (q_index_sl (l := lc) (i := i) Try.underlying29 Try.sizeOf27 (hC_) rfl rfl (by omega)) rfl (by decide) (cok2 trivial trivial) ?_
      refine dv (gyes_none rfl) (q_load_sl (l := lc) (i := i) Try.isAgg27 (hC_) rfl (by omega)) rfl (by decide) (cok1 trivial) ?_
      refine dv (gyes_none rfl) (q_as (v := .int .u32 ((nth lc i : Nat) : Int)) rfl) rfl (by decide) (cok1 trivial) ?_
      refine ⟨_, Wk.refl _ _, ?_⟩
      show awp _ _ _ _ _ _ _
      refine awp_seq ?_
      refine awp_regs hF ?_
      refine dv (gyes_none rfl) (q_mv (v := .int .u32 ((nth lc i : Nat) : Int)) rfl) rfl (by decide) (cok1 trivial) ?_
      refine dv (gyes_none rfl) (q_orN (a := (nth lc i)) (b := 1) rfl rfl rfl (by show _ < 4294967296; exact hcl) (by decide)) rfl (by decide) (cok2 trivial (cconst rfl)) ?_
      refine dv (gyes_none rfl) (q_mv (v := .int .u32 ((gh s : Nat) : Int)) rfl) rfl (by decide) (cok1 trivial) ?_
      refine dv (gyes_none rfl) (q_orN (a := (gh s)) (b := 1) rfl rfl rfl (by show _ < 4294967296; exact hgl) (by decide)) rfl (by decide) (cok2 trivial (cconst rfl)) ?_
      refine dvb (gyes_none rfl) (q_int rfl rfl rfl) rfl (by decide) (cok2 trivial trivial) (fun c2 => ?_) (fun c2 => ?_)
      ·
        replace c2 := eq_of_beq c2
        replace c2 := or1_eq.1 (Int.ofNat.inj c2)
        refine dv (gyes_none rfl) (q_mv (v := .bool true) rfl) rfl (by decide) (cok1 trivial) ?_
        refine dv (gyes_some rfl rfl) (q_mv (v := y) rfl) rfl (by decide) (cok1 trivial) ?_
        refine dv (gyes_some rfl rfl) (q_mv (v := .int .u64 ((i : Nat) : Int)) rfl) rfl (by decide) (cok1 trivial) ?_
        refine dv (gyes_some rfl rfl) (q_convin (a := ((i : Nat) : Int)) Try.underlying45 Try.underlying3 rfl (i64_in (by omega))) rfl (by decide) (cok1 trivial) ?_
        refine dv (gyes_some rfl rfl) (q_field Try.underlying31 rfl Try.sizeOf27 rfl (s2.zrd hi_)) rfl (by decide) (cok1 trivial) ?_
        refine dv (gyes_some rfl rfl) (q_load (v := .int .u32 ((f : Nat) : Int)) Try.isAgg27 rfl (s2.zrd hi_) rfl) rfl (by decide) (cok1 trivial) ?_
        refine dv (gyes_some rfl rfl) (q_convin (a := ((f : Nat) : Int)) Try.underlying27 Try.underlying3 rfl (i64_in (by omega))) rfl (by decide) (cok1 trivial) ?_
        refine dv (gyes_some rfl rfl) (OpQ.cast (v' := .int .i64 ((i + f : Nat) : Int)) (q_int rfl rfl rfl) (congrArg _ ((i64_in (by omega)).trans (by first | rfl | omega | (push_cast; rfl))))) rfl (by decide) (cok2 trivial trivial) ?_
        refine x_yield [] (by kernel_rfl) (gyes_some rfl rfl) (y := y) (args := [.int .i64 ((i + f : Nat) : Int)]) rfl rfl (hy i _ (hm _ _ _ hI.2.2.2 s2.kp) hI.1 hie (by assumption)) (show _ < _ by decide) (cok1 trivial) rfl rfl (fun y3 H4 hy5 => ⟨trivial, ?_⟩)
        show dList _ _ _ _ _ _ _ _ _ _
        cases y3
        case false =>
          refine dv (gyes_some rfl rfl) (q_not (b := false) rfl) rfl (by decide) (cok1 trivial) ?_
          refine dv (gyes_none rfl) (q_pt (v := .bool true) rfl rfl) rfl (by decide) (call_ok rfl) ?_
          refine dv (gyes_none rfl) (q_mv (v := .bool true) rfl) rfl (by decide) (cok1 trivial) ?_
          refine dno rfl (.inl rfl) rfl (by decide) ?_
          refine dno rfl (.inl rfl) rfl (by decide) ?_
          refine dno rfl (.inl rfl) rfl (by decide) ?_
          refine dv (gyes_none rfl) (q_pt (v := .bool true) rfl rfl) rfl (by decide) (call_ok rfl) ?_
          refine ⟨_, Wk.refl _ _, ?_⟩
          show awp _ _ _ _ _ _ _
          refine awp_cond_t rfl ?_
          refine awp_ret_wk ?_
          refine ⟨_, Wk.refl _ _, ?_⟩
          repeat (with_reducible first | refine then_ret ?_ | refine blk_ret ?_ | refine then_exit ?_ | refine blk_exit ?_ | refine blk_exit' (by decide) ?_ | refine blk_normal ?_ | refine then_normal ?_ | refine retq_ret ?_ | refine retq_normal ?_ | refine ng_normal ?_ | refine ng_ret ?_ | refine ng_exit ?_)
          refine ret_is (v := .tuple #[]) rfl .nil rfl ?_
          exact ⟨rfl, .inr ⟨i, hI.1, hie, hy5.2 rfl⟩⟩
        case true =>
          have h6 := hy5.1 rfl
          have s7 := St.begin H4
          obtain ⟨hi_, hk_, hB_, hK_, hC_⟩ := hb _ _ h6
          refine dv (gyes_some rfl rfl) (q_not (b := true) rfl) rfl (by decide) (cok1 trivial) ?_
          refine dv (gyes_none rfl) (q_pt (v := .bool false) rfl rfl) rfl (by decide) (call_ok rfl) ?_
          refine dv (gyes_none rfl) (q_mv (v := .bool false) rfl) rfl (by decide) (cok1 trivial) ?_
          refine dv (gyes_some rfl rfl) (q_mv (v := .int .u32 ((nth lc i : Nat) : Int)) rfl) rfl (by decide) (cok1 trivial) ?_
          refine dv (gyes_some rfl rfl) (OpQ.cast (v' := .int .u32 ((nth lc i % 2 : Nat) : Int)) (q_andN (a := (nth lc i)) (b := 1) rfl rfl rfl (by show _ < 4294967296; exact hcl) (by decide)) (congrArg _ (congrArg _ (Nat.and_one_is_mod _)))) rfl (by decide) (cok2 trivial (cconst rfl)) ?_
          refine dvb (gyes_some rfl rfl) (q_int rfl rfl rfl) rfl (by decide) (cok2 trivial (cconst rfl)) (fun c3 => ?_) (fun c3 => ?_)
          ·
            replace c3 := eq_of_beq c3
            refine dv (gyes_none rfl) (q_pf (v := .bool true) rfl rfl) rfl (by decide) (call_ok rfl) ?_
            refine ⟨_, Wk.refl _ _, ?_⟩
            show awp _ _ _ _ _ _ _
            refine awp_cond_t rfl ?_
            refine awp_ret_wk ?_
            refine ⟨_, Wk.refl _ _, ?_⟩
            repeat (with_reducible first | refine then_ret ?_ | refine blk_ret ?_ | refine then_exit ?_ | refine blk_exit ?_ | refine blk_exit' (by decide) ?_ | refine blk_normal ?_ | refine then_normal ?_ | refine retq_ret ?_ | refine retq_normal ?_ | refine ng_normal ?_ | refine ng_ret ?_ | refine ng_exit ?_)
            refine ret_is (v := .tuple #[]) rfl .nil rfl ?_
            have hE := gE_ends (lc := lc) ho
            obtain e : i + 1 = gE lb lk lc sh f (gh s) := by
              refine Decidable.byContradiction fun hn => ?_
              have h9 := hE.odd i hI.1 (by omega)
              omega
            exact ⟨rfl, .inl (e ▸ (h6))⟩
          ·
            replace c3 := ne_of_beq_false c3
            refine dv (gyes_none rfl) (q_pf (v := .bool false) rfl rfl) rfl (by decide) (call_ok rfl) ?_
            refine ⟨_, Wk.refl _ _, ?_⟩
            show awp _ _ _ _ _ _ _
            refine awp_cond_f rfl ?_
            refine awp_skip_wk ?_
            refine ⟨_, Wk.refl _ _, ?_⟩
            show awp _ _ _ _ _ _ _
            refine awp_regs hF ?_
            refine dv (gyes_none rfl) (q_mv (v := .int .u64 ((i : Nat) : Int)) rfl) rfl (by decide) (cok1 trivial) ?_
            refine dv (gyes_none rfl) (OpQ.cast (v' := .int .u64 ((i + 1 : Nat) : Int)) (q_int rfl rfl rfl) (congrArg _ ((u64_in (by omega)).trans (by first | rfl | omega | (push_cast; rfl))))) rfl (by decide) (cok2 trivial (cconst rfl)) ?_
            refine dv (gyes_none rfl) (q_as (v := .int .u64 ((i + 1 : Nat) : Int)) rfl) rfl (by decide) (cok1 trivial) ?_
            refine ⟨_, Wk.U [(0, y), (1, .pointer (some ⟨bt, 0, none⟩)), (2, .pointer (some ⟨bs, 0, none⟩)), (4, .int .u32 ((gh s : Nat) : Int)), (6, .int .u64 (((i + 1) : Nat) : Int))] ⟨rfl, rfl, rfl, rfl, rfl, trivial⟩, (i + 1), ⟨_, rfl, (St.begin _), ⟨by omega, by omega, fun _ => by (try dsimp only); rw [Nat.add_sub_cancel]; omega, h6⟩⟩, (by omega)⟩
      ·
        replace c2 := ne_of_beq_false c2
        replace c2 := fun h => c2 (congrArg Int.ofNat (or1_eq.2 h))
        refine dv (gyes_none rfl) (q_mv (v := .bool false) rfl) rfl (by decide) (cok1 trivial) ?_
        refine dno rfl (.inl rfl) rfl (by decide) ?_
        refine dno rfl (.inl rfl) rfl (by decide) ?_
        refine dno rfl (.inl rfl) rfl (by decide) ?_
        refine dno rfl (.inl rfl) rfl (by decide) ?_
        refine dno rfl (.inl rfl) rfl (by decide) ?_
        refine dno rfl (.inl rfl) rfl (by decide) ?_
        refine dno rfl (.inl rfl) rfl (by decide) ?_
        refine dno rfl (.inl rfl) rfl (by decide) ?_
        refine dno rfl (.inl rfl) rfl (by decide) ?_
        refine dv (gyes_none rfl) (q_pf (v := .bool false) rfl rfl) rfl (by decide) (call_ok rfl) ?_
        refine dv (gyes_none rfl) (q_mv (v := .bool false) rfl) rfl (by decide) (cok1 trivial) ?_
        refine dv (gyes_some rfl rfl) (q_mv (v := .int .u32 ((nth lc i : Nat) : Int)) rfl) rfl (by decide) (cok1 trivial) ?_
        refine dv (gyes_some rfl rfl) (OpQ.cast (v' := .int .u32 ((nth lc i % 2 : Nat) : Int)) (q_andN (a := (nth lc i)) (b := 1) rfl rfl rfl (by show _ < 4294967296; exact hcl) (by decide)) (congrArg _ (congrArg _ (Nat.and_one_is_mod _)))) rfl (by decide) (cok2 trivial (cconst rfl)) ?_
        refine dvb (gyes_some rfl rfl) (q_int rfl rfl rfl) rfl (by decide) (cok2 trivial (cconst rfl)) (fun c4 => ?_) (fun c4 => ?_)
        ·
          replace c4 := eq_of_beq c4
          refine dv (gyes_none rfl) (q_pf (v := .bool true) rfl rfl) rfl (by decide) (call_ok rfl) ?_
          refine ⟨_, Wk.refl _ _, ?_⟩
          show awp _ _ _ _ _ _ _
          refine awp_cond_t rfl ?_
          refine awp_ret_wk ?_
          refine ⟨_, Wk.refl _ _, ?_⟩
          repeat (with_reducible first | refine then_ret ?_ | refine blk_ret ?_ | refine then_exit ?_ | refine blk_exit ?_ | refine blk_exit' (by decide) ?_ | refine blk_normal ?_ | refine then_normal ?_ | refine retq_ret ?_ | refine retq_normal ?_ | refine ng_normal ?_ | refine ng_ret ?_ | refine ng_exit ?_)
          refine ret_is (v := .tuple #[]) rfl .nil rfl ?_
          have hE := gE_ends (lc := lc) ho
          obtain e : i + 1 = gE lb lk lc sh f (gh s) := by
            refine Decidable.byContradiction fun hn => ?_
            have h9 := hE.odd i hI.1 (by omega)
            omega
          exact ⟨rfl, .inl (e ▸ (hm _ _ _ (hsk i _ hI.2.2.2 hI.1 hie (by assumption)) s2.kp))⟩
        ·
          replace c4 := ne_of_beq_false c4
          refine dv (gyes_none rfl) (q_pf (v := .bool false) rfl rfl) rfl (by decide) (call_ok rfl) ?_
          refine ⟨_, Wk.refl _ _, ?_⟩
          show awp _ _ _ _ _ _ _
          refine awp_cond_f rfl ?_
          refine awp_skip_wk ?_
          refine ⟨_, Wk.refl _ _, ?_⟩
          show awp _ _ _ _ _ _ _
          refine awp_regs hF ?_
          refine dv (gyes_none rfl) (q_mv (v := .int .u64 ((i : Nat) : Int)) rfl) rfl (by decide) (cok1 trivial) ?_
          refine dv (gyes_none rfl) (OpQ.cast (v' := .int .u64 ((i + 1 : Nat) : Int)) (q_int rfl rfl rfl) (congrArg _ ((u64_in (by omega)).trans (by first | rfl | omega | (push_cast; rfl))))) rfl (by decide) (cok2 trivial (cconst rfl)) ?_
          refine dv (gyes_none rfl) (q_as (v := .int .u64 ((i + 1 : Nat) : Int)) rfl) rfl (by decide) (cok1 trivial) ?_
          refine ⟨_, Wk.U [(0, y), (1, .pointer (some ⟨bt, 0, none⟩)), (2, .pointer (some ⟨bs, 0, none⟩)), (4, .int .u32 ((gh s : Nat) : Int)), (6, .int .u64 (((i + 1) : Nat) : Int))] ⟨rfl, rfl, rfl, rfl, rfl, trivial⟩, (i + 1), ⟨_, rfl, (St.begin _), ⟨by omega, by omega, fun _ => by (try dsimp only); rw [Nat.add_sub_cancel]; omega, hm _ _ _ (hsk i _ hI.2.2.2 hI.1 hie (by assumption)) s2.kp⟩⟩, (by omega)⟩
    ·
      replace c1 := of_decide_eq_false c1
      refine ⟨_, Wk.refl _ _, ?_⟩
      show awp _ _ _ _ _ _ _
      refine awp_cond_f rfl ?_
      refine awp_exit_wk ?_
      refine ⟨_, Wk.refl _ _, ?_⟩
      repeat (with_reducible first | refine then_ret ?_ | refine blk_ret ?_ | refine then_exit ?_ | refine blk_exit ?_ | refine blk_exit' (by decide) ?_ | refine blk_normal ?_ | refine then_normal ?_ | refine retq_ret ?_ | refine retq_normal ?_ | refine ng_normal ?_ | refine ng_ret ?_ | refine ng_exit ?_)
      refine ret_is (v := .tuple #[]) rfl .nil rfl ?_
      have hE := gE_ends (lc := lc) ho
      obtain e : i = gE lb lk lc sh f (gh s) := by have := hE.top; omega
      exact ⟨rfl, .inl (e ▸ hI.2.2.2)⟩
set_option maxRecDepth 100000 in
set_option maxHeartbeats 4000000 in
theorem walk1_none {H0 : AHeap} (f sh : Nat) (vb vk vc : Value) (lb lk lc : List Nat) (hfl : f < 4294967296) (hl1 : lb.length < 4294967296) (hl2 : lk.length < 4294967296) (hl3 : lc.length ≤ 1000000) (hw : ∀ x ∈ lb, x < 18446744073709551616) (hkw : ∀ x ∈ lk, x < 4294967296) (hcw : ∀ x ∈ lc, x < 4294967296) (s : ByteArray) (hs : s.size ≤ 140737488355328) (ho : ¬ gOk lb lk sh f (gh s)) (y : Value) (bt bs : Nat) (hi_ : Rd H0 bt [.int .u32 ((f : Nat) : Int), .int .u32 ((sh : Nat) : Int), vb, vk, vc] 5) (hk_ : Rd H0 bs [.string s] 1) (hB_ : Sl u64v H0 vb lb) (hK_ : Sl u32v H0 vk lk) (hC_ : Sl u32v H0 vc lc) : ACalls Try.prog 27 [y, .pointer (some ⟨bt, 0, none⟩), .pointer (some ⟨bs, 0, none⟩)] H0 (Rets (.tuple #[]) H0) := by
  have hF : Wd Fence.wide := .inl rfl
  have hM : Try.prog.follows .mixedOrders = true := by kernel_rfl
  have s0 := St.begin H0
  refine acalls_st Try.func27 rfl Try.ntmps27 rfl ?_
  refine awp_seq ?_
  refine awp_seq ?_
  refine awp_regs hF ?_
  refine dv (gyes_none rfl) (q_loadAgg Try.isAgg31 Try.sizeOf31 rfl (s0.zrd hi_) (Nat.le_of_ble_eq_true rfl) rfl) rfl (by decide) (cok1 trivial) ?_
  refine dv (gyes_none rfl) (q_load (v := .string s) Try.isAgg9 rfl (s0.zrd hk_) rfl) rfl (by decide) (cok1 trivial) ?_
  refine dvb (gyes_none rfl) (q_call0 Try.call12 rfl (may_ok f sh vb vk vc lb lk lc hB_ hK_ hC_ s hs hl1 hw)) rfl (by decide) (call_ok rfl) (fun c1 => ?_) (fun c1 => ?_)
  ·
    have hmy : mayV lb sh (gh s) = true := c1
    refine dv (gyes_none rfl) (q_not (b := true) rfl) rfl (by decide) (cok1 trivial) ?_
    refine dv (gyes_none rfl) (q_mv (v := .bool false) rfl) rfl (by decide) (cok1 trivial) ?_
    refine dv (gyes_some rfl rfl) (q_field Try.underlying31 rfl Try.sizeOf29 rfl (s0.zrd hi_)) rfl (by decide) (cok1 trivial) ?_
    refine dv (gyes_some rfl rfl) (q_load (v := vk) Try.isAgg29 rfl (s0.zrd hi_) rfl) rfl (by decide) (cok1 trivial) ?_
    refine dv (gyes_some rfl rfl) (q_len_sl (l := lk) Try.underlying29 (hK_) rfl) rfl (by decide) (cok1 trivial) ?_
    refine dvb (gyes_some rfl rfl) (q_int rfl rfl rfl) rfl (by decide) (cok2 trivial (cconst rfl)) (fun c2 => ?_) (fun c2 => ?_)
    ·
      replace c2 := eq_of_beq c2
      refine dv (gyes_none rfl) (q_pf (v := .bool true) rfl rfl) rfl (by decide) (call_ok rfl) ?_
      refine ⟨_, Wk.refl _ _, ?_⟩
      show awp _ _ _ _ _ _ _
      refine awp_cond_t rfl ?_
      refine awp_ret_wk ?_
      refine ⟨_, Wk.refl _ _, ?_⟩
      repeat (with_reducible first | refine then_ret ?_ | refine blk_ret ?_ | refine then_exit ?_ | refine blk_exit ?_ | refine blk_exit' (by decide) ?_ | refine blk_normal ?_ | refine then_normal ?_ | refine retq_ret ?_ | refine retq_normal ?_ | refine ng_normal ?_ | refine ng_ret ?_ | refine ng_exit ?_)
      exact ret_none (v := .tuple #[]) rfl s0.kp .nil rfl rfl ⟨rfl, rfl⟩
    ·
      replace c2 := ne_of_beq_false c2
      refine dv (gyes_none rfl) (q_pf (v := .bool false) rfl rfl) rfl (by decide) (call_ok rfl) ?_
      refine ⟨_, Wk.refl _ _, ?_⟩
      show awp _ _ _ _ _ _ _
      refine awp_cond_f rfl ?_
      refine awp_skip_wk ?_
      refine ⟨_, Wk.refl _ _, ?_⟩
      show awp _ _ _ _ _ _ _
      refine awp_seq ?_
      refine awp_regs hF ?_
      refine dv (gyes_none rfl) (q_load (v := .string s) Try.isAgg9 rfl (s0.zrd hk_) rfl) rfl (by decide) (cok1 trivial) ?_
      refine dv (gyes_none rfl) (q_call0 Try.call19 rfl (hash_ok s hs)) rfl (by decide) (cok2 trivial trivial) ?_
      refine dv (gyes_none rfl) (q_as (v := .int .u32 ((gh s : Nat) : Int)) rfl) rfl (by decide) (cok1 trivial) ?_
      refine ⟨_, Wk.refl _ _, ?_⟩
      show awp _ _ _ _ _ _ _
      refine awp_seq ?_
      have hm2 := Nat.mod_lt (gh s) (show 0 < lk.length by omega)
      have hkl := hkw _ (nthS_mem hm2)
      refine awp_regt hF hM (by kernel_rfl) (by kernel_rfl) ?_
      refine dv (gyes_none rfl) (q_field Try.underlying31 rfl Try.sizeOf29 rfl (s0.zrd hi_)) rfl (by decide) (cok1 trivial) ?_
      refine dv (gyes_none rfl) (q_load (v := vk) Try.isAgg29 rfl (s0.zrd hi_) rfl) rfl (by decide) (cok1 trivial) ?_
      refine dv (gyes_none rfl) (q_mv (v := .int .u32 ((gh s : Nat) : Int)) rfl) rfl (by decide) (cok1 trivial) ?_
      refine dv (gyes_none rfl) (q_field Try.underlying31 rfl Try.sizeOf29 rfl (s0.zrd hi_)) rfl (by decide) (cok1 trivial) ?_
      refine dv (gyes_none rfl) (q_load (v := vk) Try.isAgg29 rfl (s0.zrd hi_) rfl) rfl (by decide) (cok1 trivial) ?_
      refine dv (gyes_none rfl) (q_len_sl (l := lk) Try.underlying29 (hK_) rfl) rfl (by decide) (cok1 trivial) ?_
      refine dv (gyes_none rfl) (q_convin (a := ((lk.length : Nat) : Int)) Try.underlying3 Try.underlying27 rfl (u32_in (by omega))) rfl (by decide) (cok1 trivial) ?_
      refine dv (gyes_none rfl) (q_remM (a := (gh s)) (b := lk.length) rfl rfl (by omega)) rfl (by decide) (cok2 trivial trivial) ?_
      refine dv (gyes_none rfl) (q_index_sl (l := lk) (i := ((gh s) % lk.length)) Try.underlying29 Try.sizeOf27 (hK_) rfl rfl hm2) rfl (by decide) (cok2 trivial trivial) ?_
      refine dv (gyes_none rfl) (q_load_sl (l := lk) (i := ((gh s) % lk.length)) Try.isAgg27 (hK_) rfl (by omega)) rfl (by decide) (cok1 trivial) ?_
      refine dv (gyes_none rfl) (q_as (v := .int .u32 ((nth lk ((gh s) % lk.length) : Nat) : Int)) rfl) rfl (by decide) (cok1 trivial) ?_
      refine ⟨_, Wk.refl _ _, ?_⟩
      show awp _ _ _ _ _ _ _
      refine awp_seq ?_
      refine awp_seq ?_
      refine awp_regs hF ?_
      refine dv (gyes_none rfl) (q_mv (v := .int .u32 ((nth lk ((gh s) % lk.length) : Nat) : Int)) rfl) rfl (by decide) (cok1 trivial) ?_
      refine dv (gyes_none rfl) (q_field Try.underlying31 rfl Try.sizeOf27 rfl (s0.zrd hi_)) rfl (by decide) (cok1 trivial) ?_
      refine dv (gyes_none rfl) (q_load (v := .int .u32 ((f : Nat) : Int)) Try.isAgg27 rfl (s0.zrd hi_) rfl) rfl (by decide) (cok1 trivial) ?_
      refine dvb (gyes_none rfl) (q_int rfl rfl rfl) rfl (by decide) (cok2 trivial trivial) (fun c3 => ?_) (fun c3 => ?_)
      ·
        replace c3 := of_decide_eq_true c3
        refine ⟨_, Wk.refl _ _, ?_⟩
        show awp _ _ _ _ _ _ _
        refine awp_cond_t rfl ?_
        refine awp_ret_wk ?_
        refine ⟨_, Wk.refl _ _, ?_⟩
        repeat (with_reducible first | refine then_ret ?_ | refine blk_ret ?_ | refine then_exit ?_ | refine blk_exit ?_ | refine blk_exit' (by decide) ?_ | refine blk_normal ?_ | refine then_normal ?_ | refine retq_ret ?_ | refine retq_normal ?_ | refine ng_normal ?_ | refine ng_ret ?_ | refine ng_exit ?_)
        exact ret_none (v := .tuple #[]) rfl s0.kp .nil rfl rfl ⟨rfl, rfl⟩
      ·
        replace c3 := of_decide_eq_false c3
        exfalso
        exact ho ⟨hmy, by omega, by omega⟩ --closed
  ·
    refine dv (gyes_none rfl) (q_not (b := false) rfl) rfl (by decide) (cok1 trivial) ?_
    refine dv (gyes_none rfl) (q_mv (v := .bool true) rfl) rfl (by decide) (cok1 trivial) ?_
    refine dno rfl (.inl rfl) rfl (by decide) ?_
    refine dno rfl (.inl rfl) rfl (by decide) ?_
    refine dno rfl (.inl rfl) rfl (by decide) ?_
    refine dno rfl (.inl rfl) rfl (by decide) ?_
    refine dv (gyes_none rfl) (q_pt (v := .bool true) rfl rfl) rfl (by decide) (call_ok rfl) ?_
    refine ⟨_, Wk.refl _ _, ?_⟩
    show awp _ _ _ _ _ _ _
    refine awp_cond_t rfl ?_
    refine awp_ret_wk ?_
    refine ⟨_, Wk.refl _ _, ?_⟩
    repeat (with_reducible first | refine then_ret ?_ | refine blk_ret ?_ | refine then_exit ?_ | refine blk_exit ?_ | refine blk_exit' (by decide) ?_ | refine blk_normal ?_ | refine then_normal ?_ | refine retq_ret ?_ | refine retq_normal ?_ | refine ng_normal ?_ | refine ng_ret ?_ | refine ng_exit ?_)
    exact ret_none (v := .tuple #[]) rfl s0.kp .nil rfl rfl ⟨rfl, rfl⟩
theorem walk1_all {H0 : AHeap} (f sh : Nat) (vb vk vc : Value) (lb lk lc : List Nat) (hfl : f < 4294967296) (hl1 : lb.length < 4294967296) (hl2 : lk.length < 4294967296) (hl3 : lc.length ≤ 1000000) (hw : ∀ x ∈ lb, x < 18446744073709551616) (hkw : ∀ x ∈ lk, x < 4294967296) (hcw : ∀ x ∈ lc, x < 4294967296) (s : ByteArray) (hs : s.size ≤ 140737488355328) (y : Value) (bt bs : Nat) (Iv E' : Nat → AHeap → Prop) (h0 : Iv (gS lk f (gh s)) H0)
    (hm : ∀ i H H', Iv i H → K0 H H' → Iv i H') (hsk : ∀ i H, Iv i H → gS lk f (gh s) ≤ i → i < gE lb lk lc sh f (gh s) → nth lc i / 2 ≠ gh s / 2 → Iv (i + 1) H)
    (hb : ∀ i H, Iv i H → Rd H bt [.int .u32 ((f : Nat) : Int), .int .u32 ((sh : Nat) : Int), vb, vk, vc] 5 ∧ Rd H bs [.string s] 1 ∧ Sl u64v H vb lb ∧ Sl u32v H vk lk ∧ Sl u32v H vc lc)
    (hy : ∀ i H, Iv i H → gS lk f (gh s) ≤ i → i < gE lb lk lc sh f (gh s) → nth lc i / 2 = gh s / 2 → Ylds Try.prog y [.int .i64 ((i + f : Nat) : Int)] H (fun b H' => (b = true → Iv (i + 1) H') ∧ (b = false → E' (i + 1) H'))) : ACalls Try.prog 27 [y, .pointer (some ⟨bt, 0, none⟩), .pointer (some ⟨bs, 0, none⟩)] H0 (fun v H' => v = .tuple #[] ∧ (Iv (gE lb lk lc sh f (gh s)) H' ∨ ∃ i, gS lk f (gh s) ≤ i ∧ i < gE lb lk lc sh f (gh s) ∧ E' (i + 1) H')) := by
  by_cases ho : gOk lb lk sh f (gh s)
  · exact walk1_ok f sh vb vk vc lb lk lc hfl hl1 hl2 hl3 hw hkw hcw s hs ho y bt bs Iv E' h0 hm hsk hb hy
  · obtain ⟨hi_, hk_, hB_, hK_, hC_⟩ := hb _ _ h0
    refine (walk1_none f sh vb vk vc lb lk lc hfl hl1 hl2 hl3 hw hkw hcw s hs ho y bt bs hi_ hk_ hB_ hK_ hC_).mono ?_
    rintro v H' ⟨rfl, rfl⟩
    refine ⟨rfl, .inl ?_⟩
    have e : gE lb lk lc sh f (gh s) = gS lk f (gh s) := by unfold gE; rw [if_neg ho]
    rw [e]; exact h0

end Go.Proofs.YtponfeigjmjbmaaA


/-
  Walks of functions of the given program, and what they compute.
-/
namespace Go.Proofs.YtponfeigjmjbmaaA
set_option linter.unusedVariables false
open Go Go.RowKit Go.Shelf Go.Proofs
set_option maxRecDepth 100000 in
set_option maxHeartbeats 4000000 in
theorem walk_ok {H0 : AHeap} (f sh : Nat) (vb vk vc : Value) (lb lk lc : List Nat) (hb : Sl u64v H0 vb lb) (hk : Sl u32v H0 vk lk) (hc : Sl u32v H0 vc lc) (s : ByteArray) : ACalls Try.prog 13 [.agg #[.int .u32 ((f : Nat) : Int), .int .u32 ((sh : Nat) : Int), vb, vk, vc], .string s] H0 (fun v H' => ∃ bs bt, v = .func (.func 27) #[] #[.pointer (some ⟨bt, 0, none⟩), .pointer (some ⟨bs, 0, none⟩)] ∧ NewL H0 H' [(bs, .cells true [.string s] 1), (bt, .cells true [.int .u32 ((f : Nat) : Int), .int .u32 ((sh : Nat) : Int), vb, vk, vc] 5)]) := by
  have hF : Wd Fence.wide := .inl rfl
  have hM : Try.prog.follows .mixedOrders = true := by kernel_rfl
  have s0 := St.begin H0
  refine acalls_st Try.func13 rfl Try.ntmps13 rfl ?_
  refine awp_seq ?_
  refine awp_regs hF ?_
  refine x_new (fun b => .pointer (some ⟨b, 0, none⟩)) s0 (gyes_none rfl) (q_box (v := .agg #[.int .u32 ((f : Nat) : Int), .int .u32 ((sh : Nat) : Int), vb, vk, vc]) (vs := [.int .u32 ((f : Nat) : Int), .int .u32 ((sh : Nat) : Int), vb, vk, vc]) 5 rfl (by exact trivial) rfl) rfl (by decide) (cok1 trivial) (fun b1 H2 hb4 s3 => ?_)
  refine x_new (fun b => .pointer (some ⟨b, 0, none⟩)) s3 (gyes_none rfl) (q_box (v := .string s) (vs := [.string s]) 1 rfl (by exact trivial) rfl) rfl (by decide) (cok1 trivial) (fun b5 H6 hb8 s7 => ?_)
  refine dv (gyes_none rfl) (q_as (v := .nilFunc) rfl) rfl (by decide) (cok1 (cconst rfl)) ?_
  refine ⟨_, Wk.refl _ _, ?_⟩
  show awp _ _ _ _ _ _ _
  refine awp_seq ?_
  refine awp_regs hF ?_
  refine dv (gyes_none rfl) (q_makeFuncL [.pointer (some ⟨b1, 0, none⟩), .pointer (some ⟨b5, 0, none⟩)] ⟨rfl, rfl, trivial⟩) rfl (by decide) (cok2 trivial trivial) ?_
  refine dv (gyes_none rfl) (q_as (v := .func (.func 27) #[] #[.pointer (some ⟨b1, 0, none⟩), .pointer (some ⟨b5, 0, none⟩)]) rfl) rfl (by decide) (cok1 trivial) ?_
  refine ⟨_, Wk.refl _ _, ?_⟩
  show awp _ _ _ _ _ _ _
  refine awp_ret_wk ?_
  refine ⟨_, Wk.refl _ _, ?_⟩
  repeat (with_reducible first | refine then_ret ?_ | refine blk_ret ?_ | refine then_exit ?_ | refine blk_exit ?_ | refine blk_exit' (by decide) ?_ | refine blk_normal ?_ | refine then_normal ?_ | refine retq_ret ?_ | refine retq_normal ?_ | refine ng_normal ?_ | refine ng_ret ?_ | refine ng_exit ?_)
  refine ret_is (v := .func (.func 27) #[] #[.pointer (some ⟨b1, 0, none⟩), .pointer (some ⟨b5, 0, none⟩)]) rfl (.tmp rfl .nil) rfl ?_
  exact ⟨_, _, rfl, s7.newL⟩
set_option maxRecDepth 100000 in
set_option maxHeartbeats 4000000 in
theorem find_ok {H0 : AHeap} (f sh : Nat) (vb vk vc : Value) (lb lk lc : List Nat) (hfl : f < 4294967296) (hl1 : lb.length < 4294967296) (hl2 : lk.length < 4294967296) (hl3 : lc.length ≤ 1000000) (hw : ∀ x ∈ lb, x < 18446744073709551616) (hkw : ∀ x ∈ lk, x < 4294967296) (hcw : ∀ x ∈ lc, x < 4294967296) (s : ByteArray) (hs : s.size ≤ 140737488355328) (hb : Sl u64v H0 vb lb) (hk : Sl u32v H0 vk lk) (hc : Sl u32v H0 vc lc) (vN : Value) (names : List ByteArray) (hN : Sl strv H0 vN names) (hnl : names.length ≤ 1000000) : ACalls Try.prog 21 [.agg #[.int .u32 ((f : Nat) : Int), .int .u32 ((sh : Nat) : Int), vb, vk, vc], .string s, vN] H0 (Rets (.tuple #[.int .i64 (((gFV lb lk lc sh f names s).1 : Nat) : Int), .bool (gFV lb lk lc sh f names s).2]) H0) := by
  have hF : Wd Fence.wide := .inl rfl
  have hM : Try.prog.follows .mixedOrders = true := by kernel_rfl
  have s0 := St.begin H0
  refine acalls_st Try.func21 rfl Try.ntmps21 rfl ?_
  refine awp_seq ?_
  refine awp_regs hF ?_
  refine x_new (fun b => .pointer (some ⟨b, 0, none⟩)) s0 (gyes_none rfl) (q_box (v := .agg #[.int .u32 ((f : Nat) : Int), .int .u32 ((sh : Nat) : Int), vb, vk, vc]) (vs := [.int .u32 ((f : Nat) : Int), .int .u32 ((sh : Nat) : Int), vb, vk, vc]) 5 rfl (by exact trivial) rfl) rfl (by decide) (cok1 trivial) (fun b1 H2 hb4 s3 => ?_)
  refine x_new (fun b => .pointer (some ⟨b, 0, none⟩)) s3 (gyes_none rfl) (q_box (v := .string s) (vs := [.string s]) 1 rfl (by exact trivial) rfl) rfl (by decide) (cok1 trivial) (fun b5 H6 hb8 s7 => ?_)
  refine x_new (fun b => .pointer (some ⟨b, 0, none⟩)) s7 (gyes_none rfl) (q_box (v := vN) (vs := [vN]) 1 rfl (Sl.lc (s7.sl hN)).1 (Sl.cells (s7.sl hN))) rfl (by decide) (cok1 trivial) (fun b9 H10 hb12 s11 => ?_)
  refine x_new (fun b => .pointer (some ⟨b, 0, none⟩)) s11 (gyes_none rfl) (q_alloc (vs := [.int .i64 0]) 1 Try.zeroValue3 (by first | exact flat_scalar rfl | exact flat_agg rfl) rfl) rfl (by decide) (by simp [Op.operands, Call.operands]) (fun b13 H14 hb16 s15 => ?_)
  refine x_new (fun b => .pointer (some ⟨b, 0, none⟩)) s15 (gyes_none rfl) (q_alloc (vs := [.bool false]) 1 Try.zeroValue4 (by first | exact flat_scalar rfl | exact flat_agg rfl) rfl) rfl (by decide) (by simp [Op.operands, Call.operands]) (fun b17 H18 hb20 s19 => ?_)
  refine ⟨_, Wk.refl _ _, ?_⟩
  show awp _ _ _ _ _ _ _
  refine awp_seq ?_
  refine awp_seq ?_
  refine awp_regs hF ?_
  refine dv (gyes_none rfl) (q_loadAgg Try.isAgg31 Try.sizeOf31 rfl (s19.rd (j := 4) rfl) (Nat.le_of_ble_eq_true rfl) rfl) rfl (by decide) (cok1 trivial) ?_
  refine dv (gyes_none rfl) (q_load (v := .string s) Try.isAgg9 rfl (s19.rd (j := 3) rfl) rfl) rfl (by decide) (cok1 trivial) ?_
  refine x_call [] hF (by kernel_rfl) (gyes_none rfl) Try.call13 rfl (args := [.agg #[.int .u32 ((f : Nat) : Int), .int .u32 ((sh : Nat) : Int), vb, vk, vc], .string s]) rfl (walk_ok f sh _ _ _ lb lk lc (s19.sl hb) (s19.sl hk) (s19.sl hc) s) (show _ < _ by decide) (call_ok rfl) rfl rfl (fun _ _ _ _ hd => by cases hd) ?_
  rintro _ H23 ⟨b21, b22, rfl, hn24⟩
  have s25 := s19.callL hn24
  refine ⟨trivial, ?_⟩
  show dList _ _ _ _ _ _ _ _ _ _
  refine ⟨_, Wk.refl _ _, ?_⟩
  show awp _ _ _ _ _ _ _
  refine awp_block ?_
  refine range_st s25 rfl Try.call27 (fun fn26 lp27 d28 l29 H30 hlp31 hd32 s33 => ?_)
  refine (walk1_all (H0 := H30) f sh vb vk vc lb lk lc hfl hl1 hl2 hl3 hw hkw hcw s hs _ b22 b21 (fun (k : Nat) (H34 : AHeap) => St H0 (none0) (Rd H0) H34 [(l29, lp27 .ready none), (d28, .mark), (b21, .cells true [.string s] 1), (b22, .cells true [.int .u32 ((f : Nat) : Int), .int .u32 ((sh : Nat) : Int), vb, vk, vc] 5), (b17, .cells true [.bool false] 1), (b13, .cells true [.int .i64 0] 1), (b9, .cells true [vN] 1), (b5, .cells true [.string s] 1), (b1, .cells true [.int .u32 ((f : Nat) : Int), .int .u32 ((sh : Nat) : Int), vb, vk, vc] 5)] ∧ (∀ j, gS lk f (gh s) ≤ j → j < k → ¬ gP names lc f s j)) (fun (k' : Nat) (H34 : AHeap) => ∃ (r : Nat), St H0 (none0) (Rd H0) H34 [(l29, lp27 (.done) (some .ret)), (d28, .mark), (b21, .cells true [.string s] 1), (b22, .cells true [.int .u32 ((f : Nat) : Int), .int .u32 ((sh : Nat) : Int), vb, vk, vc] 5), (b17, .cells true [.bool true] 1), (b13, .cells true [.int .i64 ((r + f : Nat) : Int)] 1), (b9, .cells true [vN] 1), (b5, .cells true [.string s] 1), (b1, .cells true [.int .u32 ((f : Nat) : Int), .int .u32 ((sh : Nat) : Int), vb, vk, vc] 5)] ∧ (gS lk f (gh s) ≤ r ∧ r < gE lb lk lc sh f (gh s) ∧ gP names lc f s r ∧ ∀ j, gS lk f (gh s) ≤ j → j < r → ¬ gP names lc f s j)) ?h00 (fun _ _ _ ⟨s_, hq⟩ k_ => ⟨s_.call0 k_, hq⟩) (fun k _ ⟨s_, hq⟩ h1_ h2_ hne => ⟨s_, lt_casesN hq (fun h => hne h.1)⟩) ?hb ?round).mono ?after
  case h00 => exact ⟨s33, fun j h1 h2 => absurd h2 (by omega)⟩
  case hb =>
    rintro k H34 ⟨s35, hq⟩
    exact ⟨s35.rd (j := 3) rfl, s35.rd (j := 2) rfl, s35.sl hb, s35.sl hk, s35.sl hc⟩
  case round =>
    rintro k H34  ⟨s35, hq⟩ hx1 hx2 hx3
    have hin := (gE_in hx1 hx2).2
    refine ylds_roundB hlp31 (s35.getj (j := 0) rfl) rfl rfl (fun l36 hF => ?_)
    refine awp_regs hF ?_
    refine dv (gyes_none rfl) (q_as (v := .int .i64 ((k + f : Nat) : Int)) rfl) rfl (by decide) (cok1 trivial) ?_
    refine ⟨_, Wk.refl _ _, ?_⟩
    refine then_normal ?_
    refine ⟨_, _, rfl, s35.getj (j := 0) rfl, ?body⟩
    case body =>
      have s37 := s35.setAt (j := 0) rfl (lp27 .busy none)
      show awp _ _ _ _ _ _ _
      refine awp_block ?_
      refine awp_seq ?_
      refine awp_regt hF hM (by kernel_rfl) (by kernel_rfl) ?_
      refine dv (gyes_none rfl) (q_mv (v := .int .i64 ((k + f : Nat) : Int)) rfl) rfl (by decide) (cok1 trivial) ?_
      refine dv (gyes_none rfl) (q_load (v := vN) Try.isAgg23 rfl (s37.rd (j := 6) rfl) rfl) rfl (by decide) (cok1 trivial) ?_
      refine dv (gyes_none rfl) (q_len_sl (l := names) Try.underlying23 (s37.sl hN) rfl) rfl (by decide) (cok1 trivial) ?_
      refine dvb (gyes_none rfl) (q_int rfl rfl rfl) rfl (by decide) (cok2 trivial trivial) (fun c1 => ?_) (fun c1 => ?_)
      ·
        replace c1 := of_decide_eq_true c1
        refine dv (gyes_none rfl) (q_mv (v := .bool true) rfl) rfl (by decide) (cok1 trivial) ?_
        refine dv (gyes_some rfl rfl) (q_load (v := vN) Try.isAgg23 rfl (s37.rd (j := 6) rfl) rfl) rfl (by decide) (cok1 trivial) ?_
        refine dv (gyes_some rfl rfl) (q_mv (v := .int .i64 ((k + f : Nat) : Int)) rfl) rfl (by decide) (cok1 trivial) ?_
        refine dv (gyes_some rfl rfl) (q_index_sl (l := names) (i := (k + f)) Try.underlying23 Try.sizeOf9 (s37.sl hN) rfl rfl (by omega)) rfl (by decide) (cok2 trivial trivial) ?_
        refine dv (gyes_some rfl rfl) (q_load_sl (l := names) (i := (k + f)) Try.isAgg9 (s37.sl hN) rfl (by omega)) rfl (by decide) (cok1 trivial) ?_
        refine dv (gyes_some rfl rfl) (q_load (v := .string s) Try.isAgg9 rfl (s37.rd (j := 7) rfl) rfl) rfl (by decide) (cok1 trivial) ?_
        refine dvb (gyes_some rfl rfl) (q_streq rfl rfl) rfl (by decide) (cok2 trivial trivial) (fun c2 => ?_) (fun c2 => ?_)
        ·
          replace c2 := of_decide_eq_true c2
          refine dv (gyes_none rfl) (q_pt (v := .bool true) rfl rfl) rfl (by decide) (call_ok rfl) ?_
          refine ⟨_, Wk.refl _ _, ?_⟩
          show awp _ _ _ _ _ _ _
          refine awp_cond_t rfl ?_
          refine awp_seq ?_
          refine awp_regs hF ?_
          refine dv (gyes_none rfl) (q_mv (v := .int .i64 ((k + f : Nat) : Int)) rfl) rfl (by decide) (cok1 trivial) ?_
          refine x_store1 [] hF s37 (by kernel_rfl) (gyes_none rfl) (j := 5) (v := .int .i64 ((k + f : Nat) : Int)) rfl Try.sizeOf3 rfl rfl rfl (lc_scalar rfl) (Nat.le_of_ble_eq_true rfl) trivial trivial rfl rfl (F' := [(l29, lp27 .busy none), (d28, .mark), (b21, .cells true [.string s] 1), (b22, .cells true [.int .u32 ((f : Nat) : Int), .int .u32 ((sh : Nat) : Int), vb, vk, vc] 5), (b17, .cells true [.bool false] 1), (b13, .cells true [.int .i64 ((k + f : Nat) : Int)] 1), (b9, .cells true [vN] 1), (b5, .cells true [.string s] 1), (b1, .cells true [.int .u32 ((f : Nat) : Int), .int .u32 ((sh : Nat) : Int), vb, vk, vc] 5)]) rfl (fun H38 s39 => ⟨?_, ?_⟩)
          · exact trivial
          refine x_store1 [] hF s39 (by kernel_rfl) (gyes_none rfl) (j := 4) (v := .bool true) rfl Try.sizeOf4 rfl rfl rfl (lc_scalar rfl) (Nat.le_of_ble_eq_true rfl) trivial (cconst rfl) rfl rfl (F' := [(l29, lp27 .busy none), (d28, .mark), (b21, .cells true [.string s] 1), (b22, .cells true [.int .u32 ((f : Nat) : Int), .int .u32 ((sh : Nat) : Int), vb, vk, vc] 5), (b17, .cells true [.bool true] 1), (b13, .cells true [.int .i64 ((k + f : Nat) : Int)] 1), (b9, .cells true [vN] 1), (b5, .cells true [.string s] 1), (b1, .cells true [.int .u32 ((f : Nat) : Int), .int .u32 ((sh : Nat) : Int), vb, vk, vc] 5)]) rfl (fun H40 s41 => ⟨?_, ?_⟩)
          · exact trivial
          refine ⟨_, Wk.refl _ _, ?_⟩
          show awp _ _ _ _ _ _ _
          refine awp_ret_wk ?_
          refine ⟨_, Wk.refl _ _, ?_⟩
          repeat (with_reducible first | refine then_ret ?_ | refine blk_ret ?_ | refine then_exit ?_ | refine blk_exit ?_ | refine blk_exit' (by decide) ?_ | refine blk_normal ?_ | refine then_normal ?_ | refine retq_ret ?_ | refine retq_normal ?_ | refine ng_normal ?_ | refine ng_ret ?_ | refine ng_exit ?_)
          exact ⟨s41.getj (j := 0) rfl, (fun h => nomatch h), (fun _ => ⟨_, (s41.setAt (j := 0) rfl (lp27 .done (some .ret))), ⟨hx1, hx2, ⟨hx3, by omega, by assumption⟩, hq⟩⟩)⟩
        ·
          replace c2 := of_decide_eq_false c2
          refine dv (gyes_none rfl) (q_pt (v := .bool false) rfl rfl) rfl (by decide) (call_ok rfl) ?_
          refine ⟨_, Wk.refl _ _, ?_⟩
          show awp _ _ _ _ _ _ _
          refine awp_cond_f rfl ?_
          refine awp_skip_wk ?_
          refine ⟨_, Wk.refl _ _, ?_⟩
          repeat (with_reducible first | refine then_ret ?_ | refine blk_ret ?_ | refine then_exit ?_ | refine blk_exit ?_ | refine blk_exit' (by decide) ?_ | refine blk_normal ?_ | refine then_normal ?_ | refine retq_ret ?_ | refine retq_normal ?_ | refine ng_normal ?_ | refine ng_ret ?_ | refine ng_exit ?_)
          exact ⟨s37.getj (j := 0) rfl, (fun _ => ⟨(s37.setAt (j := 0) rfl (lp27 .ready none)), lt_casesN hq (fun h => by first | exact absurd h.2.1 (by omega) | exact absurd h.2.2 (by assumption))⟩), (fun h => nomatch h)⟩
      ·
        replace c1 := of_decide_eq_false c1
        refine dv (gyes_none rfl) (q_mv (v := .bool false) rfl) rfl (by decide) (cok1 trivial) ?_
        refine dno rfl (.inl rfl) rfl (by decide) ?_
        refine dno rfl (.inl rfl) rfl (by decide) ?_
        refine dno rfl (.inl rfl) rfl (by decide) ?_
        refine dno rfl (.inl rfl) rfl (by decide) ?_
        refine dno rfl (.inl rfl) rfl (by decide) ?_
        refine dno rfl (.inl rfl) rfl (by decide) ?_
        refine dv (gyes_none rfl) (q_pf (v := .bool false) rfl rfl) rfl (by decide) (call_ok rfl) ?_
        refine ⟨_, Wk.refl _ _, ?_⟩
        show awp _ _ _ _ _ _ _
        refine awp_cond_f rfl ?_
        refine awp_skip_wk ?_
        refine ⟨_, Wk.refl _ _, ?_⟩
        repeat (with_reducible first | refine then_ret ?_ | refine blk_ret ?_ | refine then_exit ?_ | refine blk_exit ?_ | refine blk_exit' (by decide) ?_ | refine blk_normal ?_ | refine then_normal ?_ | refine retq_ret ?_ | refine retq_normal ?_ | refine ng_normal ?_ | refine ng_ret ?_ | refine ng_exit ?_)
        exact ⟨s37.getj (j := 0) rfl, (fun _ => ⟨(s37.setAt (j := 0) rfl (lp27 .ready none)), lt_casesN hq (fun h => by first | exact absurd h.2.1 (by omega) | exact absurd h.2.2 (by assumption))⟩), (fun h => nomatch h)⟩
  case after =>
    rintro v H' ⟨rfl, hpost⟩
    rcases hpost with ⟨s42, hq⟩ | ⟨i_, hi1_, hi2_, ⟨r, s43, hr⟩⟩
    ·
      refine ⟨(by
          intro e he
          rcases List.mem_cons.1 he with rfl | he
          · exact s42.getj (j := 1) rfl
          · cases he), .inl ⟨s42.getj (j := 0) rfl, ?_⟩⟩
      have s44 := (s42.setAt (j := 0) rfl .none).forget 0
      refine ⟨_, Wk.refl _ _, ?_⟩
      show awp _ _ _ _ _ _ _
      refine awp_seq ?_
      refine awp_regs hF ?_
      refine x_store1 [] hF s44 (by kernel_rfl) (gyes_none rfl) (j := 4) (v := .int .i64 0) rfl Try.sizeOf3 rfl rfl rfl (lc_scalar rfl) (Nat.le_of_ble_eq_true rfl) trivial (cconst rfl) rfl rfl (F' := [(d28, .mark), (b21, .cells true [.string s] 1), (b22, .cells true [.int .u32 ((f : Nat) : Int), .int .u32 ((sh : Nat) : Int), vb, vk, vc] 5), (b17, .cells true [.bool false] 1), (b13, .cells true [.int .i64 0] 1), (b9, .cells true [vN] 1), (b5, .cells true [.string s] 1), (b1, .cells true [.int .u32 ((f : Nat) : Int), .int .u32 ((sh : Nat) : Int), vb, vk, vc] 5)]) rfl (fun H45 s46 => ⟨?_, ?_⟩)
      · exact trivial
      refine x_store1 [] hF s46 (by kernel_rfl) (gyes_none rfl) (j := 3) (v := .bool false) rfl Try.sizeOf4 rfl rfl rfl (lc_scalar rfl) (Nat.le_of_ble_eq_true rfl) trivial (cconst rfl) rfl rfl (F' := [(d28, .mark), (b21, .cells true [.string s] 1), (b22, .cells true [.int .u32 ((f : Nat) : Int), .int .u32 ((sh : Nat) : Int), vb, vk, vc] 5), (b17, .cells true [.bool false] 1), (b13, .cells true [.int .i64 0] 1), (b9, .cells true [vN] 1), (b5, .cells true [.string s] 1), (b1, .cells true [.int .u32 ((f : Nat) : Int), .int .u32 ((sh : Nat) : Int), vb, vk, vc] 5)]) rfl (fun H47 s48 => ⟨?_, ?_⟩)
      · exact trivial
      refine ⟨_, Wk.refl _ _, ?_⟩
      show awp _ _ _ _ _ _ _
      refine awp_ret_wk ?_
      refine ⟨_, Wk.refl _ _, ?_⟩
      repeat (with_reducible first | refine then_ret ?_ | refine blk_ret ?_ | refine then_exit ?_ | refine blk_exit ?_ | refine blk_exit' (by decide) ?_ | refine blk_normal ?_ | refine then_normal ?_ | refine retq_ret ?_ | refine retq_normal ?_ | refine ng_normal ?_ | refine ng_ret ?_ | refine ng_exit ?_)
      exact ret_noneD (v := .tuple #[.int .i64 0, .bool false]) rfl (s48.setAt (j := 0) rfl .none).kp (.cell rfl Try.isAgg3 ((s48.setAt (j := 0) rfl .none).rd (j := 4) rfl) rfl (.cell rfl Try.isAgg4 ((s48.setAt (j := 0) rfl .none).rd (j := 3) rfl) rfl .nil)) rfl rfl ⟨by rw [gF_no hq]; first | done | rfl, rfl⟩
    ·
      refine ⟨(by
          intro e he
          rcases List.mem_cons.1 he with rfl | he
          · exact s43.getj (j := 1) rfl
          · cases he), .inr ⟨_, s43.getj (j := 0) rfl, ?_⟩⟩
      have s49 := (s43.setAt (j := 0) rfl .none).forget 0
      refine awp_ret_wk ?_
      refine ⟨_, Wk.refl _ _, ?_⟩
      repeat (with_reducible first | refine then_ret ?_ | refine blk_ret ?_ | refine then_exit ?_ | refine blk_exit ?_ | refine blk_exit' (by decide) ?_ | refine blk_normal ?_ | refine then_normal ?_ | refine retq_ret ?_ | refine retq_normal ?_ | refine ng_normal ?_ | refine ng_ret ?_ | refine ng_exit ?_)
      exact ret_noneD (v := .tuple #[.int .i64 ((r + f : Nat) : Int), .bool true]) rfl (s49.setAt (j := 0) rfl .none).kp (.cell rfl Try.isAgg3 ((s49.setAt (j := 0) rfl .none).rd (j := 4) rfl) rfl (.cell rfl Try.isAgg4 ((s49.setAt (j := 0) rfl .none).rd (j := 3) rfl) rfl .nil)) rfl rfl ⟨by rw [gF_yes hr.1 hr.2.1 hr.2.2.1 hr.2.2.2]; first | done | rfl, rfl⟩

end Go.Proofs.YtponfeigjmjbmaaA


/-
  Walks of functions of the given program, and what they compute.
-/
namespace Go.Proofs.YtponfeigjmjbmaaA
set_option linter.unusedVariables false
open Go Go.RowKit Go.Shelf Go.Proofs
set_option maxRecDepth 100000 in
set_option maxHeartbeats 4000000 in
theorem speaks_ok {H0 : AHeap}  : ACalls Try.prog 7 [] H0 (Rets (.bool true) H0) := by
  have hF : Wd Fence.wide := .inl rfl
  have hM : Try.prog.follows .mixedOrders = true := by kernel_rfl
  have s0 := St.begin H0
  refine acalls_st Try.func7 rfl Try.ntmps7 rfl ?_
  refine awp_seq ?_
  refine awp_regs hF ?_
  refine dv (gyes_none rfl) (q_as (v := .bool false) rfl) rfl (by decide) (cok1 (cconst rfl)) ?_
  refine ⟨_, Wk.refl _ _, ?_⟩
  show awp _ _ _ _ _ _ _
  refine awp_seq ?_
  refine awp_regs hF ?_
  refine x_new (fun b => .slice (some ⟨b, 0, none⟩) 1 1) s0 (gyes_none rfl) (q_buildSliceL (ds := [.string (⟨#[97]⟩ : ByteArray)]) [.string (⟨#[97]⟩ : ByteArray)] rfl Try.underlying23 Try.sizeOf9 Try.zeroValue9 rfl (by decide) (by decide) ⟨rfl, trivial⟩ (lvsC (by exact trivial) lvs0) rfl rfl) rfl (by decide) (cok1 (cconst rfl)) (fun b1 H2 hb4 s3 => ?_)
  refine x_call [] hF (by kernel_rfl) (gyes_none rfl) Try.call9 rfl (args := [.slice (some ⟨b1, 0, none⟩) 1 1, .int .i64 1, .int .i64 1, .int .i64 1, .int .i64 5]) rfl (build_yes _ [(⟨#[97]⟩ : ByteArray)] (s3.slj (l := [(⟨#[97]⟩ : ByteArray)]) (f := strv) (j := 0) rfl rfl (Nat.le_refl _)) (by intro x hx; rw [List.mem_singleton.1 hx]; decide) (by decide) 1 1 1 5 (by decide) (by decide)) (show _ < _ by decide) (call_ok rfl) rfl rfl (fun _ _ _ _ hd => by cases hd) ?_
  rintro _ H8 ⟨b5, b6, b7, rfl, hn9⟩
  have s10 := s3.callL hn9
  refine ⟨trivial, ?_⟩
  show dList _ _ _ _ _ _ _ _ _ _
  refine dv (gyes_none rfl) (q_mv (v := .tuple #[.agg #[.int .u32 1, .int .u32 5, .slice (some ⟨b5, 0, none⟩) 1 1, .slice (some ⟨b6, 0, none⟩) 1 1, .slice (some ⟨b7, 0, none⟩) (([(⟨#[97]⟩ : ByteArray)]).length) (([(⟨#[97]⟩ : ByteArray)]).length)], .bool true]) rfl) rfl (by decide) (cok1 trivial) ?_
  refine dv (gyes_none rfl) (q_extract (v := .agg #[.int .u32 1, .int .u32 5, .slice (some ⟨b5, 0, none⟩) 1 1, .slice (some ⟨b6, 0, none⟩) 1 1, .slice (some ⟨b7, 0, none⟩) (([(⟨#[97]⟩ : ByteArray)]).length) (([(⟨#[97]⟩ : ByteArray)]).length)]) rfl rfl) rfl (by decide) (cok1 trivial) ?_
  refine dv (gyes_none rfl) (q_extract (v := .bool true) rfl rfl) rfl (by decide) (cok1 trivial) ?_
  refine x_new (fun b => .pointer (some ⟨b, 0, none⟩)) s10 (gyes_none rfl) (q_alloc (vs := [.int .u32 0, .int .u32 0, .slice none 0 0, .slice none 0 0, .slice none 0 0]) 5 Try.zeroValue31 (by first | exact flat_scalar rfl | exact flat_agg rfl) rfl) rfl (by decide) (by simp [Op.operands, Call.operands]) (fun b11 H12 hb14 s13 => ?_)
  refine x_store [] hF s13 (by kernel_rfl) (gyes_none rfl) (j := 0) (v := .agg #[.int .u32 1, .int .u32 5, .slice (some ⟨b5, 0, none⟩) 1 1, .slice (some ⟨b6, 0, none⟩) 1 1, .slice (some ⟨b7, 0, none⟩) (([(⟨#[97]⟩ : ByteArray)]).length) (([(⟨#[97]⟩ : ByteArray)]).length)]) rfl Try.sizeOf31 rfl rfl rfl rfl rfl trivial (lcsA ⟨(lc_scalar rfl), (lc_scalar rfl), (lc_slice (s13.live (j := 3) rfl)), (lc_slice (s13.live (j := 2) rfl)), (lc_slice (s13.live (j := 1) rfl)), trivial⟩) (Nat.le_of_ble_eq_true rfl) trivial trivial rfl rfl (F' := [(b11, .cells true [.int .u32 1, .int .u32 5, .slice (some ⟨b5, 0, none⟩) 1 1, .slice (some ⟨b6, 0, none⟩) 1 1, .slice (some ⟨b7, 0, none⟩) (([(⟨#[97]⟩ : ByteArray)]).length) (([(⟨#[97]⟩ : ByteArray)]).length)] 5), (b7, .cells true ((chN ([(⟨#[97]⟩ : ByteArray)]) 1 ([(⟨#[97]⟩ : ByteArray)]).length).map u32v) 1), (b6, .cells true ((bkN ([(⟨#[97]⟩ : ByteArray)]) 1 1 ([(⟨#[97]⟩ : ByteArray)]).length).map u32v) 1), (b5, .cells true ((blN ([(⟨#[97]⟩ : ByteArray)]) 1 5 ([(⟨#[97]⟩ : ByteArray)]).length).map u64v) 1), (b1, .cells true [.string (⟨#[97]⟩ : ByteArray)] 1)]) rfl (fun H15 s16 => ⟨?_, ?_⟩)
  · exact trivial
  refine dv (gyes_none rfl) (q_as (v := .bool true) rfl) rfl (by decide) (cok1 trivial) ?_
  refine ⟨_, Wk.refl _ _, ?_⟩
  show awp _ _ _ _ _ _ _
  refine awp_seq ?_
  refine awp_regs hF ?_
  refine dv (gyes_none rfl) (q_loadAgg Try.isAgg31 Try.sizeOf31 rfl (s16.rd (j := 0) rfl) (Nat.le_of_ble_eq_true rfl) rfl) rfl (by decide) (cok1 trivial) ?_
  refine x_new (fun b => .slice (some ⟨b, 0, none⟩) 2 2) s16 (gyes_none rfl) (q_buildSliceL (ds := [.string (⟨#[]⟩ : ByteArray), .string (⟨#[97]⟩ : ByteArray)]) [.string (⟨#[]⟩ : ByteArray), .string (⟨#[97]⟩ : ByteArray)] rfl Try.underlying23 Try.sizeOf9 Try.zeroValue9 rfl (by decide) (by decide) ⟨rfl, rfl, trivial⟩ (lvsC (by exact trivial) (lvsC (by exact trivial) lvs0)) rfl rfl) rfl (by decide) (cok2 (cconst rfl) (cconst rfl)) (fun b17 H18 hb20 s19 => ?_)
  refine dv (gyes_none rfl) (q_call0 Try.call21 rfl (ACalls.castV (v' := .tuple #[.int .i64 1, .bool true]) (find_ok 1 5 _ _ _ (blN ([(⟨#[97]⟩ : ByteArray)]) 1 5 ([(⟨#[97]⟩ : ByteArray)]).length) (bkN ([(⟨#[97]⟩ : ByteArray)]) 1 1 ([(⟨#[97]⟩ : ByteArray)]).length) (chN ([(⟨#[97]⟩ : ByteArray)]) 1 ([(⟨#[97]⟩ : ByteArray)]).length) (by first | omega | decide) (by rw [blN_len]; first | omega | decide) (by rw [bkN_len]; first | omega | decide) (by rw [chN_len]; first | omega | decide) (blN_w _) (fun x hx => Nat.lt_trans (bkN_w (by first | omega | decide) x hx) (by decide)) (chN_w _) (⟨#[97]⟩ : ByteArray) (by decide) (s19.slj (j := 4) rfl (by first | rfl | (simp; done) | omega | exact blN_len _ | exact bkN_len _ | exact chN_len _ | (rw [chN_len]; omega)) (by first | exact Nat.le_refl _ | omega)) (s19.slj (j := 3) rfl (by first | rfl | (simp; done) | omega | exact blN_len _ | exact bkN_len _ | exact chN_len _ | (rw [chN_len]; omega)) (by first | exact Nat.le_refl _ | omega)) (s19.slj (j := 2) rfl (by first | rfl | (simp; done) | omega | exact blN_len _ | exact bkN_len _ | exact chN_len _ | (rw [chN_len]; omega)) (by first | exact Nat.le_refl _ | omega)) _ ([(⟨#[]⟩ : ByteArray), (⟨#[97]⟩ : ByteArray)]) (s19.slj (l := [(⟨#[]⟩ : ByteArray), (⟨#[97]⟩ : ByteArray)]) (f := strv) (j := 0) rfl rfl (Nat.le_refl _)) (by first | omega | decide | (simp; omega))) (by rw [show gFV (blN ([(⟨#[97]⟩ : ByteArray)]) 1 5 ([(⟨#[97]⟩ : ByteArray)]).length) (bkN ([(⟨#[97]⟩ : ByteArray)]) 1 1 ([(⟨#[97]⟩ : ByteArray)]).length) (chN ([(⟨#[97]⟩ : ByteArray)]) 1 ([(⟨#[97]⟩ : ByteArray)]).length) 5 1 [(⟨#[]⟩ : ByteArray), (⟨#[97]⟩ : ByteArray)] ⟨#[97]⟩ = (1, true) by decide +kernel]; try rfl))) rfl (by decide) (call_ok rfl) ?_
  refine dv (gyes_none rfl) (q_mv (v := .tuple #[.int .i64 1, .bool true]) rfl) rfl (by decide) (cok1 trivial) ?_
  refine dv (gyes_none rfl) (q_extract (v := .int .i64 1) rfl rfl) rfl (by decide) (cok1 trivial) ?_
  refine dv (gyes_none rfl) (q_extract (v := .bool true) rfl rfl) rfl (by decide) (cok1 trivial) ?_
  refine dv (gyes_none rfl) (q_as (v := .int .i64 1) rfl) rfl (by decide) (cok1 trivial) ?_
  refine dv (gyes_none rfl) (q_as (v := .bool true) rfl) rfl (by decide) (cok1 trivial) ?_
  refine ⟨_, Wk.refl _ _, ?_⟩
  show awp _ _ _ _ _ _ _
  refine awp_seq ?_
  refine awp_regs hF ?_
  refine dv (gyes_none rfl) (q_call0 Try.call19 rfl (hash_ok (⟨#[97]⟩ : ByteArray) (by decide))) rfl (by decide) (cok2 trivial (cconst rfl)) ?_
  refine dv (gyes_none rfl) (OpQ.cast (v' := .bool true) (q_int rfl rfl rfl) (congrArg Value.bool (by rw [show gh (⟨#[97]⟩ : ByteArray) = 177670 by decide +kernel]; rfl))) rfl (by decide) (cok2 trivial (cconst rfl)) ?_
  refine dv (gyes_none rfl) (q_mv (v := .bool true) rfl) rfl (by decide) (cok1 trivial) ?_
  refine dv (gyes_some rfl rfl) (q_mv (v := .bool true) rfl) rfl (by decide) (cok1 trivial) ?_
  refine dv (gyes_none rfl) (q_pt (v := .bool true) rfl rfl) rfl (by decide) (call_ok rfl) ?_
  refine dv (gyes_none rfl) (q_mv (v := .bool true) rfl) rfl (by decide) (cok1 trivial) ?_
  refine dv (gyes_some rfl rfl) (q_mv (v := .bool true) rfl) rfl (by decide) (cok1 trivial) ?_
  refine dv (gyes_none rfl) (q_pt (v := .bool true) rfl rfl) rfl (by decide) (call_ok rfl) ?_
  refine dv (gyes_none rfl) (q_mv (v := .bool true) rfl) rfl (by decide) (cok1 trivial) ?_
  refine dv (gyes_some rfl rfl) (q_mv (v := .int .i64 1) rfl) rfl (by decide) (cok1 trivial) ?_
  refine dv (gyes_some rfl rfl) (OpQ.cast (v' := .bool true) (q_int rfl rfl rfl) (congrArg Value.bool (beq_self_eq_true _))) rfl (by decide) (cok2 trivial (cconst rfl)) ?_
  refine dv (gyes_none rfl) (q_pt (v := .bool true) rfl rfl) rfl (by decide) (call_ok rfl) ?_
  refine dv (gyes_none rfl) (q_mv (v := .bool true) rfl) rfl (by decide) (cok1 trivial) ?_
  refine dv (gyes_some rfl rfl) (q_loadAgg Try.isAgg31 Try.sizeOf31 rfl (s19.rd (j := 1) rfl) (Nat.le_of_ble_eq_true rfl) rfl) rfl (by decide) (cok1 trivial) ?_
  refine dv (gyes_some rfl rfl) (q_call0 Try.call18 rfl (symbols_ok 1 5 _ _ _ (blN ([(⟨#[97]⟩ : ByteArray)]) 1 5 ([(⟨#[97]⟩ : ByteArray)]).length) (bkN ([(⟨#[97]⟩ : ByteArray)]) 1 1 ([(⟨#[97]⟩ : ByteArray)]).length) (chN ([(⟨#[97]⟩ : ByteArray)]) 1 ([(⟨#[97]⟩ : ByteArray)]).length) (s19.slj (j := 4) rfl (by first | rfl | (simp; done) | omega | exact blN_len _ | exact bkN_len _ | exact chN_len _ | (rw [chN_len]; omega)) (by first | exact Nat.le_refl _ | omega)) (s19.slj (j := 3) rfl (by first | rfl | (simp; done) | omega | exact blN_len _ | exact bkN_len _ | exact chN_len _ | (rw [chN_len]; omega)) (by first | exact Nat.le_refl _ | omega)) (s19.slj (j := 2) rfl (by first | rfl | (simp; done) | omega | exact blN_len _ | exact bkN_len _ | exact chN_len _ | (rw [chN_len]; omega)) (by first | exact Nat.le_refl _ | omega)) (by decide) (by rw [chN_len]; decide))) rfl (by decide) (cok2 trivial trivial) ?_
  refine dv (gyes_some rfl rfl) (OpQ.cast (v' := .bool true) (q_int rfl rfl rfl) (congrArg Value.bool (by rw [chN_len]; rfl))) rfl (by decide) (cok2 trivial (cconst rfl)) ?_
  refine dv (gyes_none rfl) (q_pt (v := .bool true) rfl rfl) rfl (by decide) (call_ok rfl) ?_
  refine dv (gyes_none rfl) (q_mv (v := .bool true) rfl) rfl (by decide) (cok1 trivial) ?_
  refine dv (gyes_some rfl rfl) (q_loadAgg Try.isAgg31 Try.sizeOf31 rfl (s19.rd (j := 1) rfl) (Nat.le_of_ble_eq_true rfl) rfl) rfl (by decide) (cok1 trivial) ?_
  refine dv (gyes_some rfl rfl) (q_call0 Try.call12 rfl (ACalls.castV (v' := .bool true) (may_ok 1 5 _ _ _ (blN ([(⟨#[97]⟩ : ByteArray)]) 1 5 ([(⟨#[97]⟩ : ByteArray)]).length) (bkN ([(⟨#[97]⟩ : ByteArray)]) 1 1 ([(⟨#[97]⟩ : ByteArray)]).length) (chN ([(⟨#[97]⟩ : ByteArray)]) 1 ([(⟨#[97]⟩ : ByteArray)]).length) (s19.slj (j := 4) rfl (by first | rfl | (simp; done) | omega | exact blN_len _ | exact bkN_len _ | exact chN_len _ | (rw [chN_len]; omega)) (by first | exact Nat.le_refl _ | omega)) (s19.slj (j := 3) rfl (by first | rfl | (simp; done) | omega | exact blN_len _ | exact bkN_len _ | exact chN_len _ | (rw [chN_len]; omega)) (by first | exact Nat.le_refl _ | omega)) (s19.slj (j := 2) rfl (by first | rfl | (simp; done) | omega | exact blN_len _ | exact bkN_len _ | exact chN_len _ | (rw [chN_len]; omega)) (by first | exact Nat.le_refl _ | omega)) (⟨#[97]⟩ : ByteArray) (by decide) (by rw [blN_len]; first | omega | decide) (blN_w _)) (by rw [show mayV (blN ([(⟨#[97]⟩ : ByteArray)]) 1 5 ([(⟨#[97]⟩ : ByteArray)]).length) 5 (gh ⟨#[97]⟩) = true by decide +kernel]))) rfl (by decide) (call_ok rfl) ?_
  refine dv (gyes_none rfl) (q_pt (v := .bool true) rfl rfl) rfl (by decide) (call_ok rfl) ?_
  refine dv (gyes_none rfl) (q_as (v := .bool true) rfl) rfl (by decide) (cok1 trivial) ?_
  refine ⟨_, Wk.refl _ _, ?_⟩
  show awp _ _ _ _ _ _ _
  refine awp_ret_wk ?_
  refine ⟨_, Wk.refl _ _, ?_⟩
  repeat (with_reducible first | refine then_ret ?_ | refine blk_ret ?_ | refine then_exit ?_ | refine blk_exit ?_ | refine blk_exit' (by decide) ?_ | refine blk_normal ?_ | refine then_normal ?_ | refine retq_ret ?_ | refine retq_normal ?_ | refine ng_normal ?_ | refine ng_ret ?_ | refine ng_exit ?_)
  exact ret_none (v := .bool true) rfl s19.kp (.tmp rfl .nil) rfl rfl ⟨rfl, rfl⟩

end Go.Proofs.YtponfeigjmjbmaaA


/-
  From a law's arguments, slices among them, to abstract states.
-/
namespace Go.Proofs.YtponfeigjmjbmaaA
set_option linter.unusedVariables false
open Go Go.RowKit Go.Shelf
/-- The places of the arguments' blocks. -/
def rhoOf (ls : List (Option Loc)) : Ren := fun b => match ls[b]? with | some (some l) => .at l | _ => .none
/-- A block of an argument, or none. -/
def ArgO (W : World) (ol : Option Loc) (o : AObj) : Prop :=
  (ol = none ∧ o = .none) ∨ ∃ lc vs, ol = some lc ∧ o = .cells false vs 1 ∧ lc.blk < W.heap.size ∧ ∀ ρ, ORel ρ lc W (.cells false vs 1)
def ArgOs (W : World) : List (Option Loc) → AHeap → Prop
  | [], [] => True
  | ol :: ls, o :: H => ArgO W ol o ∧ ArgOs W ls H
  | _, _ => False
theorem ArgOs.at {W : World} : ∀ {ls : List (Option Loc)} {H : AHeap}, ArgOs W ls H → ∀ (b : Nat) (ol : Option Loc), ls[b]? = some ol → ∃ o : AObj, H[b]? = some o ∧ ArgO W ol o
  | [], [], _, b, ol, h => by simp at h
  | [], _ :: _, h, _, _, _ => h.elim
  | _ :: _, [], h, _, _, _ => h.elim
  | x :: ls, o :: H, ⟨h1, h2⟩, b, ol, h => by
    cases b with
    | zero => simp at h; subst h; exact ⟨o, by simp, h1⟩
    | succ b => simpa using ArgOs.at h2 b ol (by simpa using h)
theorem ArgOs.at' {W : World} : ∀ {ls : List (Option Loc)} {H : AHeap}, ArgOs W ls H → ∀ (b : Nat) (o : AObj), H[b]? = some o → ∃ ol : Option Loc, ls[b]? = some ol ∧ ArgO W ol o
  | [], [], _, b, o, h => by simp at h
  | [], _ :: _, h, _, _, _ => h.elim
  | _ :: _, [], h, _, _, _ => h.elim
  | x :: ls, o' :: H, ⟨h1, h2⟩, b, o, h => by
    cases b with
    | zero => simp at h; subst h; exact ⟨x, by simp, h1⟩
    | succ b => simpa using ArgOs.at' h2 b o (by simpa using h)
theorem ArgOs.len {W : World} : ∀ {ls : List (Option Loc)} {H : AHeap}, ArgOs W ls H → ls.length = H.length
  | [], [], _ => rfl
  | [], _ :: _, h => h.elim
  | _ :: _, [], h => h.elim
  | x :: ls, o' :: H, ⟨h1, h2⟩ => by simp [ArgOs.len h2]
/-- A slice that came as an argument: its block, its value. -/
structure SArg {α : Type} (f : α → Value) (w : World) (v : Value) (l : List α) (b : Nat) (ol : Option Loc) (o : AObj) (va : Value) : Prop where
  obj : ArgO w ol o
  val : ∀ ρ : Ren, (∀ lc, ol = some lc → ρ b = .at lc) → VRel ρ va v
  sl : ∀ H : AHeap, H[b]? = some o → Sl f H va l
end Go.Proofs.YtponfeigjmjbmaaA


/-
  Slices among a law's arguments, as the row's facts tell of them.
-/
namespace Go.Proofs.YtponfeigjmjbmaaA
set_option linter.unusedVariables false
open Go Go.RowKit Go.Shelf Go.ChangeShapes
/-- A slice that came in lies in a block of cells. -/
theorem arg_block {P : Program} {w : World} {b0 : Nat} {t e : TypeId} {x : Addr} {len cap : Nat} (ht : P.underlying t = some (.slice e)) (hval : Value.okWide P w .any b0 t (.slice (some x) len cap)) : x.spot = none ∧ ∃ cs T fr, w.heap[x.block]? = some (.cells cs T fr) := by
  simp only [Value.okWide, ht, Cell.okWide, Cell.ok] at hval
  obtain ⟨_, _, _, h2, row, cells, h3, _⟩ := hval
  refine ⟨h2, ?_⟩
  unfold World.shape? at h3
  split at h3
  · exact ⟨_, _, _, by assumption⟩
  · cases h3
theorem weightsAll_mem {H : Type} {P : Program} {e : TypeId} {n : Nat} : ∀ {ds : List (DataW H)} {d : DataW H}, d ∈ ds → n ∈ d.weights P e → n ∈ DataW.weightsAll P e ds
  | [], d, h, _ => by simp at h
  | d' :: ds, d, h, hn => by
    simp only [DataW.weightsAll, List.mem_append]
    rcases List.mem_cons.1 h with rfl | h
    · exact .inl hn
    · exact .inr (weightsAll_mem h hn)
def RowF {α : Type} (f : α → Value) (w : World) (a : Option Addr) (len cap : Nat) (zs : List α) : Prop :=
  (a = none ∧ len = 0 ∧ cap = 0) ∨ ∃ x, a = some x ∧ x.spot = none ∧ len ≤ cap ∧ zs.length = cap ∧ (∃ cs T fr, w.heap[x.block]? = some (.cells cs T fr)) ∧ ∀ i (h : i < zs.length), w.cell? (x.add i) = some (f zs[i])
theorem arg_strs {H : Type} {enc : TypeId × Value → H} {P : Program} {w : World} {base b0 : Nat} {t e : TypeId} {a : Option Addr} {len cap : Nat} {d : DataW H} {ps : List MemPlace} (ht : P.underlying t = some (.slice e)) (he : P.underlying e = some .string) (hc : P.cellsOf e = 1)
    (hby : 0 < P.bytesOf e) {ts : List TypeId} {ds : List (DataW H)} {j : Nat} (hsz : (DataW.weightsEach P ts ds).all (· ≤ reachBytes) = true) (hts : ts[j]? = some t) (hds : ds[j]? = some d)
    (hval : Value.okWide P w .any b0 t (.slice a len cap)) (h : DataW.Trod enc P w base (fun _ => true) true t (.slice a len cap) d ps) : ∃ zs : List ByteArray, RowF strv w a len cap zs ∧ (∀ s ∈ zs, s.size ≤ 140737488355328) ∧ zs.length ≤ 140737488355328 := by
  obtain ⟨fuel, hf⟩ := h
  rcases open_strings ht he hc hf with ⟨hcs, _⟩ | ⟨x, l, c, zs, hcs, _, hl, hm, hz, hd, hcell, hwz⟩
  · simp [Value.cells] at hcs
    obtain ⟨rfl, rfl, rfl⟩ := hcs
    exact ⟨[], .inl ⟨rfl, rfl, rfl⟩, by simp, by simp⟩
  · simp [Value.cells] at hcs
    obtain ⟨rfl, rfl, rfl⟩ := hcs
    obtain ⟨h1, h2⟩ := arg_block ht hval
    have hr : reachBytes ≤ 140737488355328 := by decide
    simp only [Prod.mk.injEq] at hd
    obtain ⟨rfl, _⟩ := hd
    refine ⟨zs, .inr ⟨x, rfl, h1, hl, by simpa using hz, h2, fun i hi => ?_⟩, fun s hs => ?_, ?_⟩
    · have := hcell i hi
      rw [this]
      simp [strv, List.getD_eq_getElem?_getD, hi]
    · have hm : s.size ∈ DataW.weightsEach P ts ds := by
        refine DataW.weights_mem_each hts hds _ ?_
        simp only [DataW.weights, ht, List.mem_cons, List.mem_append]
        have hs' : s ∈ zs.take len ∨ s ∈ zs.drop len := by rw [← List.mem_append, List.take_append_drop]; exact hs
        have key : ∀ l : List ByteArray, s ∈ l → s.size ∈ DataW.weightsAll P e (strs l : List (DataW H)) := fun l hl => by
          refine weightsAll_mem (d := .lit (.string s.data.toList)) ?_ (by simp [DataW.weights])
          unfold strs
          exact List.mem_map.2 ⟨s, hl, rfl⟩
        rcases hs' with h | h
        · exact .inr (.inl (key _ h))
        · exact .inr (.inr (key _ h))
      have := List.all_eq_true.1 hsz _ hm
      simp at this
      omega
    · have h3 := sized_slice hsz hts hds ht
      simp only [strs, List.length_map, List.length_take, List.length_drop] at h3
      have h4 := Nat.le_mul_of_pos_right (min len zs.length + (zs.length - len)) hby
      omega
end Go.Proofs.YtponfeigjmjbmaaA


/-
  A law's arguments, slices and slices of slices among them, as blocks.
-/
namespace Go.Proofs.YtponfeigjmjbmaaA
set_option linter.unusedVariables false
open Go Go.RowKit Go.Shelf Go.ChangeShapes
def rhoP (ls : List Plc) : Ren := fun b => ls.getD b .none
def AtOff (ρ : Ren) (off : Nat) (ls : List Plc) : Prop := ∀ (i : Nat) (p : Plc), ls[i]? = some p → ρ (off + i) = p
def InH (H : AHeap) (off : Nat) (L : AHeap) : Prop := ∀ (i : Nat) (o : AObj), L[i]? = some o → H[off + i]? = some o
theorem AtOff.app {ρ : Ren} {off : Nat} {a b : List Plc} (h : AtOff ρ off (a ++ b)) : AtOff ρ off a ∧ AtOff ρ (off + a.length) b := by
  refine ⟨fun i p hi => h i p ?_, fun i p hi => ?_⟩
  · rw [List.getElem?_append_left (List.getElem?_eq_some_iff.1 hi).1]; exact hi
  · have := h (a.length + i) p (by rw [List.getElem?_append_right (by omega)]; simpa using hi)
    rw [Nat.add_assoc]; exact this
theorem InH.app {H : AHeap} {off : Nat} {a b : AHeap} (h : InH H off (a ++ b)) : InH H off a ∧ InH H (off + a.length) b := by
  refine ⟨fun i p hi => h i p ?_, fun i p hi => ?_⟩
  · rw [List.getElem?_append_left (List.getElem?_eq_some_iff.1 hi).1]; exact hi
  · have := h (a.length + i) p (by rw [List.getElem?_append_right (by omega)]; simpa using hi)
    rw [Nat.add_assoc]; exact this
theorem InH.refl (H : AHeap) : InH H 0 H := fun i o h => by rw [Nat.zero_add]; exact h
def ArgP (ρ : Ren) (w : World) (p : Plc) (o : AObj) : Prop :=
  (p = .none ∧ o = .none) ∨ (p = .null ∧ o = .null) ∨ ∃ lc vs sz, p = .at lc ∧ o = .cells false vs sz ∧ lc.blk < w.heap.size ∧ ORel ρ lc w (.cells false vs sz)
structure PArg (w : World) (v : Value) (off : Nat) (ls : List Plc) (L : AHeap) (va : Value) : Prop where
  len : ls.length = L.length
  obj : ∀ ρ : Ren, AtOff ρ off ls → ∀ (i : Nat) (p : Plc), ls[i]? = some p → ∃ o : AObj, L[i]? = some o ∧ ArgP ρ w p o
  val : ∀ ρ, AtOff ρ off ls → VRel ρ va v
inductive PAll (w : World) : Nat → List Value → List Plc → AHeap → List Value → Prop
  | nil (off : Nat) : PAll w off [] [] [] []
  | cons {off : Nat} {v va : Value} {vs vas : List Value} {ls ls' : List Plc} {L L' : AHeap} (h : PArg w v off ls L va) (k : PAll w (off + ls.length) vs ls' L' vas) : PAll w off (v :: vs) (ls ++ ls') (L ++ L') (va :: vas)
theorem PArg.scalar {w : World} {v : Value} (off : Nat) (h : Scalar v = true) : PArg w v off [] [] v := ⟨rfl, fun ρ _ i p h => by simp at h, fun ρ _ => .scalar h ρ⟩
theorem PAll.sum {w : World} : ∀ {off : Nat} {vs vas : List Value} {ls : List Plc} {L : AHeap}, PAll w off vs ls L vas → ls.length = L.length ∧ (∀ ρ : Ren, AtOff ρ off ls → (∀ (i : Nat) (p : Plc), ls[i]? = some p → ∃ o : AObj, L[i]? = some o ∧ ArgP ρ w p o) ∧ LRel ρ vas vs) := by
  intro off vs vas ls L h
  induction h with
  | nil off => exact ⟨rfl, fun ρ _ => ⟨fun i p h => by simp at h, .nil ρ⟩⟩
  | @cons off v va vs vas ls ls' L L' h k ih =>
    refine ⟨by rw [List.length_append, List.length_append, h.len, ih.1], fun ρ hρ => ?_⟩
    obtain ⟨h1, h2⟩ := hρ.app
    obtain ⟨h3, h4⟩ := ih.2 ρ h2
    refine ⟨fun i p hi => ?_, .cons (h.val ρ h1) h4⟩
    by_cases e : i < ls.length
    · rw [List.getElem?_append_left e] at hi
      obtain ⟨o, k1, k2⟩ := h.obj ρ h1 i p hi
      exact ⟨o, by rw [List.getElem?_append_left (by rw [← h.len]; exact e)]; exact k1, k2⟩
    · rw [List.getElem?_append_right (by omega)] at hi
      obtain ⟨o, k1, k2⟩ := h3 _ p hi
      exact ⟨o, by rw [List.getElem?_append_right (by rw [← h.len]; omega), ← h.len]; exact k1, k2⟩
theorem world_of_acallsP {P : Program} {f : FuncId} {args : List Value} {args' : Array Value} {H : AHeap} {ls : List Plc} {v : Value} {w : World} (hA : PAll w 0 args'.toList ls H args) (hv : Scalar v = true) (h : ACalls P f args H (Rets v H)) :
    Calls P f args' w fun e w' => e = .returned v ∧ Below w.heap.size w w' := by
  obtain ⟨hlen, hs⟩ := hA.sum
  have hat : AtOff (rhoP ls) 0 ls := fun i p hi => by
    rw [Nat.zero_add]; unfold rhoP; rw [List.getD_eq_getElem?_getD, hi]; rfl
  obtain ⟨hob, hval⟩ := hs _ hat
  have hrev : ∀ (b : Nat) (o : AObj), H[b]? = some o → ∃ p, ls[b]? = some p ∧ ArgP (rhoP ls) w p o := fun b o hb => by
    have hbl := (List.getElem?_eq_some_iff.1 hb).1
    obtain ⟨o', h1, h2⟩ := hob b _ (List.getElem?_eq_getElem (by rw [hlen]; exact hbl))
    rw [hb] at h1; cases h1
    exact ⟨_, List.getElem?_eq_getElem (by rw [hlen]; exact hbl), h2⟩
  have hget : ∀ b p, rhoP ls b = p → p ≠ .none → ls[b]? = some p := fun b p hb hn => by
    unfold rhoP at hb
    rw [List.getD_eq_getElem?_getD] at hb
    cases e : ls[b]? with
    | none => rw [e] at hb; exact absurd hb.symm hn
    | some q => rw [e] at hb; exact congrArg some hb
  have hnw : ∀ b l, rhoP ls b = .at l → ¬ wr H b := fun b l hb ⟨o, h1, h2⟩ => by
    obtain ⟨o', h3, h4⟩ := hob b _ (hget b _ hb (by simp))
    rw [h1] at h3; cases h3
    rcases h4 with ⟨h3, _⟩ | ⟨h3, _⟩ | ⟨lc, vs, sz, h3, rfl, _⟩
    · cases h3
    · cases h3
    · cases h2
  have hh : HRel (rhoP ls) H w := by
    refine ⟨fun b hb => ?_, fun b l hb => ?_, fun b c l m _ hb _ hw => absurd hw (hnw b l hb), fun g vs sz hg => ?_, fun b hb => ?_⟩
    · unfold rhoP
      rw [List.getD_eq_getElem?_getD, List.getElem?_eq_none (by rw [hlen]; exact hb)]; rfl
    · obtain ⟨o, h1, h2⟩ := hob b _ (hget b _ hb (by simp))
      rcases h2 with ⟨h3, _⟩ | ⟨h3, _⟩ | ⟨lc, vs, sz, h3, rfl, h4, h5⟩
      · cases h3
      · cases h3
      · cases h3; exact ⟨_, h1, h4, h5⟩
    · obtain ⟨p, _, h3⟩ := hrev g _ hg
      rcases h3 with ⟨_, h3⟩ | ⟨_, h3⟩ | ⟨lc, vs, sz, _, h3, _⟩ <;> cases h3
    · obtain ⟨o, h1, h2⟩ := hob b _ (hget b _ hb (by simp))
      rcases h2 with ⟨h3, _⟩ | ⟨h3, _⟩ | ⟨lc, vs, sz, h3, _⟩ <;> cases h3
  refine (h _ w args' hh hval).mono ?_
  rintro e w' ⟨v1, v', H', ρ', rfl, ⟨rfl, rfl⟩, k1, k2, k3, k4⟩
  rw [k1.scalar_eq hv]
  exact ⟨rfl, k3.os, k3.tape, k3.output, k3.size, fun k hk => k3.keep k hk fun ⟨b, l, hb, _, hw⟩ => hnw b l hb hw⟩
/-! ### Slices that came in -/
/-- A slice in the world: its elements, of one cell each. -/
def SlC {α : Type} (f : α → Value) (w : World) (u : Value) (r : List α) : Prop :=
  (u = .slice none 0 0 ∧ r = []) ∨ ∃ x l c, u = .slice (some x) l c ∧ l ≤ c ∧ r.length = l ∧ (c = 0 ∨ (x.spot = none ∧ ∃ cs T fr, w.heap[x.block]? = some (.cells cs T fr) ∧ x.off + c ≤ cs.size ∧ ∀ i (h : i < r.length), cs[x.off + i]? = some (f r[i])))
theorem AtOff.one {ρ : Ren} {off : Nat} {p : Plc} (h : AtOff ρ off [p]) : ρ off = p := h 0 p rfl
theorem parg_one {w : World} {v va : Value} {off : Nat} {p : Plc} {o : AObj} (h1 : ∀ ρ, ρ off = p → ArgP ρ w p o) (h2 : ∀ ρ, ρ off = p → VRel ρ va v) : PArg w v off [p] [o] va :=
  ⟨rfl, fun ρ hρ i q hi => by
    cases i with
    | zero => simp at hi; subst hi; exact ⟨o, rfl, h1 ρ hρ.one⟩
    | succ i => simp at hi, fun ρ hρ => h2 ρ hρ.one⟩
theorem parg_row {α : Type} {f : α → Value} (hf : ∀ x, Scalar (f x) = true) {w : World} {u : Value} {r : List α} (h : SlC f w u r) (off : Nat) : ∃ p o va, PArg w u off [p] [o] va ∧ ∀ H, InH H off [o] → Sl f H va r := by
  rcases h with ⟨rfl, rfl⟩ | ⟨x, l, c, rfl, hl, hr, h⟩
  · exact ⟨.none, .none, .slice none 0 0, parg_one (fun ρ _ => .inl ⟨rfl, rfl⟩) (fun ρ _ => .nilSlice), fun H _ => .nil⟩
  · by_cases h0 : c = 0
    · subst h0
      obtain rfl : l = 0 := by omega
      obtain rfl : r = [] := List.length_eq_zero_iff.1 hr
      exact ⟨.null, .null, .slice (some ⟨off, 0, none⟩) 0 0, parg_one (fun ρ _ => .inr (.inl ⟨rfl, rfl⟩)) (fun ρ h => .empty h), fun H hH => .inr ⟨off, 0, 0, [], rfl, .inr (.inr (.inl ⟨hH 0 _ rfl, rfl⟩)), by simp, by simp, fun i h => by simp at h⟩⟩
    · obtain ⟨hsp, cs, T, fr, hb, hsz, hc⟩ := h.resolve_left h0
      have hlt : x.block < w.heap.size := (Array.getElem?_eq_some_iff.1 hb).1
      have hx : x = ⟨x.block, x.off, none⟩ := by cases x; simp at hsp; subst hsp; rfl
      refine ⟨.at ⟨x.block, x.off, x.off + c, 1⟩, .cells false (r.map f) 1, .slice (some ⟨off, 0, none⟩) l c, parg_one (fun ρ hρ => .inr (.inr ⟨_, _, _, rfl, rfl, hlt, rfl, cs, T, fr, hb, by simp; omega, hsz, fun i hi => ?_, fun h => by cases h⟩)) (fun ρ hρ => ?_), fun H hH => ?_⟩
      · have hi' : i < r.length := by simpa using hi
        have h1 := hc i hi'
        have e1 : (r.map f).getD i undef = f r[i] := by simp [hi']
        have e2 : cs.getD (x.off + i) undef = f r[i] := by rw [Array.getD_eq_getD_getElem?, h1]; rfl
        rw [e1]
        show VRel ρ (f r[i]) (cs.getD (x.off + i) undef)
        rw [e2]
        exact .scalar (hf _) ρ
      · rw [hx]
        exact .slice hρ hl (Nat.le_refl _) (.inl rfl) (by simp)
      · exact .inr ⟨off, 0, c, r.map f, by rw [hr], .inl ⟨false, hH 0 _ rfl⟩, by simp, by omega, fun i h => by simp [h]⟩
/-- A slice of slices. -/
structure Sl2C {α : Type} (f : α → Value) (w : World) (u : Value) (us : List Value) (rs : List (List α)) : Prop where
  out : SlC (fun v : Value => v) w u us
  len : us.length = rs.length
  row : ∀ i (h : i < us.length), SlC f w us[i] (nth rs i)
/-! ### From the row's facts -/
theorem addr_at {x : Addr} (hsp : x.spot = none) (i : Nat) : x.add i = ⟨x.block, x.off + i, none⟩ := by
  have hx : x = ⟨x.block, x.off, none⟩ := by cases x; simp at hsp; subst hsp; rfl
  rw [hx]
  unfold Addr.add
  split
  · subst i; rfl
  · rfl
theorem cell_some {w : World} {a : Addr} {v : Value} (h : w.cell? a = some v) : a.spot = none ∧ ∃ cs T fr, w.heap[a.block]? = some (.cells cs T fr) ∧ cs[a.off]? = some v := by
  unfold World.cell? at h
  split at h
  · rename_i c T fr hb
    split at h
    · cases h
    · rename_i hs
      exact ⟨by simpa using hs, c, T, fr, hb, h⟩
  · cases h
theorem slc_of {α : Type} {f : α → Value} {w : World} {x : Addr} {l c : Nat} {r : List α} (hl : l ≤ c) (hr : r.length = l) (hc : ∀ i, i < c → ∃ v, w.cell? (x.add i) = some v) (hv : ∀ i (h : i < r.length), w.cell? (x.add i) = some (f r[i])) : SlC f w (.slice (some x) l c) r := by
  refine .inr ⟨x, l, c, rfl, hl, hr, ?_⟩
  by_cases h0 : c = 0
  · exact .inl h0
  · right
    obtain ⟨v0, h1⟩ := hc 0 (by omega)
    have e0 : x.add 0 = x := by unfold Addr.add; rw [if_pos rfl]
    rw [e0] at h1
    obtain ⟨hsp, cs, T, fr, hb, _⟩ := cell_some h1
    have at' : ∀ i v, w.cell? (x.add i) = some v → cs[x.off + i]? = some v := fun i v h => by
      rw [addr_at hsp] at h
      obtain ⟨_, cs', T', fr', hb', h2⟩ := cell_some h
      simp only at hb' h2
      rw [hb] at hb'; cases hb'
      exact h2
    refine ⟨hsp, cs, T, fr, hb, ?_, fun i h => at' i _ (hv i h)⟩
    obtain ⟨v, h2⟩ := hc (c - 1) (by omega)
    have := (Array.getElem?_eq_some_iff.1 (at' _ _ h2)).1
    omega
/-! ### Arrays that came in -/
theorem okWide_array {P : Program} {w : World} {r : Reach} {base : Nat} {t e : TypeId} {n : Nat} {v : Value} (ht : P.underlying t = some (.array n e)) (h : Value.okWide P w r base t v) : ∃ cs, v = .agg cs ∧ cs.size = P.cellsOf t := by
  simp only [Value.okWide, ht] at h
  obtain ⟨cs, h1, h2, _⟩ := h
  exact ⟨cs, h1, h2⟩
end Go.Proofs.YtponfeigjmjbmaaA


/-
  An element of an array's value.
-/
namespace Go.Proofs.YtponfeigjmjbmaaA
set_option linter.unusedVariables false
open Go Go.RowKit Go.Shelf
section
variable {P : Program} {T : Nat → Value} {H : AHeap} {dst : Option Tmp} {ty : TypeId} {pos : String} {af : Array Edge} {g : Option (Nat × Bool)}
end
/-- Nil within a value. -/
theorem PS.agg {N : Nat} {vs2 vs : Array Value} (h : vs2.size = vs.size) (hi : ∀ i, i < vs2.size → PS N (vs2.getD i undef) (vs.getD i undef)) : PS N (.agg vs2) (.agg vs) := fun ρ v' hn hv => by
  obtain ⟨vs', rfl, h3, h4⟩ := vrel_agg hv
  exact .agg (h.trans h3) fun i hi' => hi i hi' ρ _ hn (h4 i (h ▸ hi'))
end Go.Proofs.YtponfeigjmjbmaaA


/-
  A law's arguments: slices whose elements are structs or arrays, and arrays of numbers.
-/
namespace Go.Proofs.YtponfeigjmjbmaaA
set_option linter.unusedVariables false
open Go Go.RowKit Go.Shelf Go.ChangeShapes Go.WideShapes
section
variable {α : Type} [Inhabited α] {f : α → List Value} {m : Nat}
def SlCm (f : α → List Value) (m : Nat) (w : World) (u : Value) (r : List α) : Prop :=
  (u = .slice none 0 0 ∧ r = []) ∨ ∃ x l c, u = .slice (some x) l c ∧ l ≤ c ∧ r.length = l ∧ (c = 0 ∨ (x.spot = none ∧ ∃ cs T fr, w.heap[x.block]? = some (.cells cs T fr) ∧ x.off + c * m ≤ cs.size ∧ ∀ i (h : i < r.length), ∀ j, j < m → cs[x.off + i * m + j]? = (f (nth r i))[j]?))
def ElemOk (P : Program) (e : TypeId) (f : α → List Value) (ok : α → Prop) : Prop := ∀ (H : Type) (enc : TypeId × Value → H) (w : World) (base fuel : Nat) (cs : List Value) (x : DataW H × List MemPlace), DataW.trod enc P w base (fun _ => true) true fuel e cs = some x → ∃ a, cs = f a ∧ ok a
end
section
variable {H : Type} {enc : TypeId × Value → H} {P : Program} {w : World} {base fuel : Nat} {t e : TypeId} {cs : List Value} {x : DataW H × List MemPlace}
theorem take1 {o : Nat} {v : Value} (h : (cs.drop o).take 1 = [v]) : cs[o]? = some v := by
  have h1 : ((cs.drop o).take 1)[0]? = some v := by rw [h]; rfl
  rw [List.getElem?_take, if_pos (by decide), List.getElem?_drop] at h1
  exact h1
theorem bnd_i64 {n : Int} (hw : (Lit.int .i64 n).wf = true) : -9223372036854775808 ≤ n ∧ n ≤ 9223372036854775807 := by
  simp [Lit.wf, IntKind.min, IntKind.max, IntKind.signed, IntKind.bits] at hw
  omega
end
theorem arr_three {cs : Array Value} (h : cs.size = 3) : ∃ a b c, cs = #[a, b, c] := by
  obtain ⟨l⟩ := cs
  match l, h with
  | [a, b, c], _ => exact ⟨a, b, c, rfl⟩
theorem parg_sc {w : World} {vs : List Value} (h : ∀ v ∈ vs, Scalar v = true) (off : Nat) : PArg w (.agg vs.toArray) off [] [] (.agg vs.toArray) := by
  refine ⟨rfl, fun ρ _ i p h => by simp at h, fun ρ _ => .agg rfl fun i hi => ?_⟩
  have hi' : i < vs.length := by simpa using hi
  have : (vs.toArray.getD i undef) = vs[i] := by rw [Array.getD_eq_getD_getElem?]; simp [hi']
  rw [this]
  exact .scalar (h _ (List.getElem_mem hi')) ρ
end Go.Proofs.YtponfeigjmjbmaaA


/-
  A law's arguments: arrays of whole numbers of a sign.
-/
namespace Go.Proofs.YtponfeigjmjbmaaA
set_option linter.unusedVariables false
open Go Go.RowKit Go.Proofs
section
variable {P : Program} {e : TypeId} {H : Type} {enc : TypeId × Value → H} {w : World} {base fuel : Nat} {cs : List Value} {x : DataW H × List MemPlace}
theorem arr_i64 {n : Nat} {el : TypeId} (hs : P.underlying e = some (.array n el)) (hc : P.cellsOf el = 1) (hu : P.underlying el = some (.int .i64)) (h : DataW.trod enc P w base (fun _ => true) true fuel e cs = some x) {i : Nat} (hi : i < n) : ∃ k : Int, cs[i]? = some (.int .i64 k) ∧ -9223372036854775808 ≤ k ∧ k ≤ 9223372036854775807 := by
  obtain ⟨xs, m, _, _, _, hl, hx⟩ := DataW.trod_array hs h
  have h1 := hx i hi
  rw [hc, Nat.mul_one, List.getElem?_eq_getElem (by omega)] at h1
  obtain ⟨z, e1, _, hw⟩ := DataW.trod_int hu h1
  exact ⟨z, take1 e1, bnd_i64 hw⟩
end
theorem slc_of_rowf {α : Type} {f : α → Value} {w : World} {a : Option Addr} {len cap : Nat} {zs : List α} (h : RowF f w a len cap zs) : SlC f w (.slice a len cap) (zs.take len) := by
  rcases h with ⟨rfl, rfl, rfl⟩ | ⟨x, rfl, hsp, hl, hz, hb, hc⟩
  · exact .inl ⟨rfl, by simp⟩
  · refine slc_of hl (by rw [List.length_take]; omega) (fun i hi => ⟨_, hc i (by omega)⟩) (fun i hi => ?_)
    rw [List.length_take] at hi
    rw [hc i (by omega), List.getElem_take]
end Go.Proofs.YtponfeigjmjbmaaA


/-
  Walks of functions of the given program, and what they compute.
-/
namespace Go.Proofs.YtponfeigjmjbmaaA
set_option linter.unusedVariables false
open Go Go.RowKit Go.Shelf Go.Proofs
theorem or_has {a b c : Nat} (h : a &&& b = b) : (a ||| c) &&& b = b := by
  refine Nat.eq_of_testBit_eq fun i => ?_
  have h1 := congrArg (fun x => x.testBit i) h
  simp only [Nat.testBit_and, Nat.testBit_or] at h1 ⊢
  cases ha : a.testBit i <;> cases hb : b.testBit i <;> simp_all
theorem or_own (a b : Nat) : (a ||| b) &&& b = b := by
  refine Nat.eq_of_testBit_eq fun i => ?_
  simp only [Nat.testBit_and, Nat.testBit_or]
  cases a.testBit i <;> cases b.testBit i <;> rfl
theorem bl_has {names : List ByteArray} {nw sh : Nat} (hw : 0 < nw) : ∀ i j, j < i → nth (blN names nw sh i) (gh (nth names j) / 64 % nw) &&& bitV (gh (nth names j)) sh = bitV (gh (nth names j)) sh
  | 0, j, h => absurd h (Nat.not_lt_zero _)
  | i + 1, j, h => by
    have hl := blN_len (names := names) (nw := nw) (sh := sh) i
    have hm := Nat.mod_lt (gh (nth names i) / 64) hw
    rw [blN, nth_setN]
    by_cases e : gh (nth names i) / 64 % nw = gh (nth names j) / 64 % nw
    · rw [if_pos ⟨e, by rw [hl, ← e]; exact hm⟩]
      by_cases ej : j = i
      · subst ej; exact or_own _ _
      · rw [e]; exact or_has (bl_has hw i j (by omega))
    · rw [if_neg (fun q => e q.1)]
      by_cases ej : j = i
      · subst ej; exact absurd rfl e
      · exact bl_has hw i j (by omega)
theorem may_in {names : List ByteArray} {nw sh j : Nat} (hw : 0 < nw) (hj : j < names.length) : mayV (blN names nw sh names.length) sh (gh (nth names j)) = true := by
  have hl := blN_len (names := names) (nw := nw) (sh := sh) names.length
  unfold mayV
  rw [if_neg (by omega), hl]
  exact decide_eq_true (bl_has hw names.length j hj)
theorem gE_no {lb lk lc : List Nat} {sh f h : Nat} (hm : mayV lb sh h = false) : gE lb lk lc sh f h = gS lk f h := by
  unfold gE
  rw [if_neg (fun q => by have q1 := q.1; rw [hm] at q1; exact nomatch q1)]
/-- The names in order. -/
def srtL (nm : List ByteArray) (l : List Nat) : List ByteArray := l.map fun x => nth nm x
theorem srtL_nth {nm : List ByteArray} {l : List Nat} {i : Nat} (h : i < l.length) : nth (srtL nm l) i = nth nm (nth l i) := by
  rw [nth_eq (by rw [srtL, List.length_map]; exact h), nth_eq h]
  simp [srtL]
theorem srtL_snoc {nm : List ByteArray} {l : List Nat} {i : Nat} (h : i < l.length) : srtL nm (l.take i) ++ [nth nm (nth l i)] = srtL nm (l.take (i + 1)) := by
  rw [List.take_succ_eq_append_getElem h, srtL, srtL, List.map_append, nth_eq h]; rfl
theorem srtL_key {nm : List ByteArray} {l : List Nat} {nb q : Nat} (h : q < l.length) : gkey (srtL nm l) nb q = gkey nm nb (nth l q) := by unfold gkey; rw [srtL_nth h]
theorem srtL_sorted {nm : List ByteArray} {l : List Nat} {nb : Nat} (h : OrdL (gkey nm nb) l nm.length) : sortedK (srtL nm l) nb = true := by
  have hl := h.len
  refine sortedK_iff.2 fun q hq => ?_
  have hq' : q + 1 < l.length := by rw [srtL, List.length_map] at hq; exact hq
  rw [srtL_key (by omega), srtL_key hq']
  exact (h.srt q (q + 1) (Nat.zero_le _) (Nat.lt_succ_self _) (by omega)).le
theorem srtL_mem {nm : List ByteArray} {l : List Nat} (h : ∀ x ∈ l, x < nm.length) : ∀ s ∈ srtL nm l, s ∈ nm := fun s hs => by
  obtain ⟨x, hx, rfl⟩ := List.mem_map.1 hs
  exact nthS_mem (h x hx)
theorem srtL_has {nm : List ByteArray} {l : List Nat} {i : Nat} (h : l.Perm (List.range nm.length)) (hi : i < nm.length) : ∃ j, j < (srtL nm l).length ∧ nth (srtL nm l) j = nth nm i := by
  have hm : i ∈ l := h.mem_iff.2 (List.mem_range.2 hi)
  obtain ⟨j, hj, e⟩ := List.getElem_of_mem hm
  exact ⟨j, by rw [srtL, List.length_map]; exact hj, by rw [srtL_nth hj, nth_eq hj, e]⟩
theorem walkE_ok {H0 : AHeap} (f sh : Nat) (vb vk vc : Value) (lb lk lc : List Nat) (hb : Sl u64v H0 vb lb) (hk : Sl u32v H0 vk lk) (hc : Sl u32v H0 vc lc) (s : ByteArray) : ACalls Try.prog 13 [.agg #[.int .u32 ((f : Nat) : Int), .int .u32 ((sh : Nat) : Int), vb, vk, vc], .string s] H0 (Rets (.func (.func 27) #[] #[.pointer (some ⟨H0.length, 0, none⟩), .pointer (some ⟨H0.length + 1, 0, none⟩)]) (H0 ++ [.cells true [.int .u32 ((f : Nat) : Int), .int .u32 ((sh : Nat) : Int), vb, vk, vc] 5, .cells true [.string s] 1])) :=
  acalls_new2 (V := fun b c => .func (.func 27) #[] #[.pointer (some ⟨b, 0, none⟩), .pointer (some ⟨c, 0, none⟩)]) (fun b c => vsub_fn2 keep2_0 keep2_1) (fun b c => .cells ⟨.scalar rfl, .scalar rfl, hb.vsubG (fun _ h => keep2_lt h), hk.vsubG (fun _ h => keep2_lt h), hc.vsubG (fun _ h => keep2_lt h), trivial⟩) (fun b c => .cells ⟨.scalar rfl, trivial⟩) (by simp) (by simp) (walk_ok f sh vb vk vc lb lk lc hb hk hc s)
set_option maxRecDepth 100000 in
set_option maxHeartbeats 4000000 in
theorem fclos_ok {H0 : AHeap} (x n bq : Nat) (hn : n ≤ 1000000) (hq : H0[bq]? = some (.cells true [.int .i64 ((n : Nat) : Int)] 1)) : ACalls Try.prog 14 [.int .i64 ((x : Nat) : Int), .pointer (some ⟨bq, 0, none⟩)] H0 (fun v H' => v = .bool true ∧ Kp (· ∈ [bq]) H0 H' ∧ H'[bq]? = some (.cells true [.int .i64 ((n + 1 : Nat) : Int)] 1)) := by
  have hF : Wd Fence.wide := .inl rfl
  have hM : Try.prog.follows .mixedOrders = true := by kernel_rfl
  have s0 : St H0 (· ∈ [bq]) (Off H0 [bq]) H0 [(bq, .cells true [.int .i64 ((n : Nat) : Int)] 1)] := St.beginL [(bq, .cells true [.int .i64 ((n : Nat) : Int)] 1)] (by simp) (allAt_mem ⟨hq, trivial⟩)
  refine acalls_st Try.func14 rfl Try.ntmps14 rfl ?_
  refine awp_seq ?_
  refine awp_regs hF ?_
  refine dv (gyes_none rfl) (q_as (v := .bool false) rfl) rfl (by decide) (cok1 (cconst rfl)) ?_
  refine ⟨_, Wk.refl _ _, ?_⟩
  show awp _ _ _ _ _ _ _
  refine awp_seq ?_
  refine awp_regs hF ?_
  refine dv (gyes_none rfl) (q_load (v := .int .i64 ((n : Nat) : Int)) Try.isAgg3 rfl (s0.rd (j := 0) rfl) rfl) rfl (by decide) (cok1 trivial) ?_
  refine dv (gyes_none rfl) (OpQ.cast (v' := .int .i64 ((n + 1 : Nat) : Int)) (q_int rfl rfl rfl) (congrArg _ ((i64_in (by omega)).trans (by first | rfl | omega | (push_cast; rfl))))) rfl (by decide) (cok2 trivial (cconst rfl)) ?_
  refine x_store1 [] hF s0 (by kernel_rfl) (gyes_none rfl) (j := 0) (v := .int .i64 ((n + 1 : Nat) : Int)) rfl Try.sizeOf3 rfl rfl rfl (lc_scalar rfl) (Nat.le_of_ble_eq_true rfl) trivial trivial rfl rfl (F' := [(bq, .cells true [.int .i64 ((n + 1 : Nat) : Int)] 1)]) rfl (fun H1 s2 => ⟨?_, ?_⟩)
  · exact trivial
  refine ⟨_, Wk.refl _ _, ?_⟩
  show awp _ _ _ _ _ _ _
  refine awp_seq ?_
  refine awp_regs hF ?_
  refine dv (gyes_none rfl) (q_as (v := .bool true) rfl) rfl (by decide) (cok1 (cconst rfl)) ?_
  refine ⟨_, Wk.refl _ _, ?_⟩
  show awp _ _ _ _ _ _ _
  refine awp_ret_wk ?_
  refine ⟨_, Wk.refl _ _, ?_⟩
  repeat (with_reducible first | refine then_ret ?_ | refine blk_ret ?_ | refine then_exit ?_ | refine blk_exit ?_ | refine blk_exit' (by decide) ?_ | refine blk_normal ?_ | refine then_normal ?_ | refine retq_ret ?_ | refine retq_normal ?_ | refine ng_normal ?_ | refine ng_ret ?_ | refine ng_exit ?_)
  refine ret_is (v := .bool true) rfl (.tmp rfl .nil) rfl ?_
  exact ⟨rfl, s2.kp, s2.getj (j := 0) rfl⟩
theorem frun_ok {H0 : AHeap} (f sh : Nat) (vb vk vc : Value) (lb lk lc : List Nat) (hfl : f < 4294967296) (hl1 : lb.length < 4294967296) (hl2 : lk.length < 4294967296) (hl3 : lc.length ≤ 1000000) (hw : ∀ x ∈ lb, x < 18446744073709551616) (hkw : ∀ x ∈ lk, x < 4294967296) (hcw : ∀ x ∈ lc, x < 4294967296) (s : ByteArray) (hs : s.size ≤ 140737488355328) (hB : Sl u64v H0 vb lb) (hK : Sl u32v H0 vk lk) (hC : Sl u32v H0 vc lc) (bt bs bq : Nat) (h1 : Rd H0 bt [.int .u32 ((f : Nat) : Int), .int .u32 ((sh : Nat) : Int), vb, vk, vc] 5) (h2 : Rd H0 bs [.string s] 1) (e1 : bt ∉ [bq]) (e2 : bs ∉ [bq]) (hVB : SlZ u64v (Off H0 [bq]) vb lb) (hVK : SlZ u32v (Off H0 [bq]) vk lk) (hVC : SlZ u32v (Off H0 [bq]) vc lc) (hq : H0[bq]? = some (.cells true [.int .i64 0] 1)) :
    ACalls Try.prog 27 [.func (.func 14) #[] #[.pointer (some ⟨bq, 0, none⟩)], .pointer (some ⟨bt, 0, none⟩), .pointer (some ⟨bs, 0, none⟩)] H0 (fun v H' => v = .tuple #[] ∧ Kp (· ∈ [bq]) H0 H' ∧ ∃ n, n + gS lk f (gh s) ≤ gE lb lk lc sh f (gh s) ∧ H'[bq]? = some (.cells true [.int .i64 ((n : Nat) : Int)] 1)) := by
  refine (walk1_all f sh vb vk vc lb lk lc hfl hl1 hl2 hl3 hw hkw hcw s hs _ bt bs (fun i H => Kp (· ∈ [bq]) H0 H ∧ ∃ n, n + gS lk f (gh s) ≤ i ∧ H[bq]? = some (.cells true [.int .i64 ((n : Nat) : Int)] 1)) (fun _ _ => False) ?h0 ?hm ?hsk ?hb ?hy).mono ?_
  case h0 => exact ⟨.refl _ _, 0, by omega, hq⟩
  case hm =>
    rintro i H H' ⟨k, n, hn, hc⟩ kk
    exact ⟨k.trans (kk.mono fun _ h => h.elim), n, hn, (kk.get _ (lt_of_some hc) (fun h => h)).trans hc⟩
  case hsk =>
    rintro i H ⟨k, n, hn, hc⟩ _ _ _
    exact ⟨k, n, by omega, hc⟩
  case hb =>
    rintro i H ⟨k, _⟩
    exact ⟨k.rd h1 e1, k.rd h2 e2, (hVB.off k).offsl, (hVK.off k).offsl, (hVC.off k).offsl⟩
  case hy =>
    rintro i H ⟨k, n, hn, hc⟩ hi1 hi2 _
    have hin := (gE_in hi1 hi2).2
    refine ylds_func Try.call14 ((fclos_ok (i + f) n bq (by omega) hc).mono ?_)
    rintro v H' ⟨rfl, k2, h9⟩
    exact ⟨true, rfl, fun _ => ⟨k.trans k2, n + 1, by omega, h9⟩, fun h => nomatch h⟩
  rintro v H' ⟨rfl, h | ⟨_, _, _, h⟩⟩
  · exact ⟨rfl, h⟩
  · exact h.elim
set_option maxRecDepth 100000 in
set_option maxHeartbeats 4000000 in
theorem filters_ok {H0 : AHeap} (va : Value) (z : List ByteArray) (hz : Sl strv H0 va z) (hzs : ∀ x ∈ z, x.size ≤ 140737488355328) (vo : Value) (o : List ByteArray) (ho : Sl strv H0 vo o) (hos : ∀ x ∈ o, x.size ≤ 140737488355328) (a0 a1 a2 : Int) : ACalls Try.prog 4 [va, vo, .agg #[.int .i64 a0, .int .i64 a1, .int .i64 a2]] H0 (Rets (.bool true) H0) := by
  have hF : Wd Fence.wide := .inl rfl
  have hM : Try.prog.follows .mixedOrders = true := by kernel_rfl
  obtain ⟨nm, hnm⟩ : ∃ nm, nm = z.take (min z.length 30) := ⟨_, rfl⟩
  have hnl : nm.length ≤ 30 := by rw [hnm, List.length_take]; omega
  have hns : ∀ x ∈ nm, x.size ≤ 140737488355328 := fun x hx => hzs x (List.mem_of_mem_take (hnm ▸ hx))
  have hk1 := imask_le a1 7
  have hk2 := imask_le a2 63
  have hk0 := imask_le a0 15
  have s0 := St.begin H0
  refine acalls_st Try.func4 rfl Try.ntmps4 rfl ?_
  refine awp_seq ?_
  refine awp_regs hF ?_
  refine x_new (fun b => .pointer (some ⟨b, 0, none⟩)) s0 (gyes_none rfl) (q_box (v := .agg #[.int .i64 a0, .int .i64 a1, .int .i64 a2]) (vs := [.int .i64 a0, .int .i64 a1, .int .i64 a2]) 3 rfl (by exact trivial) rfl) rfl (by decide) (cok1 trivial) (fun b1 H2 hb4 s3 => ?_)
  refine dv (gyes_none rfl) (q_as (v := .bool false) rfl) rfl (by decide) (cok1 (cconst rfl)) ?_
  refine ⟨_, Wk.refl _ _, ?_⟩
  show awp _ _ _ _ _ _ _
  refine awp_seq ?_
  refine awp_seq ?_
  refine awp_regs hF ?_
  refine dv (gyes_none rfl) (q_call0 Try.call7 rfl (speaks_ok)) rfl (by decide) (cok1 trivial) ?_
  refine dv (gyes_none rfl) (q_not (b := true) rfl) rfl (by decide) (cok1 trivial) ?_
  refine ⟨_, Wk.refl _ _, ?_⟩
  show awp _ _ _ _ _ _ _
  refine awp_cond_f rfl ?_
  refine awp_skip_wk ?_
  refine ⟨_, Wk.refl _ _, ?_⟩
  show awp _ _ _ _ _ _ _
  refine awp_seq ?_
  refine awp_regs hF ?_
  refine dv (gyes_none rfl) (q_mv (v := va) rfl) rfl (by decide) (cok1 trivial) ?_
  refine dv (gyes_none rfl) (q_mv (v := va) rfl) rfl (by decide) (cok1 trivial) ?_
  refine dv (gyes_none rfl) (q_len_sl (l := z) Try.underlying23 (s3.sl hz) rfl) rfl (by decide) (cok1 trivial) ?_
  refine dv (gyes_none rfl) (OpQ.cast (v' := .int .i64 ((min z.length 30 : Nat) : Int)) (q_min rfl rfl) (by congr 1; split <;> omega)) rfl (by decide) (cok2 trivial (cconst rfl)) ?_
  obtain ⟨w5, hw5, qw5⟩ := slice_z hz (min z.length 30) (by omega)
  rw [← hnm] at hw5
  refine dv (gyes_none rfl) (qw5 s3 Try.underlying23 Try.sizeOf9 rfl rfl) rfl (by decide) (cok2 trivial trivial) ?_
  refine dv (gyes_none rfl) (q_as (v := w5) rfl) rfl (by decide) (cok1 trivial) ?_
  refine ⟨_, Wk.refl _ _, ?_⟩
  show awp _ _ _ _ _ _ _
  refine awp_seq ?_
  refine awp_regs hF ?_
  refine dv (gyes_none rfl) (q_indexArr (i := 0) Try.underlying38 Try.sizeOf3 rfl rfl (by first | decide | omega) (s3.rd (j := 0) rfl)) rfl (by decide) (cok2 trivial (cconst rfl)) ?_
  refine dv (gyes_none rfl) (q_load (v := .int .i64 a0) Try.isAgg3 rfl (s3.rd (j := 0) rfl) rfl) rfl (by decide) (cok1 trivial) ?_
  refine dv (gyes_none rfl) (q_imask (m := 15) rfl rfl (by first | decide | omega)) rfl (by decide) (cok2 trivial (cconst rfl)) ?_
  refine dv (gyes_none rfl) (OpQ.cast (v' := .int .i64 ((1 + (imask a0 15) : Nat) : Int)) (q_int rfl rfl rfl) (congrArg _ ((i64_in (by omega)).trans (by first | rfl | omega | (push_cast; rfl))))) rfl (by decide) (cok2 (cconst rfl) trivial) ?_
  refine dv (gyes_none rfl) (q_as (v := .int .i64 ((1 + (imask a0 15) : Nat) : Int)) rfl) rfl (by decide) (cok1 trivial) ?_
  refine ⟨_, Wk.refl _ _, ?_⟩
  show awp _ _ _ _ _ _ _
  refine awp_seq ?_
  have hnb : 1 ≤ 1 + imask a0 15 ∧ 1 + imask a0 15 ≤ 16 := ⟨by omega, by omega⟩
  generalize 1 + imask a0 15 = nb at *
  refine awp_regs hF ?_
  refine dv (gyes_none rfl) (q_as (v := .slice none 0 0) rfl) rfl (by decide) (cok1 (cconst rfl)) ?_
  refine ⟨_, Wk.refl _ _, ?_⟩
  show awp _ _ _ _ _ _ _
  refine awp_seq ?_
  refine awp_regs hF ?_
  refine dv (gyes_none rfl) (q_mv (v := w5) rfl) rfl (by decide) (cok1 trivial) ?_
  refine dv (gyes_none rfl) (q_mv (v := .int .i64 ((nb : Nat) : Int)) rfl) rfl (by decide) (cok1 trivial) ?_
  refine x_call [] hF (by kernel_rfl) (gyes_none rfl) Try.call8 rfl (args := [w5, .int .i64 ((nb : Nat) : Int)]) rfl (order_ok _ nm (s3.sl hw5) hns (by omega) nb (by omega) (by omega)) (show _ < _ by decide) (call_ok rfl) rfl rfl (fun _ _ _ _ hd => by cases hd) ?_
  rintro _ H8 ⟨b6, l7, hk9, hb10, rfl, ho11, hg12⟩
  have s13 := s3.callN hk9 hb10 hg12
  have hol := ho11.len
  refine ⟨trivial, ?_⟩
  show dList _ _ _ _ _ _ _ _ _ _
  refine dv (gyes_none rfl) (q_as (v := .slice (some ⟨b6, 0, none⟩) nm.length nm.length) rfl) rfl (by decide) (cok1 trivial) ?_
  refine ⟨_, Wk.refl _ _, ?_⟩
  show awp _ _ _ _ _ _ _
  refine awp_seq ?_
  refine awp_seq ?_
  refine awp_regs hF ?_
  refine dv (gyes_none rfl) (q_as (v := .int .i64 0) rfl) rfl (by decide) (cok1 (cconst rfl)) ?_
  refine ⟨_, Wk.refl _ _, ?_⟩
  show awp _ _ _ _ _ _ _
  refine awp_block ?_
  refine awp_nil s13 8 1 rfl (fun b14 H15 hb17 s16 => ?_)
  refine awp_wk (Wk.U [(0, w5), (1, vo), (5, .pointer (some ⟨b1, 0, none⟩)), (7, .int .i64 ((nb : Nat) : Int)), (8, .slice (some ⟨b14, 0, none⟩) 0 0), (9, .slice (some ⟨b6, 0, none⟩) nm.length nm.length), (10, .int .i64 0)] ⟨rfl, rfl, rfl, rfl, rfl, rfl, rfl, trivial⟩) ?_
  refine awp_loop (fun (i : Nat) st => ∃ (H18 : AHeap) (bs : Nat), st = ⟨103, U [(0, w5), (1, vo), (5, .pointer (some ⟨b1, 0, none⟩)), (7, .int .i64 ((nb : Nat) : Int)), (8, .slice (some ⟨bs, 0, none⟩) i i), (9, .slice (some ⟨b6, 0, none⟩) nm.length nm.length), (10, .int .i64 ((i : Nat) : Int))], [], H18⟩ ∧ St H0 (none0) (Rd H0) H18 [(bs, .cells true ((srtL nm (l7.take i)).map strv) 1), (b6, .cells true (l7.map i64v) 1), (b1, .cells true [.int .i64 a0, .int .i64 a1, .int .i64 a2] 3)] ∧ (i ≤ nm.length)) (fun (i : Nat) => nm.length - i) (x0 := (0)) ?h0 ?round
  case h0 =>
    exact ⟨_, _, rfl, s16, Nat.zero_le _⟩
  case round =>
    rintro i _ ⟨H18, bs, rfl, s19, hi⟩
    have hsl : (srtL nm (l7.take i)).length = i := by rw [srtL, List.length_map, List.length_take]; omega
    refine awp_seq ?_
    refine awp_seq ?_
    refine awp_regs hF ?_
    refine dv (gyes_none rfl) (q_mv (v := .int .i64 ((i : Nat) : Int)) rfl) rfl (by decide) (cok1 trivial) ?_
    refine dv (gyes_none rfl) (q_mv (v := .slice (some ⟨b6, 0, none⟩) nm.length nm.length) rfl) rfl (by decide) (cok1 trivial) ?_
    refine dv (gyes_none rfl) (q_len_slice Try.underlying25 rfl (s19.rd (j := 1) rfl)) rfl (by decide) (cok1 trivial) ?_
    refine dvb (gyes_none rfl) (q_int rfl rfl rfl) rfl (by decide) (cok2 trivial trivial) (fun c1 => ?_) (fun c1 => ?_)
    ·
      replace c1 := of_decide_eq_true c1
      refine ⟨_, Wk.refl _ _, ?_⟩
      show awp _ _ _ _ _ _ _
      refine awp_cond_t rfl ?_
      refine awp_skip_wk ?_
      refine ⟨_, Wk.refl _ _, ?_⟩
      show awp _ _ _ _ _ _ _
      refine awp_seq ?_
      refine awp_block ?_
      have hx := ho11.lt _ (nthS_mem (show i < l7.length by omega))
      refine awp_regs hF ?_
      refine dv (gyes_none rfl) (q_mv (v := .slice (some ⟨bs, 0, none⟩) i i) rfl) rfl (by decide) (cok1 trivial) ?_
      refine dv (gyes_none rfl) (q_mv (v := w5) rfl) rfl (by decide) (cok1 trivial) ?_
      refine dv (gyes_none rfl) (q_mv (v := .slice (some ⟨b6, 0, none⟩) nm.length nm.length) rfl) rfl (by decide) (cok1 trivial) ?_
      refine dv (gyes_none rfl) (q_mv (v := .int .i64 ((i : Nat) : Int)) rfl) rfl (by decide) (cok1 trivial) ?_
      refine dv (gyes_none rfl) (OpQ.cast (v' := .pointer (some ⟨b6, i, none⟩)) (q_index1 (i := i) Try.underlying25 Try.sizeOf3 rfl rfl (by omega) (s19.rd (j := 1) rfl)) (by rw [Nat.zero_add])) rfl (by decide) (cok2 trivial trivial) ?_
      refine dv (gyes_none rfl) (q_load (v := i64v (nth l7 i)) Try.isAgg3 rfl (s19.rd (j := 1) rfl) (get_nth (w := 0) (by omega))) rfl (by decide) (cok1 trivial) ?_
      refine dv (gyes_none rfl) (q_index_sl (l := nm) (i := (nth l7 i)) Try.underlying23 Try.sizeOf9 (s19.sl hw5) rfl rfl (by omega)) rfl (by decide) (cok2 trivial trivial) ?_
      refine dv (gyes_none rfl) (q_load_sl (l := nm) (i := (nth l7 i)) Try.isAgg9 (s19.sl hw5) rfl (by omega)) rfl (by decide) (cok1 trivial) ?_
      refine x_new (fun b => .slice (some ⟨b, 0, none⟩) 1 1) s19 (gyes_none rfl) (q_buildSliceL (ds := [.string (nth nm (nth l7 i))]) [.string (nth nm (nth l7 i))] rfl Try.underlying23 Try.sizeOf9 Try.zeroValue9 rfl (by decide) (by decide) ⟨rfl, trivial⟩ (lvsC (by exact trivial) lvs0) rfl rfl) rfl (by decide) (cok1 trivial) (fun b20 H21 hb23 s22 => ?_)
      refine x_append (l := [(nth nm (nth l7 i))]) (f := strv) [] hF s22 (by kernel_rfl) (j := 1) (i + 1) rfl (gyes_none rfl) Try.underlying23 Try.underlying23 Try.type9 rfl rfl (by decide) rfl rfl rfl rfl (s22.slj (l := [(nth nm (nth l7 i))]) (f := strv) (j := 0) rfl rfl (Nat.le_refl _)) (fun x => lc_scalar rfl) (by rw [List.length_map, hsl, Nat.zero_add]) (by show (2 * (i + 1) + 1000) * 16 ≤ _; omega) trivial trivial (by decide) rfl rfl (vs' := (srtL nm (l7.take (i + 1))).map strv) (by rw [← srtL_snoc (show i < l7.length by omega), List.map_append]; rfl) (fun b24 H25 hb27 s26 => ⟨?_, ?_⟩)
      · exact trivial
      refine dv (gyes_none rfl) (q_as (v := .slice (some ⟨b24, 0, none⟩) (i + 1) (i + 1)) rfl) rfl (by decide) (cok1 trivial) ?_
      refine ⟨_, Wk.refl _ _, ?_⟩
      show awp _ _ _ _ _ _ _
      refine awp_regs hF ?_
      refine dv (gyes_none rfl) (q_mv (v := .int .i64 ((i : Nat) : Int)) rfl) rfl (by decide) (cok1 trivial) ?_
      refine dv (gyes_none rfl) (OpQ.cast (v' := .int .i64 ((i + 1 : Nat) : Int)) (q_int rfl rfl rfl) (congrArg _ ((i64_in (by omega)).trans (by first | rfl | omega | (push_cast; rfl))))) rfl (by decide) (cok2 trivial (cconst rfl)) ?_
      refine dv (gyes_none rfl) (q_as (v := .int .i64 ((i + 1 : Nat) : Int)) rfl) rfl (by decide) (cok1 trivial) ?_
      refine ⟨_, Wk.U [(0, w5), (1, vo), (5, .pointer (some ⟨b1, 0, none⟩)), (7, .int .i64 ((nb : Nat) : Int)), (8, .slice (some ⟨b24, 0, none⟩) (i + 1) (i + 1)), (9, .slice (some ⟨b6, 0, none⟩) nm.length nm.length), (10, .int .i64 (((i + 1) : Nat) : Int))] ⟨rfl, rfl, rfl, rfl, rfl, rfl, rfl, trivial⟩, (i + 1), ⟨_, _, rfl, (s26.sub (.cons _ (.cons_cons _ (.cons_cons _ (.cons_cons _ (.refl _)))))), (by omega)⟩, (by omega)⟩
    ·
      replace c1 := of_decide_eq_false c1
      refine ⟨_, Wk.refl _ _, ?_⟩
      show awp _ _ _ _ _ _ _
      refine awp_cond_f rfl ?_
      refine awp_exit_wk ?_
      refine ⟨_, Wk.refl _ _, ?_⟩
      show awp _ _ _ _ _ _ _
      refine awp_seq ?_
      have hsd0 : srtL nm (l7.take i) = srtL nm l7 := by rw [List.take_of_length_le (by omega)]
      obtain ⟨sd, hsd⟩ : ∃ sd, sd = srtL nm l7 := ⟨_, rfl⟩
      rw [hsd0, ← hsd] at s19
      have hsl : sd.length = i := by rw [hsd, srtL, List.length_map]; omega
      have hss : ∀ x ∈ sd, x.size ≤ 140737488355328 := fun x hx => hns x (srtL_mem ho11.lt x (hsd ▸ hx))
      have hsk : sortedK sd nb = true := by rw [hsd]; exact srtL_sorted ho11
      have hin : ∀ i, i < nm.length → ∃ j, j < sd.length ∧ nth sd j = nth nm i := fun i hi => by rw [hsd]; exact srtL_has ho11.perm hi
      refine awp_regs hF ?_
      refine dv (gyes_none rfl) (q_mv (v := .slice (some ⟨bs, 0, none⟩) i i) rfl) rfl (by decide) (cok1 trivial) ?_
      refine dv (gyes_none rfl) (q_mv (v := .int .i64 ((nb : Nat) : Int)) rfl) rfl (by decide) (cok1 trivial) ?_
      refine dv (gyes_none rfl) (q_indexArr (i := 1) Try.underlying38 Try.sizeOf3 rfl rfl (by first | decide | omega) (s19.rd (j := 2) rfl)) rfl (by decide) (cok2 trivial (cconst rfl)) ?_
      refine dv (gyes_none rfl) (q_load (v := .int .i64 a1) Try.isAgg3 rfl (s19.rd (j := 2) rfl) rfl) rfl (by decide) (cok1 trivial) ?_
      refine dv (gyes_none rfl) (q_imask (m := 7) rfl rfl (by first | decide | omega)) rfl (by decide) (cok2 trivial (cconst rfl)) ?_
      refine dv (gyes_none rfl) (OpQ.cast (v' := .int .i64 ((1 + (imask a1 7) : Nat) : Int)) (q_int rfl rfl rfl) (congrArg _ ((i64_in (by omega)).trans (by first | rfl | omega | (push_cast; rfl))))) rfl (by decide) (cok2 (cconst rfl) trivial) ?_
      refine dv (gyes_none rfl) (q_indexArr (i := 2) Try.underlying38 Try.sizeOf3 rfl rfl (by first | decide | omega) (s19.rd (j := 2) rfl)) rfl (by decide) (cok2 trivial (cconst rfl)) ?_
      refine dv (gyes_none rfl) (q_load (v := .int .i64 a2) Try.isAgg3 rfl (s19.rd (j := 2) rfl) rfl) rfl (by decide) (cok1 trivial) ?_
      refine dv (gyes_none rfl) (q_imask (m := 63) rfl rfl (by first | decide | omega)) rfl (by decide) (cok2 trivial (cconst rfl)) ?_
      refine x_call [] hF (by kernel_rfl) (gyes_none rfl) Try.call9 rfl (args := [.slice (some ⟨bs, 0, none⟩) i i, .int .i64 1, .int .i64 ((nb : Nat) : Int), .int .i64 ((1 + (imask a1 7) : Nat) : Int), .int .i64 ((imask a2 63 : Nat) : Int)]) rfl (build_yes _ sd (s19.slj (j := 0) rfl (by first | rfl | (simp; done) | omega | exact blN_len _ | exact bkN_len _ | exact chN_len _ | (rw [chN_len]; omega)) (by first | exact Nat.le_refl _ | omega)) hss (by omega) 1 nb (1 + imask a1 7) (imask a2 63) ⟨by omega, by omega, by omega, by omega, by omega, by omega, by omega⟩ hsk) (show _ < _ by decide) (call_ok rfl) rfl rfl (fun _ _ _ _ hd => by cases hd) ?_
      rintro _ H31 ⟨b28, b29, b30, rfl, hn32⟩
      have s33 := s19.callL hn32
      refine ⟨trivial, ?_⟩
      show dList _ _ _ _ _ _ _ _ _ _
      refine dv (gyes_none rfl) (q_mv (v := .tuple #[.agg #[.int .u32 1, .int .u32 (((imask a2 63) : Nat) : Int), .slice (some ⟨b28, 0, none⟩) (1 + imask a1 7) (1 + imask a1 7), .slice (some ⟨b29, 0, none⟩) nb nb, .slice (some ⟨b30, 0, none⟩) sd.length sd.length], .bool true]) rfl) rfl (by decide) (cok1 trivial) ?_
      refine dv (gyes_none rfl) (q_extract (v := .agg #[.int .u32 1, .int .u32 (((imask a2 63) : Nat) : Int), .slice (some ⟨b28, 0, none⟩) (1 + imask a1 7) (1 + imask a1 7), .slice (some ⟨b29, 0, none⟩) nb nb, .slice (some ⟨b30, 0, none⟩) sd.length sd.length]) rfl rfl) rfl (by decide) (cok1 trivial) ?_
      refine dv (gyes_none rfl) (q_extract (v := .bool true) rfl rfl) rfl (by decide) (cok1 trivial) ?_
      refine x_new (fun b => .pointer (some ⟨b, 0, none⟩)) s33 (gyes_none rfl) (q_alloc (vs := [.int .u32 0, .int .u32 0, .slice none 0 0, .slice none 0 0, .slice none 0 0]) 5 Try.zeroValue31 (by first | exact flat_scalar rfl | exact flat_agg rfl) rfl) rfl (by decide) (by simp [Op.operands, Call.operands]) (fun b34 H35 hb37 s36 => ?_)
      refine x_store [] hF s36 (by kernel_rfl) (gyes_none rfl) (j := 0) (v := .agg #[.int .u32 1, .int .u32 (((imask a2 63) : Nat) : Int), .slice (some ⟨b28, 0, none⟩) (1 + imask a1 7) (1 + imask a1 7), .slice (some ⟨b29, 0, none⟩) nb nb, .slice (some ⟨b30, 0, none⟩) sd.length sd.length]) rfl Try.sizeOf31 rfl rfl rfl rfl rfl trivial (lcsA ⟨(lc_scalar rfl), (lc_scalar rfl), (lc_slice (s36.live (j := 3) rfl)), (lc_slice (s36.live (j := 2) rfl)), (lc_slice (s36.live (j := 1) rfl)), trivial⟩) (Nat.le_of_ble_eq_true rfl) trivial trivial rfl rfl (F' := [(b34, .cells true [.int .u32 1, .int .u32 (((imask a2 63) : Nat) : Int), .slice (some ⟨b28, 0, none⟩) (1 + imask a1 7) (1 + imask a1 7), .slice (some ⟨b29, 0, none⟩) nb nb, .slice (some ⟨b30, 0, none⟩) sd.length sd.length] 5), (b30, .cells true ((chN sd nb sd.length).map u32v) 1), (b29, .cells true ((bkN sd nb 1 sd.length).map u32v) 1), (b28, .cells true ((blN sd (1 + imask a1 7) (imask a2 63) sd.length).map u64v) 1), (bs, .cells true (sd.map strv) 1), (b6, .cells true (l7.map i64v) 1), (b1, .cells true [.int .i64 a0, .int .i64 a1, .int .i64 a2] 3)]) rfl (fun H38 s39 => ⟨?_, ?_⟩)
      · exact trivial
      refine dv (gyes_none rfl) (q_as (v := .bool true) rfl) rfl (by decide) (cok1 trivial) ?_
      refine ⟨_, Wk.refl _ _, ?_⟩
      show awp _ _ _ _ _ _ _
      refine awp_seq ?_
      refine awp_seq ?_
      refine awp_regs hF ?_
      refine dv (gyes_none rfl) (q_mv (v := .bool true) rfl) rfl (by decide) (cok1 trivial) ?_
      refine dv (gyes_none rfl) (q_not (b := true) rfl) rfl (by decide) (cok1 trivial) ?_
      refine ⟨_, Wk.refl _ _, ?_⟩
      show awp _ _ _ _ _ _ _
      refine awp_cond_f rfl ?_
      refine awp_skip_wk ?_
      refine ⟨_, Wk.refl _ _, ?_⟩
      show awp _ _ _ _ _ _ _
      refine awp_seq ?_
      refine awp_seq ?_
      refine awp_regs hF ?_
      refine dv (gyes_none rfl) (q_as (v := .int .i64 0) rfl) rfl (by decide) (cok1 (cconst rfl)) ?_
      refine ⟨_, Wk.refl _ _, ?_⟩
      show awp _ _ _ _ _ _ _
      refine awp_block ?_
      refine awp_wk (Wk.U [(0, w5), (1, vo), (11, .pointer (some ⟨b34, 0, none⟩)), (13, .int .i64 0)] ⟨rfl, rfl, rfl, rfl, trivial⟩) ?_
      refine awp_loop (fun (q : Nat) st => ∃ (H40 : AHeap), st = ⟨103, U [(0, w5), (1, vo), (11, .pointer (some ⟨b34, 0, none⟩)), (13, .int .i64 ((q : Nat) : Int))], [], H40⟩ ∧ St H0 (none0) (Rd H0) H40 [(b34, .cells true [.int .u32 1, .int .u32 (((imask a2 63) : Nat) : Int), .slice (some ⟨b28, 0, none⟩) (1 + imask a1 7) (1 + imask a1 7), .slice (some ⟨b29, 0, none⟩) nb nb, .slice (some ⟨b30, 0, none⟩) sd.length sd.length] 5), (b30, .cells true ((chN sd nb sd.length).map u32v) 1), (b29, .cells true ((bkN sd nb 1 sd.length).map u32v) 1), (b28, .cells true ((blN sd (1 + imask a1 7) (imask a2 63) sd.length).map u64v) 1), (bs, .cells true (sd.map strv) 1), (b6, .cells true (l7.map i64v) 1), (b1, .cells true [.int .i64 a0, .int .i64 a1, .int .i64 a2] 3)]) (fun (q : Nat) => nm.length - q) (x0 := (0)) ?h0 ?round
      case h0 =>
        exact ⟨_, rfl, s39⟩
      case round =>
        rintro q _ ⟨H40, rfl, s41⟩
        refine awp_seq ?_
        refine awp_seq ?_
        refine awp_regs hF ?_
        refine dv (gyes_none rfl) (q_mv (v := .int .i64 ((q : Nat) : Int)) rfl) rfl (by decide) (cok1 trivial) ?_
        refine dv (gyes_none rfl) (q_mv (v := w5) rfl) rfl (by decide) (cok1 trivial) ?_
        refine dv (gyes_none rfl) (q_len_sl (l := nm) Try.underlying23 (s41.sl hw5) rfl) rfl (by decide) (cok1 trivial) ?_
        refine dvb (gyes_none rfl) (q_int rfl rfl rfl) rfl (by decide) (cok2 trivial trivial) (fun c2 => ?_) (fun c2 => ?_)
        ·
          replace c2 := of_decide_eq_true c2
          refine ⟨_, Wk.refl _ _, ?_⟩
          show awp _ _ _ _ _ _ _
          refine awp_cond_t rfl ?_
          refine awp_skip_wk ?_
          refine ⟨_, Wk.refl _ _, ?_⟩
          show awp _ _ _ _ _ _ _
          refine awp_seq ?_
          refine awp_block ?_
          refine awp_seq ?_
          obtain ⟨jq, hjq, ejq⟩ := hin q (by omega)
          refine awp_regt hF hM (by kernel_rfl) (by kernel_rfl) ?_
          refine dv (gyes_none rfl) (q_loadAgg Try.isAgg31 Try.sizeOf31 rfl (s41.rd (j := 0) rfl) (Nat.le_of_ble_eq_true rfl) rfl) rfl (by decide) (cok1 trivial) ?_
          refine dv (gyes_none rfl) (q_mv (v := w5) rfl) rfl (by decide) (cok1 trivial) ?_
          refine dv (gyes_none rfl) (q_mv (v := .int .i64 ((q : Nat) : Int)) rfl) rfl (by decide) (cok1 trivial) ?_
          refine dv (gyes_none rfl) (q_index_sl (l := nm) (i := q) Try.underlying23 Try.sizeOf9 (s41.sl hw5) rfl rfl (by omega)) rfl (by decide) (cok2 trivial trivial) ?_
          refine dv (gyes_none rfl) (q_load_sl (l := nm) (i := q) Try.isAgg9 (s41.sl hw5) rfl (by omega)) rfl (by decide) (cok1 trivial) ?_
          refine dv (gyes_none rfl) (q_call0 Try.call12 rfl (ACalls.castV (v' := .bool true) (may_ok 1 (imask a2 63) _ _ _ (blN sd (1 + imask a1 7) (imask a2 63) sd.length) (bkN sd nb 1 sd.length) (chN sd nb sd.length) (s41.slj (j := 3) rfl (by first | rfl | (simp; done) | omega | exact blN_len _ | exact bkN_len _ | exact chN_len _ | (rw [chN_len]; omega)) (by first | exact Nat.le_refl _ | omega)) (s41.slj (j := 2) rfl (by first | rfl | (simp; done) | omega | exact blN_len _ | exact bkN_len _ | exact chN_len _ | (rw [chN_len]; omega)) (by first | exact Nat.le_refl _ | omega)) (s41.slj (j := 1) rfl (by first | rfl | (simp; done) | omega | exact blN_len _ | exact bkN_len _ | exact chN_len _ | (rw [chN_len]; omega)) (by first | exact Nat.le_refl _ | omega)) (nth nm q) (hns _ (nthS_mem (by omega))) (by rw [blN_len]; first | omega | decide) (blN_w _)) (by rw [show mayV (blN sd (1 + imask a1 7) (imask a2 63) sd.length) (imask a2 63) (gh (nth nm q)) = true by rw [← ejq]; exact may_in (by omega) hjq]))) rfl (by decide) (call_ok rfl) ?_
          refine dv (gyes_none rfl) (q_not (b := true) rfl) rfl (by decide) (cok1 trivial) ?_
          refine ⟨_, Wk.refl _ _, ?_⟩
          show awp _ _ _ _ _ _ _
          refine awp_cond_f rfl ?_
          refine awp_skip_wk ?_
          refine ⟨_, Wk.refl _ _, ?_⟩
          show awp _ _ _ _ _ _ _
          refine awp_regs hF ?_
          refine dv (gyes_none rfl) (q_mv (v := .int .i64 ((q : Nat) : Int)) rfl) rfl (by decide) (cok1 trivial) ?_
          refine dv (gyes_none rfl) (OpQ.cast (v' := .int .i64 ((q + 1 : Nat) : Int)) (q_int rfl rfl rfl) (congrArg _ ((i64_in (by omega)).trans (by first | rfl | omega | (push_cast; rfl))))) rfl (by decide) (cok2 trivial (cconst rfl)) ?_
          refine dv (gyes_none rfl) (q_as (v := .int .i64 ((q + 1 : Nat) : Int)) rfl) rfl (by decide) (cok1 trivial) ?_
          refine ⟨_, Wk.U [(0, w5), (1, vo), (11, .pointer (some ⟨b34, 0, none⟩)), (13, .int .i64 (((q + 1) : Nat) : Int))] ⟨rfl, rfl, rfl, rfl, trivial⟩, (q + 1), ⟨_, rfl, s41⟩, (by omega)⟩
        ·
          replace c2 := of_decide_eq_false c2
          refine ⟨_, Wk.refl _ _, ?_⟩
          show awp _ _ _ _ _ _ _
          refine awp_cond_f rfl ?_
          refine awp_exit_wk ?_
          refine ⟨_, Wk.refl _ _, ?_⟩
          show awp _ _ _ _ _ _ _
          refine awp_seq ?_
          refine awp_seq ?_
          refine awp_regs hF ?_
          refine dv (gyes_none rfl) (q_as (v := .int .i64 0) rfl) rfl (by decide) (cok1 (cconst rfl)) ?_
          refine ⟨_, Wk.refl _ _, ?_⟩
          show awp _ _ _ _ _ _ _
          refine awp_block ?_
          refine awp_wk (Wk.U [(0, w5), (1, vo), (11, .pointer (some ⟨b34, 0, none⟩)), (14, .int .i64 0)] ⟨rfl, rfl, rfl, rfl, trivial⟩) ?_
          refine awp_loop (fun (q : Nat) st => ∃ (H42 : AHeap), st = ⟨103, U [(0, w5), (1, vo), (11, .pointer (some ⟨b34, 0, none⟩)), (14, .int .i64 ((q : Nat) : Int))], [], H42⟩ ∧ St H0 (none0) (Rd H0) H42 [(b34, .cells true [.int .u32 1, .int .u32 (((imask a2 63) : Nat) : Int), .slice (some ⟨b28, 0, none⟩) (1 + imask a1 7) (1 + imask a1 7), .slice (some ⟨b29, 0, none⟩) nb nb, .slice (some ⟨b30, 0, none⟩) sd.length sd.length] 5), (b30, .cells true ((chN sd nb sd.length).map u32v) 1), (b29, .cells true ((bkN sd nb 1 sd.length).map u32v) 1), (b28, .cells true ((blN sd (1 + imask a1 7) (imask a2 63) sd.length).map u64v) 1), (bs, .cells true (sd.map strv) 1), (b6, .cells true (l7.map i64v) 1), (b1, .cells true [.int .i64 a0, .int .i64 a1, .int .i64 a2] 3)]) (fun (q : Nat) => o.length - q) (x0 := (0)) ?h0 ?round
          case h0 =>
            exact ⟨_, rfl, s41⟩
          case round =>
            rintro q _ ⟨H42, rfl, s43⟩
            refine awp_seq ?_
            refine awp_seq ?_
            refine awp_regs hF ?_
            refine dv (gyes_none rfl) (q_mv (v := .int .i64 ((q : Nat) : Int)) rfl) rfl (by decide) (cok1 trivial) ?_
            refine dv (gyes_none rfl) (q_mv (v := vo) rfl) rfl (by decide) (cok1 trivial) ?_
            refine dv (gyes_none rfl) (q_len_sl (l := o) Try.underlying23 (s43.sl ho) rfl) rfl (by decide) (cok1 trivial) ?_
            refine dvb (gyes_none rfl) (q_int rfl rfl rfl) rfl (by decide) (cok2 trivial trivial) (fun c3 => ?_) (fun c3 => ?_)
            ·
              replace c3 := of_decide_eq_true c3
              refine dv (gyes_none rfl) (q_mv (v := .bool true) rfl) rfl (by decide) (cok1 trivial) ?_
              refine dv (gyes_some rfl rfl) (q_mv (v := .int .i64 ((q : Nat) : Int)) rfl) rfl (by decide) (cok1 trivial) ?_
              refine dvb (gyes_some rfl rfl) (q_int rfl rfl rfl) rfl (by decide) (cok2 trivial (cconst rfl)) (fun c4 => ?_) (fun c4 => ?_)
              ·
                replace c4 := of_decide_eq_true c4
                refine dv (gyes_none rfl) (q_pt (v := .bool true) rfl rfl) rfl (by decide) (call_ok rfl) ?_
                refine ⟨_, Wk.refl _ _, ?_⟩
                show awp _ _ _ _ _ _ _
                refine awp_cond_t rfl ?_
                refine awp_skip_wk ?_
                refine ⟨_, Wk.refl _ _, ?_⟩
                show awp _ _ _ _ _ _ _
                refine awp_seq ?_
                refine awp_block ?_
                refine awp_seq ?_
                refine awp_regs hF ?_
                refine x_new (fun b => .pointer (some ⟨b, 0, none⟩)) s43 (gyes_none rfl) (q_alloc (vs := [.int .i64 0]) 1 Try.zeroValue3 (by first | exact flat_scalar rfl | exact flat_agg rfl) rfl) rfl (by decide) (by simp [Op.operands, Call.operands]) (fun b44 H45 hb47 s46 => ?_)
                refine x_store1 [] hF s46 (by kernel_rfl) (gyes_none rfl) (j := 0) (v := .int .i64 0) rfl Try.sizeOf3 rfl rfl rfl (lc_scalar rfl) (Nat.le_of_ble_eq_true rfl) trivial (cconst rfl) rfl rfl (F' := [(b44, .cells true [.int .i64 0] 1), (b34, .cells true [.int .u32 1, .int .u32 (((imask a2 63) : Nat) : Int), .slice (some ⟨b28, 0, none⟩) (1 + imask a1 7) (1 + imask a1 7), .slice (some ⟨b29, 0, none⟩) nb nb, .slice (some ⟨b30, 0, none⟩) sd.length sd.length] 5), (b30, .cells true ((chN sd nb sd.length).map u32v) 1), (b29, .cells true ((bkN sd nb 1 sd.length).map u32v) 1), (b28, .cells true ((blN sd (1 + imask a1 7) (imask a2 63) sd.length).map u64v) 1), (bs, .cells true (sd.map strv) 1), (b6, .cells true (l7.map i64v) 1), (b1, .cells true [.int .i64 a0, .int .i64 a1, .int .i64 a2] 3)]) rfl (fun H48 s49 => ⟨?_, ?_⟩)
                · exact trivial
                refine ⟨_, Wk.refl _ _, ?_⟩
                show awp _ _ _ _ _ _ _
                refine awp_seq ?_
                refine awp_regt hF hM (by kernel_rfl) (by kernel_rfl) ?_
                refine dv (gyes_none rfl) (q_loadAgg Try.isAgg31 Try.sizeOf31 rfl (s49.rd (j := 1) rfl) (Nat.le_of_ble_eq_true rfl) rfl) rfl (by decide) (cok1 trivial) ?_
                refine dv (gyes_none rfl) (q_mv (v := vo) rfl) rfl (by decide) (cok1 trivial) ?_
                refine dv (gyes_none rfl) (q_mv (v := .int .i64 ((q : Nat) : Int)) rfl) rfl (by decide) (cok1 trivial) ?_
                refine dv (gyes_none rfl) (q_index_sl (l := o) (i := q) Try.underlying23 Try.sizeOf9 (s49.sl ho) rfl rfl (by omega)) rfl (by decide) (cok2 trivial trivial) ?_
                refine dv (gyes_none rfl) (q_load_sl (l := o) (i := q) Try.isAgg9 (s49.sl ho) rfl (by omega)) rfl (by decide) (cok1 trivial) ?_
                refine x_new2 (fun b c => .func (.func 27) #[] #[.pointer (some ⟨b, 0, none⟩), .pointer (some ⟨c, 0, none⟩)]) s49 (gyes_none rfl) (q_call Try.call13 rfl (by simp [AObj.wr]) (walkE_ok 1 (imask a2 63) _ _ _ (blN sd (1 + imask a1 7) (imask a2 63) sd.length) (bkN sd nb 1 sd.length) (chN sd nb sd.length) (s49.slj (j := 4) rfl (by first | rfl | (simp; done) | omega | exact blN_len _ | exact bkN_len _ | exact chN_len _ | (rw [chN_len]; omega)) (by first | exact Nat.le_refl _ | omega)) (s49.slj (j := 3) rfl (by first | rfl | (simp; done) | omega | exact blN_len _ | exact bkN_len _ | exact chN_len _ | (rw [chN_len]; omega)) (by first | exact Nat.le_refl _ | omega)) (s49.slj (j := 2) rfl (by first | rfl | (simp; done) | omega | exact blN_len _ | exact bkN_len _ | exact chN_len _ | (rw [chN_len]; omega)) (by first | exact Nat.le_refl _ | omega)) (nth o q))) rfl (by decide) (call_ok rfl) (fun b50 b51 H52 hb54 hb55 s53 => ?_)
                refine dv (gyes_none rfl) (q_makeFuncL [.pointer (some ⟨b44, 0, none⟩)] ⟨rfl, trivial⟩) rfl (by decide) (cok1 trivial) ?_
                refine x_call [] hF (by kernel_rfl) (gyes_none rfl) Try.call27 rfl (args := [.func (.func 14) #[] #[.pointer (some ⟨b44, 0, none⟩)], .pointer (some ⟨b50, 0, none⟩), .pointer (some ⟨b51, 0, none⟩)]) rfl (frun_ok 1 (imask a2 63) _ _ _ (blN sd (1 + imask a1 7) (imask a2 63) sd.length) (bkN sd nb 1 sd.length) (chN sd nb sd.length) (by first | omega | decide) (by rw [blN_len]; first | omega | decide) (by rw [bkN_len]; first | omega | decide) (by rw [chN_len]; first | omega | decide) (blN_w _) (fun x hx => Nat.lt_trans (bkN_w (by first | omega | decide) x hx) (by decide)) (chN_w _) (nth o q) (hos _ (nthS_mem (by omega))) (s53.slj (j := 6) rfl (by first | rfl | (simp; done) | omega | exact blN_len _ | exact bkN_len _ | exact chN_len _ | (rw [chN_len]; omega)) (by first | exact Nat.le_refl _ | omega)) (s53.slj (j := 5) rfl (by first | rfl | (simp; done) | omega | exact blN_len _ | exact bkN_len _ | exact chN_len _ | (rw [chN_len]; omega)) (by first | exact Nat.le_refl _ | omega)) (s53.slj (j := 4) rfl (by first | rfl | (simp; done) | omega | exact blN_len _ | exact bkN_len _ | exact chN_len _ | (rw [chN_len]; omega)) (by first | exact Nat.le_refl _ | omega)) b50 b51 b44 (s53.rd (j := 0) rfl) (s53.rd (j := 1) rfl) (nin1 (s53.nej (i := 0) (j := 2) rfl rfl (by decide))) (nin1 (s53.nej (i := 1) (j := 2) rfl rfl (by decide))) (slz_full (Z := Off _ [b44]) ⟨(s53.rd (j := 6) rfl), (nin1 (s53.nej (i := 6) (j := 2) rfl rfl (by decide)))⟩ (blN_len _) (Nat.le_refl _)) (slz_full (Z := Off _ [b44]) ⟨(s53.rd (j := 5) rfl), (nin1 (s53.nej (i := 5) (j := 2) rfl rfl (by decide)))⟩ (bkN_len _) (Nat.le_refl _)) (slz_full (Z := Off _ [b44]) ⟨(s53.rd (j := 4) rfl), (nin1 (s53.nej (i := 4) (j := 2) rfl rfl (by decide)))⟩ (chN_len _) (Nat.le_refl _)) (s53.getj (j := 2) rfl)) (show _ < _ by decide) (call_ok rfl) rfl rfl (fun _ _ _ _ hd => by cases hd) ?_
                rintro _ H56 ⟨rfl, hk57, n58, hn59, h60⟩
                have s61 := s53.turn1 (j := 2) rfl hk57 h60
                refine ⟨trivial, ?_⟩
                show dList _ _ _ _ _ _ _ _ _ _
                refine ⟨_, Wk.refl _ _, ?_⟩
                show awp _ _ _ _ _ _ _
                refine awp_seq ?_
                refine awp_regt hF hM (by kernel_rfl) (by kernel_rfl) ?_
                refine dv (gyes_none rfl) (q_loadAgg Try.isAgg31 Try.sizeOf31 rfl (s61.rd (j := 3) rfl) (Nat.le_of_ble_eq_true rfl) rfl) rfl (by decide) (cok1 trivial) ?_
                refine dv (gyes_none rfl) (q_mv (v := vo) rfl) rfl (by decide) (cok1 trivial) ?_
                refine dv (gyes_none rfl) (q_mv (v := .int .i64 ((q : Nat) : Int)) rfl) rfl (by decide) (cok1 trivial) ?_
                refine dv (gyes_none rfl) (q_index_sl (l := o) (i := q) Try.underlying23 Try.sizeOf9 (s61.sl ho) rfl rfl (by omega)) rfl (by decide) (cok2 trivial trivial) ?_
                refine dv (gyes_none rfl) (q_load_sl (l := o) (i := q) Try.isAgg9 (s61.sl ho) rfl (by omega)) rfl (by decide) (cok1 trivial) ?_
                refine dvb (gyes_none rfl) (q_call0 Try.call12 rfl (may_ok 1 (imask a2 63) _ _ _ (blN sd (1 + imask a1 7) (imask a2 63) sd.length) (bkN sd nb 1 sd.length) (chN sd nb sd.length) (s61.slj (j := 6) rfl (by first | rfl | (simp; done) | omega | exact blN_len _ | exact bkN_len _ | exact chN_len _ | (rw [chN_len]; omega)) (by first | exact Nat.le_refl _ | omega)) (s61.slj (j := 5) rfl (by first | rfl | (simp; done) | omega | exact blN_len _ | exact bkN_len _ | exact chN_len _ | (rw [chN_len]; omega)) (by first | exact Nat.le_refl _ | omega)) (s61.slj (j := 4) rfl (by first | rfl | (simp; done) | omega | exact blN_len _ | exact bkN_len _ | exact chN_len _ | (rw [chN_len]; omega)) (by first | exact Nat.le_refl _ | omega)) (nth o q) (hos _ (nthS_mem (by omega))) (by rw [blN_len]; first | omega | decide) (blN_w _))) rfl (by decide) (call_ok rfl) (fun c5 => ?_) (fun c5 => ?_)
                ·
                  refine dv (gyes_none rfl) (q_not (b := true) rfl) rfl (by decide) (cok1 trivial) ?_
                  refine dv (gyes_none rfl) (q_mv (v := .bool false) rfl) rfl (by decide) (cok1 trivial) ?_
                  refine dno rfl (.inl rfl) rfl (by decide) ?_
                  refine dno rfl (.inl rfl) rfl (by decide) ?_
                  refine dv (gyes_none rfl) (q_pf (v := .bool false) rfl rfl) rfl (by decide) (call_ok rfl) ?_
                  refine ⟨_, Wk.refl _ _, ?_⟩
                  show awp _ _ _ _ _ _ _
                  refine awp_cond_f rfl ?_
                  refine awp_skip_wk ?_
                  refine ⟨_, Wk.refl _ _, ?_⟩
                  show awp _ _ _ _ _ _ _
                  refine awp_regs hF ?_
                  refine dv (gyes_none rfl) (q_mv (v := .int .i64 ((q : Nat) : Int)) rfl) rfl (by decide) (cok1 trivial) ?_
                  refine dv (gyes_none rfl) (OpQ.cast (v' := .int .i64 ((q + 1 : Nat) : Int)) (q_int rfl rfl rfl) (congrArg _ ((i64_in (by omega)).trans (by first | rfl | omega | (push_cast; rfl))))) rfl (by decide) (cok2 trivial (cconst rfl)) ?_
                  refine dv (gyes_none rfl) (q_as (v := .int .i64 ((q + 1 : Nat) : Int)) rfl) rfl (by decide) (cok1 trivial) ?_
                  refine ⟨_, Wk.U [(0, w5), (1, vo), (11, .pointer (some ⟨b34, 0, none⟩)), (14, .int .i64 (((q + 1) : Nat) : Int))] ⟨rfl, rfl, rfl, rfl, trivial⟩, (q + 1), ⟨_, rfl, (s61.sub (.cons _ (.cons _ (.cons _ (.cons_cons _ (.cons_cons _ (.cons_cons _ (.cons_cons _ (.cons_cons _ (.cons_cons _ (.cons_cons _ (.refl _))))))))))))⟩, (by omega)⟩
                ·
                  have hzn : n58 = 0 := by have := gE_no (lk := bkN sd nb 1 sd.length) (lc := chN sd nb sd.length) (f := 1) c5; omega
                  refine dv (gyes_none rfl) (q_not (b := false) rfl) rfl (by decide) (cok1 trivial) ?_
                  refine dv (gyes_none rfl) (q_mv (v := .bool true) rfl) rfl (by decide) (cok1 trivial) ?_
                  refine dv (gyes_some rfl rfl) (q_load (v := .int .i64 ((n58 : Nat) : Int)) Try.isAgg3 rfl (s61.rd (j := 2) rfl) rfl) rfl (by decide) (cok1 trivial) ?_
                  refine dvb (gyes_some rfl rfl) (q_int rfl rfl rfl) rfl (by decide) (cok2 trivial (cconst rfl)) (fun c6 => ?_) (fun c6 => ?_)
                  ·
                    replace c6 := of_decide_eq_true c6
                    exfalso; omega
                  ·
                    replace c6 := of_decide_eq_false c6
                    refine dv (gyes_none rfl) (q_pt (v := .bool false) rfl rfl) rfl (by decide) (call_ok rfl) ?_
                    refine ⟨_, Wk.refl _ _, ?_⟩
                    show awp _ _ _ _ _ _ _
                    refine awp_cond_f rfl ?_
                    refine awp_skip_wk ?_
                    refine ⟨_, Wk.refl _ _, ?_⟩
                    show awp _ _ _ _ _ _ _
                    refine awp_regs hF ?_
                    refine dv (gyes_none rfl) (q_mv (v := .int .i64 ((q : Nat) : Int)) rfl) rfl (by decide) (cok1 trivial) ?_
                    refine dv (gyes_none rfl) (OpQ.cast (v' := .int .i64 ((q + 1 : Nat) : Int)) (q_int rfl rfl rfl) (congrArg _ ((i64_in (by omega)).trans (by first | rfl | omega | (push_cast; rfl))))) rfl (by decide) (cok2 trivial (cconst rfl)) ?_
                    refine dv (gyes_none rfl) (q_as (v := .int .i64 ((q + 1 : Nat) : Int)) rfl) rfl (by decide) (cok1 trivial) ?_
                    refine ⟨_, Wk.U [(0, w5), (1, vo), (11, .pointer (some ⟨b34, 0, none⟩)), (14, .int .i64 (((q + 1) : Nat) : Int))] ⟨rfl, rfl, rfl, rfl, trivial⟩, (q + 1), ⟨_, rfl, (s61.sub (.cons _ (.cons _ (.cons _ (.cons_cons _ (.cons_cons _ (.cons_cons _ (.cons_cons _ (.cons_cons _ (.cons_cons _ (.cons_cons _ (.refl _))))))))))))⟩, (by omega)⟩
              ·
                replace c4 := of_decide_eq_false c4
                refine dv (gyes_none rfl) (q_pt (v := .bool false) rfl rfl) rfl (by decide) (call_ok rfl) ?_
                refine ⟨_, Wk.refl _ _, ?_⟩
                show awp _ _ _ _ _ _ _
                refine awp_cond_f rfl ?_
                refine awp_exit_wk ?_
                refine ⟨_, Wk.refl _ _, ?_⟩
                show awp _ _ _ _ _ _ _
                refine awp_seq ?_
                refine awp_regs hF ?_
                refine dv (gyes_none rfl) (q_as (v := .bool true) rfl) rfl (by decide) (cok1 (cconst rfl)) ?_
                refine ⟨_, Wk.refl _ _, ?_⟩
                show awp _ _ _ _ _ _ _
                refine awp_ret_wk ?_
                refine ⟨_, Wk.refl _ _, ?_⟩
                repeat (with_reducible first | refine then_ret ?_ | refine blk_ret ?_ | refine then_exit ?_ | refine blk_exit ?_ | refine blk_exit' (by decide) ?_ | refine blk_normal ?_ | refine then_normal ?_ | refine retq_ret ?_ | refine retq_normal ?_ | refine ng_normal ?_ | refine ng_ret ?_ | refine ng_exit ?_)
                exact ret_none (v := .bool true) rfl s43.kp (.tmp rfl .nil) rfl rfl ⟨rfl, rfl⟩
            ·
              replace c3 := of_decide_eq_false c3
              refine dv (gyes_none rfl) (q_mv (v := .bool false) rfl) rfl (by decide) (cok1 trivial) ?_
              refine dno rfl (.inl rfl) rfl (by decide) ?_
              refine dno rfl (.inl rfl) rfl (by decide) ?_
              refine dv (gyes_none rfl) (q_pf (v := .bool false) rfl rfl) rfl (by decide) (call_ok rfl) ?_
              refine ⟨_, Wk.refl _ _, ?_⟩
              show awp _ _ _ _ _ _ _
              refine awp_cond_f rfl ?_
              refine awp_exit_wk ?_
              refine ⟨_, Wk.refl _ _, ?_⟩
              show awp _ _ _ _ _ _ _
              refine awp_seq ?_
              refine awp_regs hF ?_
              refine dv (gyes_none rfl) (q_as (v := .bool true) rfl) rfl (by decide) (cok1 (cconst rfl)) ?_
              refine ⟨_, Wk.refl _ _, ?_⟩
              show awp _ _ _ _ _ _ _
              refine awp_ret_wk ?_
              refine ⟨_, Wk.refl _ _, ?_⟩
              repeat (with_reducible first | refine then_ret ?_ | refine blk_ret ?_ | refine then_exit ?_ | refine blk_exit ?_ | refine blk_exit' (by decide) ?_ | refine blk_normal ?_ | refine then_normal ?_ | refine retq_ret ?_ | refine retq_normal ?_ | refine ng_normal ?_ | refine ng_ret ?_ | refine ng_exit ?_)
              exact ret_none (v := .bool true) rfl s43.kp (.tmp rfl .nil) rfl rfl ⟨rfl, rfl⟩

end Go.Proofs.YtponfeigjmjbmaaA

