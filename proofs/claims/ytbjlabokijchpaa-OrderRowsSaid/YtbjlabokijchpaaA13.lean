/-
  The steps of a walk, as a program prints them.
-/
import Derived.Test.YtbjlabokijchpaaA12
namespace Go.Proofs.YtbjlabokijchpaaA
set_option linter.unusedVariables false
open Go Go.RowKit Go.Shelf
section
variable {P : Program} {T : Nat → Value} {H : AHeap} {dst : Option Tmp} {ty : TypeId} {pos : String} {af : Array Edge} {g : Option (Nat × Bool)}
theorem q_mv {x : Operand} {v : Value} (hx : ev T x = v) : OpQ P ⟨dst, .move x, ty, pos, af, g⟩ T H v [] := by subst hx; exact q_move
theorem q_as {x : Operand} {v : Value} (hx : ev T x = v) : OpQ P ⟨dst, .assign x, ty, pos, af, g⟩ T H v [] := by subst hx; exact q_assign
theorem q_pt {c x y : Operand} {v : Value} (hc : ev T c = .bool true) (hx : ev T x = v) : OpQ P ⟨dst, .pick c x y, ty, pos, af, g⟩ T H v [] := by subst hx; exact q_pick_t hc
theorem q_pf {c x y : Operand} {v : Value} (hc : ev T c = .bool false) (hy : ev T y = v) : OpQ P ⟨dst, .pick c x y, ty, pos, af, g⟩ T H v [] := by subst hy; exact q_pick_f hc
theorem OpQ.cast {o : Oper} {v v' : Value} {Δ : AHeap} (h : OpQ P o T H v Δ) (e : v = v') : OpQ P o T H v' Δ := e ▸ h
theorem i64_in {a : Int} (h : -9223372036854775808 ≤ a ∧ a ≤ 9223372036854775807) : IntKind.i64.wrap a = a := IntWalk.i64_in _ h
theorem u64_in {a : Int} (h : 0 ≤ a ∧ a < 18446744073709551616) : IntKind.u64.wrap a = a := by
  simp only [IntKind.wrap, IntKind.signed, IntKind.bits]
  simp only [Bool.false_and, Bool.false_eq_true, if_false]
  exact Int.emod_eq_of_lt h.1 (by simpa using h.2)
theorem u32_in {a : Int} (h : 0 ≤ a ∧ a < 4294967296) : IntKind.u32.wrap a = a := by
  simp only [IntKind.wrap, IntKind.signed, IntKind.bits]
  simp only [Bool.false_and, Bool.false_eq_true, if_false]
  exact Int.emod_eq_of_lt h.1 (by simpa using h.2)
theorem u8_in {a : Int} (h : 0 ≤ a ∧ a < 256) : IntKind.u8.wrap a = a := by
  simp only [IntKind.wrap, IntKind.signed, IntKind.bits]
  simp only [Bool.false_and, Bool.false_eq_true, if_false]
  exact Int.emod_eq_of_lt h.1 (by simpa using h.2)
theorem q_add64 {t u : TypeId} {x y : Operand} {a b : Int} (hx : ev T x = .int .i64 a) (hy : ev T y = .int .i64 b) (h : -9223372036854775808 ≤ a + b ∧ a + b ≤ 9223372036854775807) : OpQ P ⟨dst, .binOp .add t x y u, ty, pos, af, g⟩ T H (.int .i64 (a + b)) [] :=
  (q_int hx hy rfl).cast (by rw [i64_in h])
theorem q_sub64 {t u : TypeId} {x y : Operand} {a b : Int} (hx : ev T x = .int .i64 a) (hy : ev T y = .int .i64 b) (h : -9223372036854775808 ≤ a - b ∧ a - b ≤ 9223372036854775807) : OpQ P ⟨dst, .binOp .sub t x y u, ty, pos, af, g⟩ T H (.int .i64 (a - b)) [] :=
  (q_int hx hy rfl).cast (by rw [i64_in h])
theorem q_mul64 {t u : TypeId} {x y : Operand} {a b : Int} (hx : ev T x = .int .i64 a) (hy : ev T y = .int .i64 b) (h : -9223372036854775808 ≤ a * b ∧ a * b ≤ 9223372036854775807) : OpQ P ⟨dst, .binOp .mul t x y u, ty, pos, af, g⟩ T H (.int .i64 (a * b)) [] :=
  (q_int hx hy rfl).cast (by rw [i64_in h])
theorem q_addu {t u : TypeId} {x y : Operand} {a b : Int} (hx : ev T x = .int .u64 a) (hy : ev T y = .int .u64 b) (h : 0 ≤ a + b ∧ a + b < 18446744073709551616) : OpQ P ⟨dst, .binOp .add t x y u, ty, pos, af, g⟩ T H (.int .u64 (a + b)) [] :=
  (q_int hx hy rfl).cast (by rw [u64_in h])
theorem q_subu {t u : TypeId} {x y : Operand} {a b : Int} (hx : ev T x = .int .u64 a) (hy : ev T y = .int .u64 b) (h : 0 ≤ a - b ∧ a - b < 18446744073709551616) : OpQ P ⟨dst, .binOp .sub t x y u, ty, pos, af, g⟩ T H (.int .u64 (a - b)) [] :=
  (q_int hx hy rfl).cast (by rw [u64_in h])
theorem q_mulu {t u : TypeId} {x y : Operand} {a b : Int} (hx : ev T x = .int .u64 a) (hy : ev T y = .int .u64 b) (h : 0 ≤ a * b ∧ a * b < 18446744073709551616) : OpQ P ⟨dst, .binOp .mul t x y u, ty, pos, af, g⟩ T H (.int .u64 (a * b)) [] :=
  (q_int hx hy rfl).cast (by rw [u64_in h])
theorem q_convin {s d : TypeId} {x : Operand} {k k' : IntKind} {a : Int} {u : TypeDesc} (hs : P.underlying s = some u) (hd : P.underlying d = some (.int k')) (hx : ev T x = .int k a) (h : k'.wrap a = a) :
    OpQ P ⟨dst, .convert s d x, ty, pos, af, g⟩ T H (.int k' a) [] := (q_conv hs hd hx).cast (by rw [h])
theorem q_quoN {t u : TypeId} {x y : Operand} {k : IntKind} {a b : Int} (hx : ev T x = .int k a) (hy : ev T y = .int k b) (ha : 0 ≤ a) (hb : 0 < b) (hw : k.wrap (a / b) = a / b) : OpQ P ⟨dst, .binOp .quo t x y u, ty, pos, af, g⟩ T H (.int k (a / b)) [] :=
  (q_quo hx hy (by omega)).cast (by rw [Int.tdiv_eq_ediv_of_nonneg ha, hw])
theorem q_remN {t u : TypeId} {x y : Operand} {k : IntKind} {a b : Int} (hx : ev T x = .int k a) (hy : ev T y = .int k b) (ha : 0 ≤ a) (hb : 0 < b) : OpQ P ⟨dst, .binOp .rem t x y u, ty, pos, af, g⟩ T H (.int k (a % b)) [] :=
  (q_rem hx hy (by omega)).cast (by rw [Int.tmod_eq_emod_of_nonneg ha])
theorem quo_in {n m : Nat} (h : n ≤ 9223372036854775807) : IntKind.i64.wrap (((n : Nat) : Int) / ((m : Nat) : Int)) = ((n : Nat) : Int) / ((m : Nat) : Int) := by
  have e : ((n : Nat) : Int) / ((m : Nat) : Int) = ((n / m : Nat) : Int) := rfl
  have h1 := Nat.div_le_self n m
  rw [e]
  generalize n / m = q at h1
  exact i64_in (by omega)
/-- The place of an element, the index a whole number. -/
theorem q_indexI {t el : TypeId} {x y : Operand} {b o n len c : Nat} {k : IntKind} {z : Int} {vs : List Value} {sz : Nat} (hu : P.underlying t = some (.slice el)) (hs : ∀ w, (sizeOf el).run P w = .ok n w)
    (hx : ev T x = .slice (some ⟨b, o, none⟩) len c) (hy : ev T y = .int k z) (hi : 0 ≤ z ∧ z < len) (hR : Rd H b vs sz) : OpQ P ⟨dst, .indexAddr t x y, ty, pos, af, g⟩ T H (.pointer (some ⟨b, o + z.toNat * n, none⟩)) [] :=
  q_index (u := 0) hu hs hx (by rw [hy, Int.toNat_of_nonneg hi.1]) (by omega) hR
theorem q_index1 {t el : TypeId} {x y : Operand} {b o len c i : Nat} {k : IntKind} {vs : List Value} {sz : Nat} (hu : P.underlying t = some (.slice el)) (hs : ∀ w, (sizeOf el).run P w = .ok 1 w)
    (hx : ev T x = .slice (some ⟨b, o, none⟩) len c) (hy : ev T y = .int k (i : Int)) (hi : i < len) (hR : Rd H b vs sz) : OpQ P ⟨dst, .indexAddr t x y, ty, pos, af, g⟩ T H (.pointer (some ⟨b, o + i, none⟩)) [] :=
  (q_index (u := 0) hu hs hx hy hi hR).cast (by rw [Nat.mul_one])
theorem q_call0 {f : FuncId} {xs : Array Operand} {ats : Array TypeId} {args : List Value} {v : Value} (hE : Enters P f) (hargs : xs.toList.map (ev T) = args) (h : ACalls P f args H (Rets v H)) :
    OpQ P ⟨dst, .call { callee := .value (.func f), args := xs, argTypes := ats }, ty, pos, af, g⟩ T H v [] := q_call hE hargs (by simp) (by rw [List.append_nil]; exact h)
theorem q_callv0 {f : FuncId} {x : Operand} {xs : Array Operand} {ats : Array TypeId} {cs : Array Value} {args : List Value} {v : Value} (hE : Enters P f) (hx : ev T x = .func (.func f) #[] cs) (hargs : xs.toList.map (ev T) ++ cs.toList = args) (h : ACalls P f args H (Rets v H)) :
    OpQ P ⟨dst, .call { callee := .value x, args := xs, argTypes := ats }, ty, pos, af, g⟩ T H v [] := q_callv hE hx hargs (by simp) (by rw [List.append_nil]; exact h)
theorem q_allocN {t : TypeId} {z : Value} {N : Nat} (sz : Nat) {vs : List Value} (hN : H.length = N) (hz : ∀ w, (zeroValue t).run P w = .ok z w) (hf : Flat z) (hvs : z.cells.toList = vs) :
    OpQ P ⟨dst, .alloc t, ty, pos, af, g⟩ T H (.pointer (some ⟨N, 0, none⟩)) [.cells true vs sz] := by subst hN; exact q_alloc sz hz hf hvs
theorem q_boxN {t : TypeId} {x : Operand} {v : Value} {N : Nat} (sz : Nat) {vs : List Value} (hN : H.length = N) (hx : ev T x = v) (hl : Lv H v) (hvs : v.cells.toList = vs) :
    OpQ P ⟨dst, .box t x, ty, pos, af, g⟩ T H (.pointer (some ⟨N, 0, none⟩)) [.cells true vs sz] := by subst hN; exact q_box sz hx hl hvs
theorem q_buildSliceN {t el : TypeId} {len : Nat} {parts : Array (Nat × Operand)} {n N : Nat} {z : Value} {ds : Array Value} {vs : List Value} (hN : H.length = N) (hu : P.underlying t = some (.slice el)) (hs : ∀ w, (sizeOf el).run P w = .ok n w) (hz : ∀ w, (zeroValue el).run P w = .ok z w) (hf : z.cells.toList.all Scalar = true) (hzn : 0 < z.cells.size)
    (hlim : len * n ≤ 16777216) (hl : ∀ x ∈ (parts.toList.map (·.2)), Lv H (ev T x))
    (hds : Instr.fill (fun i => some (i * n, n)) ((Array.range (len * n)).map (z.cells[· % z.cells.size]!)) (pmap (ev T) parts).toList = some ds) (hvs : ds.toList = vs) (hnl : ds.size = len * n) :
    OpQ P ⟨dst, .buildSlice t len parts, ty, pos, af, g⟩ T H (.slice (some ⟨N, 0, none⟩) len len) [.cells true vs n] := by subst hN; exact q_buildSlice hu hs hz hf hzn hlim hl hds hvs hnl
end
section
variable {F : Fence} {n : Nat} {P : Program} {N0 : AHeap} {ops : Array Oper} {o : Oper} {rest : List Oper} {K : ASt → Prop} {nt : Nat} {T : Nat → Value} {D : List Nat} {H H' : AHeap} {d : Tmp} {v : Value} {Δ : AHeap} {tab : List Nat} {i : Nat}
/-- A test's value comes to a slot: both ways. -/
theorem svb {b : Bool} (hF : Wd F) (hg : GYes ops o T) (hq : OpQ P o T H (.bool b) []) (hd : o.dst = some d) (hn : d < nt) (hc : ∀ x ∈ o.op.operands, cOk H x) (h1 : b = true → aList F n P N0 ops rest K ⟨nt, upd T d (.bool true), D, H⟩) (h2 : b = false → aList F n P N0 ops rest K ⟨nt, upd T d (.bool false), D, H⟩) :
    aList F n P N0 ops (o :: rest) K ⟨nt, T, D, H⟩ := by
  cases b
  · exact sv hF hg hq hd hn hc (h2 rfl)
  · exact sv hF hg hq hd hn hc (h1 rfl)
theorem dvb {b : Bool} (hg : GYes ops o T) (hq : OpQ P o T H (.bool b) []) (hd : o.dst = some d) (hn : d < nt) (hc : ∀ x ∈ o.op.operands, cOk H x) (h1 : b = true → dList F n P N0 ops tab (i + 1) rest K ⟨nt, upd T d (.bool true), D, H⟩) (h2 : b = false → dList F n P N0 ops tab (i + 1) rest K ⟨nt, upd T d (.bool false), D, H⟩) :
    dList F n P N0 ops tab i (o :: rest) K ⟨nt, T, D, H⟩ := by
  cases b
  · exact dv hg hq hd hn hc (h2 rfl)
  · exact dv hg hq hd hn hc (h1 rfl)
variable {Q : AEx → ASt → Prop}
theorem awp_cond_t {t : Tmp} {x y : Code} (hc : T t = .bool true) (h : awp F n P N0 x Q ⟨nt, T, D, H⟩) : awp F n P N0 (.cond (.tmp t) x y) Q ⟨nt, T, D, H⟩ := awp_cond (b := true) hc h
theorem awp_cond_f {t : Tmp} {x y : Code} (hc : T t = .bool false) (h : awp F n P N0 y Q ⟨nt, T, D, H⟩) : awp F n P N0 (.cond (.tmp t) x y) Q ⟨nt, T, D, H⟩ := awp_cond (b := false) hc h
theorem awp_cond_b {t : Tmp} {x y : Code} {b : Bool} (hc : T t = .bool b) (h1 : b = true → awp F n P N0 x Q ⟨nt, T, D, H⟩) (h2 : b = false → awp F n P N0 y Q ⟨nt, T, D, H⟩) : awp F n P N0 (.cond (.tmp t) x y) Q ⟨nt, T, D, H⟩ := awp_cond_split hc h1 h2
variable {op : Op} {ty : TypeId} {pos : String} {af : Array Edge} {g : Option (Nat × Bool)}
theorem se_store1 (hF : Wd F) (hg : GYes ops ⟨none, op, ty, pos, af, g⟩ T) {t : TypeId} {x y : Operand} {b oo : Nat} {vs : List Value} {sz : Nat} {v : Value} (hop : op = .store t x y) (hs : ∀ w, (sizeOf t).run P w = .ok 1 w) (hx : ev T x = .pointer (some ⟨b, oo, none⟩)) (hy : ev T y = v) (hH : H[b]? = some (.cells true vs sz))
    (hc : Lc H v) (ho : oo < vs.length) (hcx : cOk H x) (hcy : cOk H y) (hH' : H.set b (.cells true (vs.set oo v) sz) = H') (hk : aList F n P N0 ops rest K ⟨nt, T, D, H'⟩) : aList F n P N0 ops (⟨none, op, ty, pos, af, g⟩ :: rest) K ⟨nt, T, D, H⟩ := by
  subst hop; subst hH'
  exact se hg (o_store1 hF hs hx hy hH hc ho hcx hcy hk)
theorem de_store1 (hF : Wd F) (hcut : cutOk ops tab i = true) (hg : GYes ops ⟨none, op, ty, pos, af, g⟩ T) {t : TypeId} {x y : Operand} {b oo : Nat} {vs : List Value} {sz : Nat} {v : Value} (hop : op = .store t x y) (hs : ∀ w, (sizeOf t).run P w = .ok 1 w) (hx : ev T x = .pointer (some ⟨b, oo, none⟩)) (hy : ev T y = v) (hH : H[b]? = some (.cells true vs sz))
    (hc : Lc H v) (ho : oo < vs.length) (hcx : cOk H x) (hcy : cOk H y) (hH' : H.set b (.cells true (vs.set oo v) sz) = H') (hk : dList F n P N0 ops tab (i + 1) rest K ⟨nt, T, D, H'⟩) : dList F n P N0 ops tab i (⟨none, op, ty, pos, af, g⟩ :: rest) K ⟨nt, T, D, H⟩ := by
  subst hop; subst hH'
  exact de hcut hg (o_store1 hF hs hx hy hH hc ho hcx hcy hk)
theorem se_store (hF : Wd F) (hg : GYes ops ⟨none, op, ty, pos, af, g⟩ T) {t : TypeId} {x y : Operand} {b oo m : Nat} {vs us : List Value} {sz : Nat} {v : Value} (hop : op = .store t x y) (hs : ∀ w, (sizeOf t).run P w = .ok m w) (hx : ev T x = .pointer (some ⟨b, oo, none⟩)) (hy : ev T y = v) (hH : H[b]? = some (.cells true vs sz))
    (hus : v.cells.toList = us) (hm : us.length = m) (hl : Lv H v) (hc : ∀ u ∈ us, Lc H u) (ho : oo + us.length ≤ vs.length) (hcx : cOk H x) (hcy : cOk H y) (hH' : H.set b (.cells true (splice vs oo us) sz) = H') (hk : aList F n P N0 ops rest K ⟨nt, T, D, H'⟩) : aList F n P N0 ops (⟨none, op, ty, pos, af, g⟩ :: rest) K ⟨nt, T, D, H⟩ := by
  subst hop; subst hH'
  exact se hg (o_store hF hs hx hy hH hus hm hl hc ho hcx hcy trivial hk)
theorem de_store (hF : Wd F) (hcut : cutOk ops tab i = true) (hg : GYes ops ⟨none, op, ty, pos, af, g⟩ T) {t : TypeId} {x y : Operand} {b oo m : Nat} {vs us : List Value} {sz : Nat} {v : Value} (hop : op = .store t x y) (hs : ∀ w, (sizeOf t).run P w = .ok m w) (hx : ev T x = .pointer (some ⟨b, oo, none⟩)) (hy : ev T y = v) (hH : H[b]? = some (.cells true vs sz))
    (hus : v.cells.toList = us) (hm : us.length = m) (hl : Lv H v) (hc : ∀ u ∈ us, Lc H u) (ho : oo + us.length ≤ vs.length) (hcx : cOk H x) (hcy : cOk H y) (hH' : H.set b (.cells true (splice vs oo us) sz) = H') (hk : dList F n P N0 ops tab (i + 1) rest K ⟨nt, T, D, H'⟩) : dList F n P N0 ops tab i (⟨none, op, ty, pos, af, g⟩ :: rest) K ⟨nt, T, D, H⟩ := by
  subst hop; subst hH'
  exact de hcut hg (o_store hF hs hx hy hH hus hm hl hc ho hcx hcy trivial hk)
theorem df_store1 (hF : Wd F) (fl : List Nat) (hfl : floatOk ops tab i fl = true) (hg : GYes ops ⟨none, op, ty, pos, af, g⟩ T) {t : TypeId} {x y : Operand} {b oo : Nat} {vs : List Value} {sz : Nat} {v : Value} (hop : op = .store t x y) (hs : ∀ w, (sizeOf t).run P w = .ok 1 w) (hx : ev T x = .pointer (some ⟨b, oo, none⟩)) (hy : ev T y = v) (hH : H[b]? = some (.cells true vs sz))
    (hc : Lc H v) (ho : oo < vs.length) (hcx : cOk H x) (hcy : cOk H y) (hH' : H.set b (.cells true (vs.set oo v) sz) = H') (hfx : offF ops fl x = true) (hfy : offF ops fl y = true) (hpd : PendL P ops ⟨nt, T, D, H'⟩ fl) (hk : dList F n P N0 ops tab (i + 1) rest K ⟨nt, T, D, H'⟩) : dList F n P N0 ops tab i (⟨none, op, ty, pos, af, g⟩ :: rest) K ⟨nt, T, D, H⟩ := by
  subst hop; subst hH'
  refine df (v := undef) (H' := H.set b (.cells true (vs.set oo v) sz)) fl hfl hg (fun T' hT K' hk' => ?_) hpd hk
  exact o_store1 hF hs ((offF_ev hfx hT).trans hx) ((offF_ev hfy hT).trans hy) hH hc ho hcx hcy hk'
theorem df_store (hF : Wd F) (fl : List Nat) (hfl : floatOk ops tab i fl = true) (hg : GYes ops ⟨none, op, ty, pos, af, g⟩ T) {t : TypeId} {x y : Operand} {b oo m : Nat} {vs us : List Value} {sz : Nat} {v : Value} (hop : op = .store t x y) (hs : ∀ w, (sizeOf t).run P w = .ok m w) (hx : ev T x = .pointer (some ⟨b, oo, none⟩)) (hy : ev T y = v) (hH : H[b]? = some (.cells true vs sz))
    (hus : v.cells.toList = us) (hm : us.length = m) (hl : Lv H v) (hc : ∀ u ∈ us, Lc H u) (ho : oo + us.length ≤ vs.length) (hcx : cOk H x) (hcy : cOk H y) (hH' : H.set b (.cells true (splice vs oo us) sz) = H') (hfx : offF ops fl x = true) (hfy : offF ops fl y = true) (hpd : PendL P ops ⟨nt, T, D, H'⟩ fl) (hk : dList F n P N0 ops tab (i + 1) rest K ⟨nt, T, D, H'⟩) : dList F n P N0 ops tab i (⟨none, op, ty, pos, af, g⟩ :: rest) K ⟨nt, T, D, H⟩ := by
  subst hop; subst hH'
  refine df (v := undef) (H' := H.set b (.cells true (splice vs oo us) sz)) fl hfl hg (fun T' hT K' hk' => ?_) hpd hk
  exact o_store hF hs ((offF_ev hfx hT).trans hx) ((offF_ev hfy hT).trans hy) hH hus hm hl hc ho hcx hcy trivial hk'
end
/-- Values of a slice's cells, alive. -/
theorem lc_scalar {H : AHeap} {v : Value} (h : Scalar v = true) : Lc H v := by
  refine ⟨?_, ?_⟩
  · cases v with
    | pointer a => cases a with | none => trivial | some a => simp [Scalar] at h
    | slice a n c => cases a with | none => trivial | some a => simp [Scalar] at h
    | map a => cases a with | none => trivial | some a => simp [Scalar] at h
    | func fn fs cs => simp [Scalar] at h
    | chan r => simp [Scalar] at h
    | _ => trivial
  · cases v <;> first | rfl | simp [Scalar] at h
theorem lc_slice {H : AHeap} {b o n c : Nat} (h : H[b]? ≠ some .dead) : Lc H (.slice (some ⟨b, o, none⟩) n c) := ⟨h, rfl⟩
theorem lc_ptr {H : AHeap} {b o : Nat} (h : H[b]? ≠ some .dead) : Lc H (.pointer (some ⟨b, o, none⟩)) := ⟨h, rfl⟩
end Go.Proofs.YtbjlabokijchpaaA
