/-
  Empty literals; appends to these are quiet; numbers.
-/
import Derived.Test.YtbjlabokijchpaaB2
namespace Go.Proofs.YtbjlabokijchpaaA
set_option linter.unusedVariables false
open Go Go.RowKit Go.Shelf
theorem hrel_grow {ρ : Ren} {H : AHeap} {w w1 : World} (hh : HRel ρ H w) (hsz : w.heap.size ≤ w1.heap.size) (hk : ∀ k, k < w.heap.size → w1.heap[k]? = w.heap[k]?) : HRel ρ H w1 :=
  ⟨hh.bound, fun b l hb => by
    obtain ⟨o, h1, h2, h3⟩ := hh.rel b l hb
    exact ⟨o, h1, Nat.lt_of_lt_of_le h2 hsz, h3.mono (fun _ _ => .inl rfl) (hk _ h2)⟩, hh.inj, hh.glob, hh.isdead⟩
section
variable {P : Program} {T : Nat → Value} {H : AHeap} {dst : Option Tmp} {ty : TypeId} {pos : String} {af : Array Edge} {g : Option (Nat × Bool)}
/-- A new name that stands for nil, or for a slice of no elements and no room: quiet. -/
theorem null_ext {ρ : Ren} {w w1 : World} (hh : HRel ρ H w) (ob : AObj) (hg : ∀ vs sz, ob ≠ .glob vs sz) (hsz : w.heap.size ≤ w1.heap.size) (hk : ∀ k, k < w.heap.size → w1.heap[k]? = w.heap[k]?) (hos : w1.os = w.os) (htape : w1.tape = w.tape) (hout : w1.output = w.output) :
    ∃ ρ', ρ' H.length = .null ∧ HRel ρ' (H ++ [ob]) w1 ∧ Ext ρ H w ρ' w1 := by
  obtain ⟨ρ', r1, r2, r3, r4⟩ := null_new (hrel_grow hh hsz hk) (o := ob) hg
  refine ⟨ρ', r1, r4, ⟨hos, htape, hout, hsz, fun k hk' _ => hk k hk', fun b hb => r2 b (by omega), fun b l' hb hl => ?_⟩⟩
  by_cases e : b = H.length
  · rw [e, r1] at hl; cases hl
  · rw [r2 b e, hh.bound b hb] at hl; cases hl
theorem q_emptyLit {t el : TypeId} {n : Nat} (hu : P.underlying t = some (.slice el)) (hs : ∀ w, (sizeOf el).run P w = .ok n w) :
    OpQ P ⟨dst, .buildSlice t 0 #[], ty, pos, af, g⟩ T H (.slice (some ⟨H.length, 0, none⟩) 0 0) [.null] := by
  refine ⟨by simp, by simp [AObj.wr], fun ρ e w hh he => ?_⟩
  have hr : (execOp e ⟨dst, .buildSlice t 0 #[], ty, pos, af, g⟩).run P w = .ok (.value (.slice (some ⟨w.heap.size, 0, none⟩) 0 0)) (w.alloc (.cells #[] el)) := by
    refine run_v ?_
    show (Instr.buildSlice t 0 (pmap e #[])).run P w = _
    rw [show pmap e #[] = #[] by simp [pmap]]
    unfold Instr.buildSlice
    simp only [Sem.run_bind, run_und hu, Result.andThen_ok, hs w, Nat.zero_mul]
    rw [if_neg (by omega), if_pos trivial]
    have h5 : Array.map (fun x => (#[] : Array Value)[x % (#[] : Array Value).size]!) (Array.range 0) = #[] := by simp
    simp only [Sem.run_bind, Sem.run_pure, Result.andThen_ok, h5]
    rfl
  rw [hr]
  obtain ⟨ρ', k1, k2, k3⟩ := null_ext (w1 := w.alloc (.cells #[] el)) hh .null (by simp) (by simp [World.size_alloc]) (fun k hk => Below.heap_alloc w _ k hk) rfl rfl rfl
  exact ⟨ρ', .empty k1, k2, k3⟩
theorem vrel_null {ρ : Ren} {w : World} (hh : HRel ρ H w) {b o : Nat} {v' : Value} (h : VRel ρ (.slice (some ⟨b, o, none⟩) 0 0) v') (hl : H[b]? = some .null) : ∃ a, v' = .slice a 0 0 := by
  cases h with
  | slice h =>
    obtain ⟨o, h1, h2, h3⟩ := hh.rel _ _ h
    rw [hl] at h1; cases h1
    exact h3.elim
  | empty h => exact ⟨_, rfl⟩
  | dead h => exact absurd (hh.isdead b h) (by rw [hl]; simp)
/-- append to an empty literal: a new block. It is quiet. -/
theorem q_append_null {x y : Operand} {sT yT el : TypeId} {i : TypeInfo} {z vy : Value} {b o m m' sz : Nat} {xs : List Value} (hm' : m = m') (hu : P.underlying sT = some (.slice el)) (hi : P.info? el = some i) (hiz : i.zero = some z) (hsz : i.size = sz) (hpos : 0 < i.bytes) (hzs : z.cells.size = sz)
    (hx : ev T x = .slice (some ⟨b, o, none⟩) 0 0) (hyv : ev T y = vy) (hH : H[b]? = some .null) (hy0 : ∀ ρ w v', HRel ρ H w → VRel ρ vy v' → ∃ ns, Src P sz yT v' m ns w ∧ LRel ρ xs ns) (hxs : xs.length = m * sz) (hbig : (2 * m' + 1000) * i.bytes ≤ 281474976710656) :
    OpQ P ⟨dst, .call { callee := .builtin .append, args := #[x, y], argTypes := #[sT, yT] }, ty, pos, af, g⟩ T H (.slice (some ⟨H.length, 0, none⟩) m' m') [.cells true xs sz] := by
  subst hm'
  refine ⟨by simp, by simp [AObj.wr], fun ρ e w hh he => ?_⟩
  have h1 := he x (by simp [Op.operands, Call.operands])
  have h2 := he y (by simp [Op.operands, Call.operands])
  rw [hx] at h1
  rw [hyv] at h2
  subst hsz
  obtain ⟨ba, e1⟩ := vrel_null hh h1 hH
  obtain ⟨ns, hS, hN⟩ := hy0 ρ w _ hh h2
  have hNl : ns.length = m * i.size := hS.newsLen
  have hexec : ∀ (v : Value) (w' : World), (Builtin.append_ #[sT, yT] ty #[e x, e y]).run P w = .ok v w' → (execOp e ⟨dst, .call { callee := .builtin .append, args := #[x, y], argTypes := #[sT, yT] }, ty, pos, af, g⟩).run P w = .ok (.value v) w' :=
    fun v w' h => run_builtin (us := #[e x, e y]) (by simp) (run_v h)
  by_cases hm0 : m = 0
  · subst hm0
    have hns : ns = [] := List.length_eq_zero_iff.1 (by rw [hNl, Nat.zero_mul])
    have hr : (Builtin.append_ #[sT, yT] ty #[e x, e y]).run P w = .ok (.slice ba 0 0) w := by
      rw [e1]
      exact append_zero w hu hi hS hns ba
    rw [hexec _ _ hr]
    obtain ⟨ρ', k1, k2, k3⟩ := null_ext hh (.cells true xs i.size) (by simp) (Nat.le_refl _) (fun _ _ => rfl) rfl rfl rfl
    exact ⟨ρ', .empty k1, k2, k3⟩
  · have hnb : m ≤ (2 * m + 1000) * i.bytes := Nat.le_trans (by omega) (Nat.le_mul_of_pos_right _ hpos)
    have hr := run_append_grow_src (P := P) w sT yT ty el i z hu hi hiz ba 0 0 [] (first_zero _ _ _) (e y) m ns hS (by omega) (by omega) (by rw [Nat.zero_add]; have := Nat.mul_le_mul_right i.bytes (nextcap_le (n := m) (o := 0) (by omega)); omega)
    simp only [Nat.zero_add] at hr
    rw [← e1] at hr
    rw [hexec _ _ hr]
    have hcap := grownCap_ge w m 0 el
    obtain ⟨ρ', k1, k2, k3, k4⟩ := new_cells (w1 := w.drew.alloc (.cells (([] ++ ns).toArray ++ Builtin.zeroCells z.cells (grownCap w m 0 el - m)) el)) (E := el) (fr := (0, 0)) (hh.drawn (w.drawn + 1)) i.size (vs := xs) (cs := ([] ++ ns).toArray ++ Builtin.zeroCells z.cells (grownCap w m 0 el - m))
      (fun p hp => by
        have := hN.2 p hp
        have hp' : p < ns.length := by have := hN.1; omega
        have e3 : (([] ++ ns).toArray ++ Builtin.zeroCells z.cells (grownCap w m 0 el - m)).getD (0 + p) undef = ns.getD p undef := by
          rw [Nat.zero_add, Array.getD_eq_getD_getElem?, List.getD_eq_getElem?_getD, Array.getElem?_append_left (by simpa using hp')]
          simp
        rw [e3]; exact this) (by simp [hNl]; omega) (frozen_none _) rfl rfl rfl rfl
    refine ⟨ρ', .slice k1 (Nat.le_refl _) (by omega) (.inl rfl) ?_, k3, ⟨k4.os, k4.tape, k4.output, k4.size, k4.keep, k4.old, k4.fresh⟩⟩
    show 0 + 0 + grownCap w m 0 el * i.size ≤ _
    simp only [List.nil_append, Array.size_append, List.size_toArray, hNl, size_zeroCells, hzs]
    rw [← Nat.add_mul]
    simp only [Nat.zero_add]
    exact Nat.mul_le_mul_right _ (by omega)
theorem q_append_nullS {α : Type} {f : α → Value} {x y : Operand} {sT yT el e' : TypeId} {i : TypeInfo} {z vy : Value} {b o m' : Nat} {l : List α} (hm' : l.length = m') (hu : P.underlying sT = some (.slice el)) (hy : P.underlying yT = some (.slice e')) (hi : P.info? el = some i) (hiz : i.zero = some z) (hsz : i.size = 1) (hpos : 0 < i.bytes) (hzs : z.cells.size = 1)
    (hx : ev T x = .slice (some ⟨b, o, none⟩) 0 0) (hyv : ev T y = vy) (hH : H[b]? = some .null) (hS : Sl f H vy l) (hf : ∀ x, Lc H (f x)) (hbig : (2 * m' + 1000) * i.bytes ≤ 281474976710656) :
    OpQ P ⟨dst, .call { callee := .builtin .append, args := #[x, y], argTypes := #[sT, yT] }, ty, pos, af, g⟩ T H (.slice (some ⟨H.length, 0, none⟩) m' m') [.cells true (l.map f) 1] :=
  q_append_null hm' hu hi hiz hsz hpos hzs hx hyv hH (fun ρ w v' hh hv => src_sl hf hy hS ρ w v' hh hv) (by simp) hbig
/-! ### Numbers -/
theorem wrapU (k : IntKind) (hs : k.signed = false) (x : Nat) : k.wrap (x : Int) = ((x % 2 ^ k.bits : Nat) : Int) := by
  have : k.wrap (x : Int) = (x : Int) % 2 ^ k.bits := by
    cases k <;> first | (simp [IntKind.signed] at hs; done) | (simp [IntKind.wrap, IntKind.bits, IntKind.signed])
  rw [this]; norm_cast
theorem wrapU8 (x : Nat) : IntKind.u8.wrap (x : Int) = ((x % 256 : Nat) : Int) := wrapU .u8 rfl x
theorem wrapU16 (x : Nat) : IntKind.u16.wrap (x : Int) = ((x % 65536 : Nat) : Int) := wrapU .u16 rfl x
theorem wrapU32 (x : Nat) : IntKind.u32.wrap (x : Int) = ((x % 4294967296 : Nat) : Int) := wrapU .u32 rfl x
theorem wrapU64 (x : Nat) : IntKind.u64.wrap (x : Int) = ((x % 18446744073709551616 : Nat) : Int) := wrapU .u64 rfl x
theorem i32_in {a : Int} (h : -2147483648 ≤ a ∧ a ≤ 2147483647) : IntKind.i32.wrap a = a := by
  simp [IntKind.wrap, IntKind.signed, IntKind.bits, IntKind.max]; omega
/-- A byte of a text; beyond its end there is nothing to say. -/
def byt (s : ByteArray) (i : Nat) : Nat := (s.data.toList.getD i 0).toNat
theorem byt_eq {s : ByteArray} {i : Nat} (h : i < s.size) : byt s i = s[i].toNat := by
  unfold byt
  have h' : i < s.data.toList.length := by simpa using h
  rw [List.getD_eq_getElem?_getD, List.getElem?_eq_getElem h']
  rfl
theorem byt_lt (s : ByteArray) (i : Nat) : byt s i < 256 := (s.data.toList.getD i 0).toNat_lt
theorem q_byt {t : TypeId} {x y : Operand} {s : ByteArray} {k : IntKind} {i : Nat} (hu : P.underlying t = some .string) (hx : ev T x = .string s) (hy : ev T y = .int k i) (hi : i < s.size) :
    OpQ P ⟨dst, .index t x y, ty, pos, af, g⟩ T H (.int .u8 (byt s i : Nat)) [] := by
  rw [byt_eq hi]
  exact q_strix hu hx hy hi
theorem q_quoM {t u : TypeId} {x y : Operand} {k : IntKind} {a b : Nat} (hx : ev T x = .int k (a : Int)) (hy : ev T y = .int k (b : Int)) (hb : 0 < b) (hw : k.wrap ((a / b : Nat) : Int) = ((a / b : Nat) : Int)) : OpQ P ⟨dst, .binOp .quo t x y u, ty, pos, af, g⟩ T H (.int k ((a / b : Nat) : Int)) [] :=
  (q_quoN hx hy (by omega) (by omega) (by simpa using hw)).cast (by simp)
theorem q_remM {t u : TypeId} {x y : Operand} {k : IntKind} {a b : Nat} (hx : ev T x = .int k (a : Int)) (hy : ev T y = .int k (b : Int)) (hb : 0 < b) : OpQ P ⟨dst, .binOp .rem t x y u, ty, pos, af, g⟩ T H (.int k ((a % b : Nat) : Int)) [] :=
  (q_remN hx hy (by omega) (by omega)).cast (by simp)
theorem div_le_of {a b M : Nat} (h : a ≤ M) : a / b ≤ M := Nat.le_trans (Nat.div_le_self _ _) h
theorem wrapSub64 {a b : Nat} (h : b < 18446744073709551616) : IntKind.u64.wrap ((a : Int) - (b : Int)) = (((a + 18446744073709551616 - b) % 18446744073709551616 : Nat) : Int) := by
  have e : IntKind.u64.wrap ((a : Int) - (b : Int)) = ((a : Int) - (b : Int)) % 18446744073709551616 := by simp [IntKind.wrap, IntKind.signed, IntKind.bits]
  rw [e]; omega
theorem wrapSub32 {a b : Nat} (h : b < 4294967296) : IntKind.u32.wrap ((a : Int) - (b : Int)) = (((a + 4294967296 - b) % 4294967296 : Nat) : Int) := by
  have e : IntKind.u32.wrap ((a : Int) - (b : Int)) = ((a : Int) - (b : Int)) % 4294967296 := by simp [IntKind.wrap, IntKind.signed, IntKind.bits]
  rw [e]; omega
theorem set_map1 {α : Type} {f : α → Value} (l : List α) (k : Nat) (x : α) : (l.map f).set k (f x) = (l.set k x).map f := by simp [List.map_set]
theorem set_map0 {α : Type} {f : α → Value} (l : List α) (k : Nat) (x : α) : (l.map f).set (0 + k) (f x) = (l.set k x).map f := by simp [List.map_set]
end
def boolv (b : Bool) : Value := .bool b
def intv (z : Int) : Value := .int .i64 z
def u64v (n : Nat) : Value := .int .u64 (n : Int)
def u8v (n : Nat) : Value := .int .u8 (n : Int)
def LcAll (H : AHeap) : List Value → Prop
  | [] => True
  | v :: l => Lc H v ∧ LcAll H l
theorem lcsA {H : AHeap} : ∀ {l : List Value}, LcAll H l → ∀ u ∈ l, Lc H u
  | [], _, u, hu => by cases hu
  | v :: l, h, u, hu => by
    rcases List.mem_cons.1 hu with rfl | hu
    · exact h.1
    · exact lcsA h.2 u hu
theorem lc_map {H : AHeap} {b : Nat} (h : H[b]? ≠ some .dead) : Lc H (.map (some b)) := ⟨h, rfl⟩
/-- The first of a list that a slice holds. -/
theorem slice_z {α : Type} {f : α → Value} {Z : Rs} {v : Value} {l : List α} (h : SlZ f Z v l) (m : Nat) (hm : m ≤ l.length) : ∃ v', SlZ f Z v' (l.take m) ∧
    ∀ {H0 : AHeap} {X : Nat → Prop} {H : AHeap} {F : List (Nat × AObj)} (hS : St H0 X Z H F) {P : Program} {T : Nat → Value} {dst : Option Tmp} {ty : TypeId} {pos : String} {af : Array Edge} {g : Option (Nat × Bool)} {t el : TypeId} {x y : Operand} {k : IntKind}, P.underlying t = some (.slice el) → (∀ w, (sizeOf el).run P w = .ok 1 w) → ev T x = v → ev T y = .int k (m : Nat) →
      OpQ P ⟨dst, .slice t x none (some y) none, ty, pos, af, g⟩ T H v' [] := by
  rcases h with ⟨rfl, rfl⟩ | ⟨b, o, c, vs, rfl, h2, h3, h4, h5⟩
  · obtain rfl : m = 0 := by simpa using hm
    exact ⟨.slice none 0 0, .inl ⟨rfl, rfl⟩, fun _ => fun hu hs hx hy => q_sliceNil hu hs hx hy⟩
  · have hl : (l.take m).length = m := by rw [List.length_take]; omega
    refine ⟨.slice (some ⟨b, o, none⟩) m c, .inr ⟨b, o, c, vs, by rw [hl], h2, by omega, by omega, fun i hi => ?_⟩, fun {H0 X H F} hS {P T dst ty pos af g t el x y k} hu hs hx hy => ?_⟩
    · rw [hl] at hi
      rw [h5 i (by omega)]
      simp
    · have := q_slice (P := P) (T := T) (H := H) (dst := dst) (ty := ty) (pos := pos) (af := af) (g := g) (lo := none) (hi := some y) (mx := none) (i := 0) (j := m) (m := c) hu hs hx (hS.zrd h2) rfl ⟨k, hy⟩ rfl (Nat.zero_le _) (by omega) (Nat.le_refl _)
      simpa using this
/-- An empty literal, as a block of no elements. -/
theorem awp_null {Fc : Fence} {n : Nat} {P : Program} {N0 : AHeap} {Q : AEx → ASt → Prop} {c : Code} {nt : Nat} {T : Nat → Value} {D : List Nat} {H0 : AHeap} {X : Nat → Prop} {Z : Rs} {H : AHeap} {F : List (Nat × AObj)} (hS : St H0 X Z H F) {j b : Nat} (hj : F[j]? = some (b, .null)) (sz : Nat)
    (hk : ∀ H', St H0 X Z H' (F.set j (b, .cells true [] sz)) → awp Fc n P N0 c Q ⟨nt, T, D, H'⟩) : awp Fc n P N0 c Q ⟨nt, T, D, H⟩ := by
  refine awp_wk (fun ρ a w hs => ?_) (hk _ (hS.setAt hj (.cells true [] sz)))
  have hb : H[b]? = some .null := hS.getj hj
  have hnat : ∀ l, ρ b ≠ .at l := fun l hl => by
    obtain ⟨o, h1, _, h3⟩ := hs.heap.rel b l hl
    change H[b]? = some o at h1
    rw [hb] at h1; cases h1
    exact h3.elim
  have hh : HRel ρ (H.set b (.cells true [] sz)) w := by
    refine ⟨fun c hc => hs.heap.bound c (by simpa using hc), fun c m hm => ?_, fun c d m m' hcd hc hd hw => ?_, fun g vs sz hg' => ?_, fun c hc => ?_⟩
    · have hne : b ≠ c := fun e => by subst e; exact hnat _ hm
      obtain ⟨o2, r1, r2, r3⟩ := hs.heap.rel c m hm
      exact ⟨o2, by rw [List.getElem?_set, if_neg hne]; exact r1, r2, r3⟩
    · have hne : b ≠ c := fun e => by subst e; exact hnat _ hc
      refine hs.heap.inj c d m m' hcd hc hd ?_
      obtain ⟨o2, h1, h2⟩ := hw
      rw [List.getElem?_set, if_neg hne] at h1
      exact ⟨o2, h1, h2⟩
    · by_cases e3 : b = g
      · subst e3
        rw [List.getElem?_set, if_pos rfl] at hg'
        split at hg' <;> cases hg'
      · rw [List.getElem?_set, if_neg e3] at hg'
        exact hs.heap.glob g vs sz hg'
    · have h1 := hs.heap.isdead c hc
      change H[c]? = some .dead at h1
      have hne : b ≠ c := fun e => by subst e; rw [hb] at h1; cases h1
      rw [List.getElem?_set, if_neg hne]; exact h1
  refine ⟨ρ, ⟨hh, hs.tmps, ?_, by have := hs.len; simpa using this, hs.entry⟩, ⟨rfl, rfl, rfl, Nat.le_refl _, fun _ _ _ => rfl, fun _ _ => .inl rfl, fun c l hc hw => .inl ⟨c, l, hc, rfl, ?_⟩⟩⟩
  · refine DRel.frm _ _ (fun d _ l h1 h2 => ⟨h1, ?_⟩) hs.defers
    change H[d]? = some .mark at h2
    have hne : b ≠ d := fun e => by subst e; rw [hb] at h2; cases h2
    rw [List.getElem?_set, if_neg hne]; exact h2
  · obtain ⟨o, h1, h2⟩ := hw
    have hne : b ≠ c := fun e => by subst e; exact hnat _ hc
    rw [List.getElem?_set, if_neg hne] at h1
    exact ⟨o, h1, h2⟩
section
variable {P : Program} {T : Nat → Value} {H : AHeap} {dst : Option Tmp} {ty : TypeId} {pos : String} {af : Array Edge} {g : Option (Nat × Bool)} {α : Type} {f : α → Value} {v : Value} {l : List α}
theorem q_indexI1 {t el : TypeId} {x y : Operand} {b o len c : Nat} {z : Int} {k : IntKind} {vs : List Value} {sz : Nat} (hu : P.underlying t = some (.slice el)) (hs : ∀ w, (sizeOf el).run P w = .ok 1 w) (hx : ev T x = .slice (some ⟨b, o, none⟩) len c) (hy : ev T y = .int k z) (hz : 0 ≤ z) (hi : z.toNat < len) (hR : Rd H b vs sz) :
    OpQ P ⟨dst, .indexAddr t x y, ty, pos, af, g⟩ T H (.pointer (some ⟨b, o + z.toNat, none⟩)) [] := q_index1 hu hs hx (by rw [hy, Int.toNat_of_nonneg hz]) hi hR
theorem q_index_slI {t el : TypeId} {x y : Operand} {k : IntKind} {z : Int} (hu : P.underlying t = some (.slice el)) (hs : ∀ w, (sizeOf el).run P w = .ok 1 w) (h : Sl f H v l) (hx : ev T x = v) (hy : ev T y = .int k z) (hz : 0 ≤ z) (hi : z.toNat < l.length) :
    OpQ P ⟨dst, .indexAddr t x y, ty, pos, af, g⟩ T H (.pointer (some ⟨sb v, so v + z.toNat, none⟩)) [] := q_index_sl hu hs h hx (by rw [hy, Int.toNat_of_nonneg hz]) hi
end
/-! ### What functions answer -/
/-- A new slice of a list's elements; else all is as it was. -/
def Fresh {α : Type} (f : α → Value) (l : List α) (H : AHeap) (v : Value) (H' : AHeap) : Prop :=
  K0 H H' ∧ ∃ b, v = .slice (some ⟨b, 0, none⟩) l.length l.length ∧ H.length ≤ b ∧ H'[b]? = some (.cells true (l.map f) 1)
theorem St.out {H0 : AHeap} {Z : Rs} {H : AHeap} {F : List (Nat × AObj)} (h : St H0 none0 Z H F) {j b : Nat} {o : AObj} (hj : F[j]? = some (b, o)) : H0.length ≤ b := (h.own _ (List.mem_of_getElem? hj)).resolve_right fun h => h
theorem fresh_of {α : Type} {f : α → Value} {l : List α} {H0 : AHeap} {Z : Rs} {H : AHeap} {F : List (Nat × AObj)} (h : St H0 none0 Z H F) {j b : Nat} {v : Value} (hj : F[j]? = some (b, .cells true (l.map f) 1)) (hv : v = .slice (some ⟨b, 0, none⟩) l.length l.length) : Fresh f l H0 v H :=
  ⟨h.kp, b, hv, h.out hj, h.getj hj⟩
/-- An answer without blocks of its own; all is as it was. -/
def Pure (v : Value) (H : AHeap) (u : Value) (H' : AHeap) : Prop := K0 H H' ∧ u = v
end Go.Proofs.YtbjlabokijchpaaA
