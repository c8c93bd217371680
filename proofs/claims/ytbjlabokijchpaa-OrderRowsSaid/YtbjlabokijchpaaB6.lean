/-
  Shifts and bits of natural numbers; texts and numbers.
-/
import Derived.Test.YtbjlabokijchpaaB5
namespace Go.Proofs.YtbjlabokijchpaaA
set_option linter.unusedVariables false
open Go Go.RowKit Go.Shelf
section
variable {P : Program} {T : Nat → Value} {H : AHeap} {dst : Option Tmp} {ty : TypeId} {pos : String} {af : Array Edge} {g : Option (Nat × Bool)}
theorem wrapU_in (k : IntKind) (hs : k.signed = false) {x : Nat} (h : x < 2 ^ k.bits) : k.wrap (x : Int) = (x : Int) := by rw [wrapU k hs, Nat.mod_eq_of_lt h]
theorem q_shlN {t u : TypeId} {x y : Operand} {k k' : IntKind} {a c : Nat} (hs : k.signed = false) (hx : ev T x = .int k (a : Int)) (hy : ev T y = .int k' (c : Int)) (hc : c ≤ k.bits) (hr : a * 2 ^ c < 2 ^ k.bits) :
    OpQ P ⟨dst, .binOp .shl t x y u, ty, pos, af, g⟩ T H (.int k ((a * 2 ^ c : Nat) : Int)) [] := by
  refine (q_shl hx hy (by omega)).cast (congrArg _ ?_)
  rw [Int.toNat_natCast, Nat.min_eq_left hc]
  have := wrapU_in k hs hr
  rw [← this]; congr 1
theorem q_shlM {t u : TypeId} {x y : Operand} {k k' : IntKind} {a c : Nat} (hs : k.signed = false) (hx : ev T x = .int k (a : Int)) (hy : ev T y = .int k' (c : Int)) (hc : c ≤ k.bits) :
    OpQ P ⟨dst, .binOp .shl t x y u, ty, pos, af, g⟩ T H (.int k ((a * 2 ^ c % 2 ^ k.bits : Nat) : Int)) [] := by
  refine (q_shl hx hy (by omega)).cast (congrArg _ ?_)
  rw [Int.toNat_natCast, Nat.min_eq_left hc, ← wrapU k hs]
  congr 1
theorem q_shrN {t u : TypeId} {x y : Operand} {k k' : IntKind} {a c : Nat} (hx : ev T x = .int k (a : Int)) (hy : ev T y = .int k' (c : Int)) (ha : a < 2 ^ k.bits) :
    OpQ P ⟨dst, .binOp .shr t x y u, ty, pos, af, g⟩ T H (.int k ((a / 2 ^ c : Nat) : Int)) [] := by
  refine (q_shr hx hy (by omega)).cast (congrArg _ ?_)
  rw [Int.toNat_natCast]
  have e : (a : Int).fdiv (2 ^ min c k.bits) = ((a / 2 ^ min c k.bits : Nat) : Int) := by
    rw [Int.fdiv_eq_ediv_of_nonneg _ (by exact_mod_cast Nat.zero_le _)]; simp
  rw [e]
  congr 1
  by_cases h : c ≤ k.bits
  · rw [Nat.min_eq_left h]
  · rw [Nat.min_eq_right (by omega), Nat.div_eq_of_lt ha, Nat.div_eq_of_lt (Nat.lt_of_lt_of_le ha (Nat.pow_le_pow_right (by decide) (by omega)))]
theorem ofInt_nat {n x : Nat} (h : x < 2 ^ n) : (BitVec.ofInt n (x : Int)).toNat = x := by
  rw [BitVec.ofInt_natCast, BitVec.toNat_ofNat, Nat.mod_eq_of_lt h]
theorem q_orN {t u : TypeId} {x y : Operand} {k : IntKind} {a b : Nat} (hs : k.signed = false) (hx : ev T x = .int k (a : Int)) (hy : ev T y = .int k (b : Int)) (ha : a < 2 ^ k.bits) (hb : b < 2 ^ k.bits) :
    OpQ P ⟨dst, .binOp .or t x y u, ty, pos, af, g⟩ T H (.int k ((a ||| b : Nat) : Int)) [] := by
  refine (q_int hx hy rfl).cast (congrArg _ ?_)
  rw [BitVec.toNat_or, ofInt_nat ha, ofInt_nat hb]
  exact wrapU_in k hs (Nat.or_lt_two_pow ha hb)
theorem q_andN {t u : TypeId} {x y : Operand} {k : IntKind} {a b : Nat} (hs : k.signed = false) (hx : ev T x = .int k (a : Int)) (hy : ev T y = .int k (b : Int)) (ha : a < 2 ^ k.bits) (hb : b < 2 ^ k.bits) :
    OpQ P ⟨dst, .binOp .and t x y u, ty, pos, af, g⟩ T H (.int k ((a &&& b : Nat) : Int)) [] := by
  refine (q_int hx hy rfl).cast (congrArg _ ?_)
  rw [BitVec.toNat_and, ofInt_nat ha, ofInt_nat hb]
  exact wrapU_in k hs (Nat.and_lt_two_pow _ hb)
theorem q_xorN {t u : TypeId} {x y : Operand} {k : IntKind} {a b : Nat} (hs : k.signed = false) (hx : ev T x = .int k (a : Int)) (hy : ev T y = .int k (b : Int)) (ha : a < 2 ^ k.bits) (hb : b < 2 ^ k.bits) :
    OpQ P ⟨dst, .binOp .xor t x y u, ty, pos, af, g⟩ T H (.int k ((a ^^^ b : Nat) : Int)) [] := by
  refine (q_int hx hy rfl).cast (congrArg _ ?_)
  rw [BitVec.toNat_xor, ofInt_nat ha, ofInt_nat hb]
  exact wrapU_in k hs (Nat.xor_lt_two_pow ha hb)
/-- x & m, of a signed number: what it comes to. -/
def imask (a : Int) (m : Nat) : Nat := (BitVec.ofInt 64 a).toNat &&& m
theorem imask_le (a : Int) (m : Nat) : imask a m ≤ m := Nat.and_le_right
theorem q_imask {t u : TypeId} {x y : Operand} {a : Int} {m : Nat} (hx : ev T x = .int .i64 a) (hy : ev T y = .int .i64 (m : Int)) (hm : m < 2 ^ 63) : OpQ P ⟨dst, .binOp .and t x y u, ty, pos, af, g⟩ T H (.int .i64 ((imask a m : Nat) : Int)) [] := by
  refine (q_int hx hy rfl).cast (congrArg _ ?_)
  show IntKind.i64.wrap ((BitVec.ofInt 64 a &&& BitVec.ofInt 64 (m : Int)).toNat : Nat) = _
  rw [BitVec.toNat_and, ofInt_nat (by omega)]
  exact i64_in (by have := imask_le a m; unfold imask at this; omega)
end
theorem q_bytI {P : Program} {T : Nat → Value} {H : AHeap} {dst : Option Tmp} {ty : TypeId} {pos : String} {af : Array Edge} {g : Option (Nat × Bool)} {t : TypeId} {x y : Operand} {s : ByteArray} {k : IntKind} {z : Int} (hu : P.underlying t = some .string) (hx : ev T x = .string s) (hy : ev T y = .int k z) (hz : 0 ≤ z) (hi : z.toNat < s.size) :
    OpQ P ⟨dst, .index t x y, ty, pos, af, g⟩ T H (.int .u8 (byt s z.toNat : Nat)) [] := q_byt hu hx (by rw [hy, Int.toNat_of_nonneg hz]) hi
def bytv (b : UInt8) : Value := .int .u8 (b.toNat : Int)
theorem bytv_sc (x : UInt8) : Scalar (bytv x) = true := rfl
theorem q_bytesl {P : Program} {T : Nat → Value} {H : AHeap} {dst : Option Tmp} {ty : TypeId} {pos : String} {af : Array Edge} {g : Option (Nat × Bool)} {s d el : TypeId} {x : Operand} {b n c : Nat} {l : List UInt8} (hs : P.underlying s = some (.slice el)) (hd : P.underlying d = some .string) (he8 : P.underlying el = some (.int .u8)) (hx : ev T x = .slice (some ⟨b, 0, none⟩) n c) (hR : Rd H b (l.map bytv) 1) (hn : l.length = n) :
    OpQ P ⟨dst, .convert s d x, ty, pos, af, g⟩ T H (.string (bytesOf l)) [] :=
  q_bytes hs hd he8 hx hR (by simp; omega) (by subst hn; rw [List.drop_zero, List.take_of_length_le (by simp)]; rfl)
/-! ### Numbers as bytes, the lowest first -/
def getN : List UInt8 → Nat
  | [] => 0
  | b :: l => b.toNat + 256 * getN l
def putL (n : Nat) : Nat → List UInt8
  | 0 => []
  | k + 1 => UInt8.ofNat n :: putL (n / 256) k
abbrev bl (s : ByteArray) : List UInt8 := s.data.toList
def getB (s : ByteArray) : Nat := getN (bl s)
def putB (n k : Nat) : ByteArray := ⟨(putL n k).toArray⟩
theorem putL_length (k : Nat) : ∀ n, (putL n k).length = k := by
  induction k with
  | zero => intro n; rfl
  | succ k ih => intro n; simp [putL, ih]
theorem putB_size (n k : Nat) : (putB n k).size = k := by
  show (putL n k).toArray.size = k
  simp [putL_length]
theorem bl_putB (n k : Nat) : bl (putB n k) = putL n k := by simp [bl, putB]
theorem bl_length (s : ByteArray) : (bl s).length = s.size := Array.length_toList
theorem getN_lt : ∀ l : List UInt8, getN l < 256 ^ l.length
  | [] => by simp [getN]
  | b :: l => by
    have h := getN_lt l
    have hb := b.toNat_lt
    rw [getN, List.length_cons, Nat.pow_succ]; omega
theorem getN_put (k : Nat) : ∀ n, getN (putL n k) = n % 256 ^ k := by
  induction k with
  | zero => intro n; simp [putL, getN, Nat.mod_one]
  | succ k ih =>
    intro n
    rw [putL, getN, ih, Nat.pow_succ]
    have e : (UInt8.ofNat n).toNat = n % 256 := by simp
    rw [e, Nat.mul_comm (256 ^ k) 256, Nat.mod_mul]
theorem put_getN : ∀ l : List UInt8, putL (getN l) l.length = l
  | [] => rfl
  | b :: l => by
    have hb := b.toNat_lt
    rw [getN, List.length_cons, putL, show (b.toNat + 256 * getN l) / 256 = getN l by omega, put_getN l]
    congr 1
    have : UInt8.ofNat (b.toNat + 256 * getN l) = UInt8.ofNat b.toNat := by
      apply UInt8.toNat_inj.1
      simp only [UInt8.toNat_ofNat']; omega
    rw [this]; simp
theorem getB_lt {s : ByteArray} {k : Nat} (h : s.size ≤ k) : getB s < 256 ^ k := by
  have h1 := getN_lt (bl s)
  rw [bl_length] at h1
  exact Nat.lt_of_lt_of_le h1 (Nat.pow_le_pow_right (by decide) h)
theorem getB_put (n k : Nat) : getB (putB n k) = n % 256 ^ k := by unfold getB; rw [bl_putB, getN_put]
theorem bl_inj {a b : ByteArray} (h : bl a = bl b) : a = b := by
  obtain ⟨a⟩ := a; obtain ⟨b⟩ := b
  simp only [bl] at h
  rw [Array.toList_inj.1 h]
theorem bl_extract (s : ByteArray) (i j : Nat) : bl (s.extract i j) = ((bl s).drop i).take (j - i) := by
  simp [bl, ByteArray.data_extract, List.take_drop, List.extract]
theorem bl_append (s t : ByteArray) : bl (s ++ t) = bl s ++ bl t := by simp [bl, ByteArray.data_append]
theorem size_append (s t : ByteArray) : (s ++ t).size = s.size + t.size := by rw [← bl_length, bl_append, List.length_append, bl_length, bl_length]
theorem size_extract {s : ByteArray} {i j : Nat} (h : j ≤ s.size) : (s.extract i j).size = j - i := by
  rw [← bl_length, bl_extract, List.length_take, List.length_drop, bl_length]; omega
theorem put_getB (s : ByteArray) : putB (getB s) s.size = s := by
  apply bl_inj
  rw [bl_putB, ← bl_length]
  exact put_getN _
theorem byt_bl (s : ByteArray) (i : Nat) : byt s i = (nth (bl s) i).toNat := rfl
theorem drop_byt {s : ByteArray} {i : Nat} (h : i < s.size) : (bl s).drop i = UInt8.ofNat (byt s i) :: (bl s).drop (i + 1) := by
  have h' : i < (bl s).length := by rw [bl_length]; exact h
  rw [List.drop_eq_getElem_cons h', byt_bl, nth_eq h']; simp
theorem getN_step {s : ByteArray} {i : Nat} (h : i < s.size) : getN ((bl s).drop i) = byt s i + 256 * getN ((bl s).drop (i + 1)) := by
  have h' : i < (bl s).length := by rw [bl_length]; exact h
  rw [List.drop_eq_getElem_cons h', getN, byt_bl, nth_eq h']
/-- A part that is there, or none. -/
def partV (s : ByteArray) (i n : Nat) : ByteArray := if i + n ≤ s.size then s.extract i (i + n) else ⟨#[]⟩
def atV (s : ByteArray) (i k : Nat) : Nat := if i + k ≤ s.size then getB (s.extract i (i + k)) else 0
theorem partV_in {s : ByteArray} {i n : Nat} (h : i + n ≤ s.size) : partV s i n = s.extract i (i + n) := if_pos h
theorem partV_out {s : ByteArray} {i n : Nat} (h : ¬ i + n ≤ s.size) : partV s i n = ⟨#[]⟩ := if_neg h
theorem atV_in {s : ByteArray} {i n : Nat} (h : i + n ≤ s.size) : atV s i n = getB (s.extract i (i + n)) := if_pos h
theorem atV_out {s : ByteArray} {i n : Nat} (h : ¬ i + n ≤ s.size) : atV s i n = 0 := if_neg h
theorem atV_lt (s : ByteArray) (i k : Nat) : atV s i k < 256 ^ k := by
  unfold atV
  split
  · exact getB_lt (by rw [size_extract (by assumption)]; omega)
  · exact Nat.pow_pos (by decide)
theorem getB_empty : getB ⟨#[]⟩ = 0 := rfl
theorem getB_part (s : ByteArray) (i k : Nat) : getB (partV s i k) = atV s i k := by
  unfold partV atV
  split <;> rfl
theorem partV_size {s : ByteArray} {i n : Nat} : (partV s i n).size ≤ n := by
  unfold partV
  split
  · rw [size_extract (by assumption)]; omega
  · exact Nat.zero_le _
end Go.Proofs.YtbjlabokijchpaaA
