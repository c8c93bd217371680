/-
  What layer 11 computes: a symbol's bytes, and rows of bytes as symbols.
-/
import Derived.Test.YtmekjomfdomogaaSymNice
import Derived.Test.YtmekjomfdomogaaPAllx11
import Derived.Laws.BitsLemmas
namespace Go.Proofs.Ytmekjomfdomogaa.Sym
open Go Go.RowKit Go.Proofs.Ytmekjomfdomogaa.PAll Go.Proofs.YtmekjomfdomogaaW.PrintWords Go.Proofs.YtmekjomfdomogaaW.PrintLast Go.Proofs.Ytmekjomfdomogaa.Nice Go.Proofs.YtmekjomfdomogaaLe
set_option linter.unusedVariables false

theorem law_speaks : Ev (fun k => turnbucklelaw11_speaks.f k) true := Ev.of (g := fun k => turnbucklelaw11_speaks.f k) (fun k => turnbucklelaw11_speaks.mono k) (k := 40) (by decide +kernel)
theorem wraps_i64 (n : Int) (h₀ : 0 ≤ n) (h₁ : n < 2 ^ 62) : IntKind.i64.wrap n = n := by rw [IntKind.wrap_i64]; omega
/-- The two bytes in the middle. -/
def midF (b kd v : Nat) : ByteArray := strOfNums [((b * 16 + kd : Nat) : Int), (v : Int)]
theorem midF_size (b kd v : Nat) : (midF b kd v).size = 2 := by rw [midF, strOfNums_size]; rfl
def symF (n b kd v : Nat) (D : Bool) (x y : Nat) : ByteArray := putF n 4 ++ midF b kd v ++ putF (if D then 1 else 0) 2 ++ putF x 8 ++ putF y 8
theorem putF4 (n : Nat) : (putF n 4).size = 4 := by rw [putF_size]; simp
theorem putF2 (n : Nat) : (putF n 2).size = 2 := by rw [putF_size]; simp
theorem putF8 (n : Nat) : (putF n 8).size = 8 := by rw [putF_size]; simp
theorem symF_size (n b kd v : Nat) (D : Bool) (x y : Nat) : (symF n b kd v D x y).size = 24 := by
  simp only [symF, ByteArray.size_append, putF4, putF2, putF8, midF_size]
theorem put_ev' (n b kd v : Nat) (d x y : Nat) (hn : n < 4294967296) (hd : d < 2) (hx : x < 18446744073709551616) (hy : y < 18446744073709551616) :
    ∃ K, ∀ k, K ≤ k → le_Put.f k (IntKind.u64.wrap (n : Int)) 4 = some (putF n 4) ∧ le_Put.f k (d : Int) 2 = some (putF d 2) ∧ le_Put.f k (x : Int) 8 = some (putF x 8) ∧ le_Put.f k (y : Int) 8 = some (putF y 8) := by
  obtain ⟨K0, e0⟩ := put_ev n 4 (by omega)
  obtain ⟨K1, e1⟩ := put_ev d 2 (by omega)
  obtain ⟨K2, e2⟩ := put_ev x 8 hx
  obtain ⟨K3, e3⟩ := put_ev y 8 hy
  dsimp only at e0 e1 e2 e3
  refine ⟨K0 + K1 + K2 + K3, fun k hk => ?_⟩
  rw [u64w (x := (n : Int)) (by omega) (by omega)]
  exact ⟨e0 k (by omega), e1 k (by omega), e2 k (by omega), e3 k (by omega)⟩
theorem rput_ev' (n b kd v : Nat) (d x y : Nat) (hn : n < 4294967296) (hd : d < 2) (hx : x < 18446744073709551616) (hy : y < 18446744073709551616) :
    ∃ K, ∀ k, K ≤ k → turnbuckleref01_Put.f k (IntKind.u64.wrap (n : Int)) 4 = some (putF n 4) ∧ turnbuckleref01_Put.f k (d : Int) 2 = some (putF d 2) ∧ turnbuckleref01_Put.f k (x : Int) 8 = some (putF x 8) ∧ turnbuckleref01_Put.f k (y : Int) 8 = some (putF y 8) := by
  obtain ⟨K0, e0⟩ := rput_ev n 4 (by omega)
  obtain ⟨K1, e1⟩ := rput_ev d 2 (by omega)
  obtain ⟨K2, e2⟩ := rput_ev x 8 hx
  obtain ⟨K3, e3⟩ := rput_ev y 8 hy
  dsimp only at e0 e1 e2 e3
  refine ⟨K0 + K1 + K2 + K3, fun k hk => ?_⟩
  rw [u64w (x := (n : Int)) (by omega) (by omega)]
  exact ⟨e0 k (by omega), e1 k (by omega), e2 k (by omega), e3 k (by omega)⟩
theorem mid_or (b kd v : Nat) (hb : b ≤ 2) (hk : kd ≤ 15) (hv : v ≤ 3) : ([(Go.bits .or .i64 (wrap64 ((b : Int) * 16)) kd) % 256, (v : Int) % 256] : List Int) = [((b * 16 + kd : Nat) : Int), (v : Int)] := by
  have h1 : wrap64 ((b : Int) * 16) = (b : Int) * 16 := w64 (by omega) (by omega)
  have h2 : Go.bits .or .i64 ((b : Int) * 16) kd = (b : Int) * 16 + kd := bits_join .i64 62 (by decide) wraps_i64 4 _ _ (by omega) (by omega) (by omega) (by omega) (by omega) (by omega)
  rw [h1, h2]
  congr 1
  · omega
  · congr 1
    omega
theorem mid_add (b kd v : Nat) (hb : b ≤ 2) (hk : kd ≤ 15) (hv : v ≤ 3) : ([(wrap64 ((wrap64 (16 * (b : Int))) + kd)) % 256, (v : Int) % 256] : List Int) = [((b * 16 + kd : Nat) : Int), (v : Int)] := by
  have h1 : wrap64 (16 * (b : Int)) = 16 * (b : Int) := w64 (by omega) (by omega)
  have h2 : wrap64 (16 * (b : Int) + kd) = 16 * (b : Int) + kd := w64 (by omega) (by omega)
  rw [h1, h2]
  congr 1
  · omega
  · congr 1
    omega
theorem sym_put_ev (nm : ByteArray) (n b kd v : Nat) (D : Bool) (x y : Nat) (hn : n < 4294967296) (hb : b ≤ 2) (hk : kd ≤ 15) (hv : v ≤ 3) (hx : x < 18446744073709551616) (hy : y < 18446744073709551616) :
    Ev (fun k => sym_Put.f k nm b kd v D x y n) (symF n b kd v D x y) := by
  obtain ⟨K, e⟩ := put_ev' n b kd v (if D then 1 else 0) x y hn (by split <;> omega) hx hy
  refine ⟨K + 2, fun k hk' => ?_⟩
  obtain ⟨j, rfl⟩ : ∃ j, k = j + 2 := ⟨k - 2, by omega⟩
  obtain ⟨e0, e1, e2, e3⟩ := e j (by omega)
  show sym_Put.f (j + 2) nm b kd v D x y n = _
  simp only [sym_Put.f]
  rw [if_neg (by omega), if_neg (by omega), if_neg (by omega), if_neg (by omega), if_neg (by omega), decide_eq_false (by omega)]
  have hd : sym_Put.j0 (j + 2) n false nm b kd v D x y = sym_Put.j1 (j + 1) n (((if D then 1 else 0 : Nat)) : Int) nm b kd v D x y := by
    cases D <;> simp [sym_Put.j0]
  rw [hd]
  simp only [sym_Put.j1, e0, e1, e2, e3, Option.bind_some, mid_or b kd v hb hk hv]
  have hm : strOfNums [((b * 16 + kd : Nat) : Int), (v : Int)] = midF b kd v := rfl
  simp only [hm, ByteArray.size_append, putF4, putF2, putF8, midF_size]
  rfl
theorem sym_rput_ev (nm : ByteArray) (n b kd v : Nat) (D : Bool) (x y : Nat) (hn : n < 4294967296) (hb : b ≤ 2) (hk : kd ≤ 15) (hv : v ≤ 3) (hx : x < 18446744073709551616) (hy : y < 18446744073709551616) :
    Ev (fun k => turnbuckleref11_Put.f k nm b kd v D x y n) (symF n b kd v D x y) := by
  obtain ⟨K, e⟩ := rput_ev' n b kd v (if D then 1 else 0) x y hn (by split <;> omega) hx hy
  refine ⟨K + 1, fun k hk' => ?_⟩
  obtain ⟨j, rfl⟩ : ∃ j, k = j + 1 := ⟨k - 1, by omega⟩
  obtain ⟨e0, e1, e2, e3⟩ := e j (by omega)
  show turnbuckleref11_Put.f (j + 1) nm b kd v D x y n = _
  have hd : turnbuckleref11_Put.f (j + 1) nm b kd v D x y n = turnbuckleref11_Put.j0 (j + 1) n (((if D then 1 else 0 : Nat)) : Int) nm b kd v D x y := by
    cases D <;> simp [turnbuckleref11_Put.f]
  rw [hd]
  simp only [turnbuckleref11_Put.j0, e0, e1, e2, e3, Option.bind_some, mid_add b kd v hb hk hv]
  have hm : strOfNums [((b * 16 + kd : Nat) : Int), (v : Int)] = midF b kd v := rfl
  simp only [hm, ByteArray.size_append, putF4, putF2, putF8, midF_size]
  rfl

/-! ### parts -/
theorem bl_mid (b kd v : Nat) (hb : b ≤ 2) (hk : kd ≤ 15) (hv : v ≤ 3) : bl (midF b kd v) = [b * 16 + kd, v] := by
  simp only [bl, midF, strOfNums, List.map_cons, List.map_nil, Int.toNat_natCast, UInt8.toNat_ofNat']
  congr 1
  · omega
  · congr 1
    omega
theorem bl_append (a b : ByteArray) : bl (a ++ b) = bl a ++ bl b := by simp [bl]
theorem bl_put2 (D : Bool) : bl (putF (if D then 1 else 0) 2) = [if D then 1 else 0, 0] := by cases D <;> decide +kernel
theorem ba_ext {a b : ByteArray} (h : a.data.toList = b.data.toList) : a = b := ByteArray.ext (Array.ext' h)
theorem parts5 (A M S X Y : ByteArray) (hA : A.size = 4) (hM : M.size = 2) (hS : S.size = 2) (hX : X.size = 8) (hY : Y.size = 8) :
    (A ++ M ++ S ++ X ++ Y).extract 0 4 = A ∧ (A ++ M ++ S ++ X ++ Y).extract 8 16 = X ∧ (A ++ M ++ S ++ X ++ Y).extract 16 24 = Y ∧ (A ++ M ++ S ++ X ++ Y).extract 4 24 = M ++ S ++ X ++ Y := by
  have lA : A.data.toList.length = 4 := hA
  have lM : M.data.toList.length = 2 := hM
  have lS : S.data.toList.length = 2 := hS
  have lX : X.data.toList.length = 8 := hX
  have lY : Y.data.toList.length = 8 := hY
  have e : (A ++ M ++ S ++ X ++ Y).data.toList = A.data.toList ++ M.data.toList ++ S.data.toList ++ X.data.toList ++ Y.data.toList := by simp
  have e2 : (M ++ S ++ X ++ Y).data.toList = M.data.toList ++ S.data.toList ++ X.data.toList ++ Y.data.toList := by simp
  have ex : ∀ i j, ((A ++ M ++ S ++ X ++ Y).extract i j).data.toList = ((A.data.toList ++ M.data.toList ++ S.data.toList ++ X.data.toList ++ Y.data.toList).drop i).take (j - i) := fun i j => by
    rw [extract_toList, e]
  refine ⟨ba_ext ?_, ba_ext ?_, ba_ext ?_, ba_ext ?_⟩
  all_goals first | rw [ex, e2] | rw [ex]
  all_goals
    clear ex e e2 hA hM hS hX hY
    generalize A.data.toList = a at lA ⊢
    generalize M.data.toList = m at lM ⊢
    generalize S.data.toList = s at lS ⊢
    generalize X.data.toList = x at lX ⊢
    generalize Y.data.toList = y at lY ⊢
    (match a, lA, m, lM, s, lS, x, lX, y, lY with
     | [_, _, _, _], _, [_, _], _, [_, _], _, [_, _, _, _, _, _, _, _], _, [_, _, _, _, _, _, _, _], _ => rfl)
theorem sym_bt (n b kd v : Nat) (D : Bool) (x y : Nat) (hb : b ≤ 2) (hk : kd ≤ 15) (hv : v ≤ 3) :
    bt (symF n b kd v D x y) 4 = ((b * 16 + kd : Nat) : Int) ∧ bt (symF n b kd v D x y) 5 = (v : Int) ∧ bt (symF n b kd v D x y) 6 = (if D then 1 else 0 : Nat) ∧ bt (symF n b kd v D x y) 7 = 0 := by
  have hs := symF_size n b kd v D x y
  have hl : (bl (putF n 4)).length = 4 := by rw [bl_length, putF4]
  have hbl : bl (symF n b kd v D x y) = bl (putF n 4) ++ ([b * 16 + kd, v] ++ ([if D then 1 else 0, 0] ++ (bl (putF x 8) ++ bl (putF y 8)))) := by
    simp only [symF, bl_append, bl_mid b kd v hb hk hv, bl_put2, List.append_assoc]
  have at_ : ∀ (i : Nat) (h : i < 24), bt (symF n b kd v D x y) (i : Int) = (((bl (symF n b kd v D x y)).getD i 0 : Nat) : Int) := by
    intro i h
    rw [bt_bl _ i (by omega), List.getD_eq_getElem?_getD, List.getElem?_eq_getElem (by rw [bl_length]; omega)]
    rfl
  have g : ∀ j, (bl (putF n 4) ++ ([b * 16 + kd, v] ++ ([if D then 1 else 0, 0] ++ (bl (putF x 8) ++ bl (putF y 8))))).getD (4 + j) 0 = (([b * 16 + kd, v] ++ ([if D then 1 else 0, 0] ++ (bl (putF x 8) ++ bl (putF y 8)))) : List Nat).getD j 0 := by
    intro j
    rw [List.getD_eq_getElem?_getD, List.getD_eq_getElem?_getD, List.getElem?_append_right (by omega), hl, Nat.add_sub_cancel_left]
  rw [hbl] at at_
  have a4 := at_ 4 (by decide); have a5 := at_ 5 (by decide); have a6 := at_ 6 (by decide); have a7 := at_ 7 (by decide)
  rw [g 0] at a4; rw [g 1] at a5; rw [g 2] at a6; rw [g 3] at a7
  exact ⟨a4, a5, a6, a7⟩

/-! ### reading -/
/-- A symbol as it is read. -/
def S28of (nm : ByteArray) (b kd v : Nat) (D : Bool) (x y : Nat) : S28 := ⟨nm, b, kd, v, D, x, y⟩
theorem ex_full (p : ByteArray) (h : p.size = 24) : p.extract 0 24 = p := by rw [← h]; exact ByteArray.extract_zero_size
/-- One row's fields, and its fault. -/
theorem read_row (names nm : ByteArray) (ok : Bool) (n b kd v : Nat) (D : Bool) (x y : Nat) (hn : n < 4294967296) (hb : b ≤ 2) (hk : kd ≤ 15) (hv : v ≤ 3) (hx : x < 18446744073709551616) (hy : y < 18446744073709551616) (hT : le_Text.f names n 32 = some (nm, ok)) :
    Ev (fun k => sym_read.f k (symF n b kd v D x y) names) (if ok then (nm, (b : Int), (kd : Int), (v : Int), D, (x : Int), (y : Int), 0) else (⟨#[]⟩, 0, 0, 0, false, 0, 0, 25)) := by
  obtain ⟨p0, p1, p2, _⟩ := parts5 (putF n 4) (midF b kd v) (putF (if D then 1 else 0) 2) (putF x 8) (putF y 8) (putF4 _) (midF_size _ _ _) (putF2 _) (putF8 _) (putF8 _)
  obtain ⟨b4, b5, b6, b7⟩ := sym_bt n b kd v D x y hb hk hv
  have hs := symF_size n b kd v D x y
  obtain ⟨K0, e0⟩ := get_ev (putF n 4)
  obtain ⟨K1, e1⟩ := get_ev (putF x 8)
  obtain ⟨K2, e2⟩ := get_ev (putF y 8)
  have g0 : getS (putF n 4) = n := by rw [get_putF n 4 (by omega)]; exact Nat.mod_eq_of_lt (by simpa using hn)
  rw [g0] at e0
  rw [get_put8 x hx] at e1
  rw [get_put8 y hy] at e2
  change (symF n b kd v D x y).extract 0 4 = _ at p0
  change (symF n b kd v D x y).extract 8 16 = _ at p1
  change (symF n b kd v D x y).extract 16 24 = _ at p2
  dsimp only at e0 e1 e2
  generalize symF n b kd v D x y = s at p0 p1 p2 b4 b5 b6 b7 hs ⊢
  generalize putF n 4 = q0 at p0 e0
  generalize putF x 8 = q1 at p1 e1
  generalize putF y 8 = q2 at p2 e2
  refine ⟨K0 + K1 + K2, fun k hk' => ?_⟩
  show sym_read.f k s names = _
  unfold sym_read.f
  rw [if_pos hs, p0, p1, p2, e0 k (by omega), Option.bind_some, hT, Option.bind_some, e1 k (by omega), Option.bind_some, e2 k (by omega), Option.bind_some]
  unfold sym_read.of
  rw [b4, b5, b6, b7]
  cases ok
  · simp
  · have h1 : ¬ (((b * 16 + kd : Nat) : Int) / 16 > 2) := by omega
    have h2 : ((b * 16 + kd : Nat) : Int) / 16 = b := by omega
    have h3 : ((b * 16 + kd : Nat) : Int) % 16 = kd := by omega
    have h4 : (v : Int) % 4 = v := by omega
    simp only [if_true]
    rw [if_neg h1, h2, h3, h4]
    cases D <;> simp
end Go.Proofs.Ytmekjomfdomogaa.Sym
