/-
  Any symbol as bytes, or that it goes into none; read again it is that one.
-/
import Derived.Test.YtmekjomfdomogaaSymPure
import Derived.Test.YtmekjomfdomogaaPAllx12
namespace Go.Proofs.Ytmekjomfdomogaa.Pure
open Go Go.RowKit Go.Proofs.Ytmekjomfdomogaa.PAll Go.Proofs.YtmekjomfdomogaaW.PrintWords Go.Proofs.YtmekjomfdomogaaW.PrintLast Go.Proofs.Ytmekjomfdomogaa.Nice Go.Proofs.Ytmekjomfdomogaa.Sym Go.Proofs.YtmekjomfdomogaaLe
set_option linter.unusedVariables false

theorem put_out (nm : ByteArray) (b kd v : Int) (D : Bool) (x y n : Int) (h : b < 0 ∨ b > 2 ∨ kd < 0 ∨ kd > 15 ∨ v < 0 ∨ v > 3) : Ev (fun k => sym_Put.f k nm b kd v D x y n) ⟨#[]⟩ := by
  have hj : Ev (fun k => sym_Put.j0 k n true nm b kd v D x y) ⟨#[]⟩ := by
    refine Ev.step (f := fun _ => some ⟨#[]⟩) (fun k => ?_) (Ev.now _)
    simp only [sym_Put.j0]
    rw [if_pos trivial]
  unfold sym_Put.f
  by_cases h1 : b < 0
  · exact Ev.congr (fun k => if_pos h1) hj
  refine Ev.congr (fun k => if_neg h1) ?_
  by_cases h2 : b > 2
  · exact Ev.congr (fun k => if_pos h2) hj
  refine Ev.congr (fun k => if_neg h2) ?_
  by_cases h3 : kd < 0
  · exact Ev.congr (fun k => if_pos h3) hj
  refine Ev.congr (fun k => if_neg h3) ?_
  by_cases h4 : kd > 15
  · exact Ev.congr (fun k => if_pos h4) hj
  refine Ev.congr (fun k => if_neg h4) ?_
  by_cases h5 : v < 0
  · exact Ev.congr (fun k => if_pos h5) hj
  refine Ev.congr (fun k => if_neg h5) ?_
  rw [decide_eq_true (by omega)]
  exact hj
theorem law_out (b kd v : Int) (D : Bool) (x y n : Int) (h : b < 0 ∨ b > 2 ∨ kd < 0 ∨ kd > 15 ∨ v < 0 ∨ v > 3) : Ev (fun k => turnbucklelaw11_SymPuts.f k b kd v D x y n) true := by
  have hz : (⟨#[]⟩ : ByteArray).toList = ([] : List UInt8) := by decide +kernel
  have hj : Ev (fun k => turnbucklelaw11_SymPuts.j0 k n ⟨#[]⟩ true ⟨#[]⟩ b kd v D x y) true := by
    refine Ev.step (f := fun _ => some true) (fun k => ?_) (Ev.now _)
    simp only [turnbucklelaw11_SymPuts.j0]
    rw [if_pos trivial, hz]
    rfl
  unfold turnbucklelaw11_SymPuts.f
  refine Ev.bind law_speaks ?_
  refine Ev.congr (fun k => if_pos rfl) ?_
  refine Ev.bind (put_out _ b kd v D x y n h) ?_
  by_cases h1 : b < 0
  · exact Ev.congr (fun k => if_pos h1) hj
  refine Ev.congr (fun k => if_neg h1) ?_
  by_cases h2 : b > 2
  · exact Ev.congr (fun k => if_pos h2) hj
  refine Ev.congr (fun k => if_neg h2) ?_
  by_cases h3 : kd < 0
  · exact Ev.congr (fun k => if_pos h3) hj
  refine Ev.congr (fun k => if_neg h3) ?_
  by_cases h4 : kd > 15
  · exact Ev.congr (fun k => if_pos h4) hj
  refine Ev.congr (fun k => if_neg h4) ?_
  by_cases h5 : v < 0
  · exact Ev.congr (fun k => if_pos h5) hj
  refine Ev.congr (fun k => if_neg h5) ?_
  rw [decide_eq_true (by omega)]
  exact hj
theorem ab_text : le_Text.f ⟨#[97, 98, 0]⟩ ((0 : Nat) : Int) 32 = some (⟨#[97, 98]⟩, true) := by decide +kernel
theorem one_read (b kd v : Nat) (D : Bool) (x y : Nat) (hb : b ≤ 2) (hk : kd ≤ 15) (hv : v ≤ 3) (hx : x < 18446744073709551616) (hy : y < 18446744073709551616) :
    Ev (fun k => sym_Read.f k (symF 0 b kd v D x y) ⟨#[97, 98, 0]⟩) ([S28of ⟨#[97, 98]⟩ b kd v D x y], 0, 0, ⟨#[]⟩) := by
  have hs := symF_size 0 b kd v D x y
  have hr := read_row ⟨#[97, 98, 0]⟩ ⟨#[97, 98]⟩ true 0 b kd v D x y (by decide) hb hk hv hx hy ab_text
  have hp : eachPart (symF 0 b kd v D x y) 24 0 = symF 0 b kd v D x y := ex_full _ hs
  refine Ev.congr (f := fun k => (sym_read.f k (symF 0 b kd v D x y) ⟨#[97, 98, 0]⟩).bind fun q => if q.2.2.2.2.2.2.2 = 0 then some ([⟨q.1, q.2.1, q.2.2.1, q.2.2.2.1, q.2.2.2.2.1, q.2.2.2.2.2.1, q.2.2.2.2.2.2.1⟩], 0, 0, ⟨#[]⟩) else (fail_At.f q.2.2.2.2.2.2.2 ((0 : Nat) * 24)).bind fun t => some ([], t.1, t.2.1, t.2.2)) (fun k => ?_) ?_
  · unfold sym_Read.f
    rw [if_neg (by omega), if_pos (by omega), if_neg (by omega), hs]
    show sym_Read.go k _ _ 1 0 [] = _
    rw [sym_Read.go, hp]
    rfl
  · refine Ev.bind hr ?_
    exact Ev.now _
theorem law_in (b kd v : Nat) (D : Bool) (x y n : Nat) (hb : b ≤ 2) (hk : kd ≤ 15) (hv : v ≤ 3) (hx : x < 18446744073709551616) (hy : y < 18446744073709551616) (hn : n < 4294967296) :
    Ev (fun k => turnbucklelaw11_SymPuts.f k b kd v D x y n) true := by
  have hs := symF_size n b kd v D x y
  obtain ⟨_, _, _, p3⟩ := parts5 (putF n 4) (midF b kd v) (putF (if D then 1 else 0) 2) (putF x 8) (putF y 8) (putF4 _) (midF_size _ _ _) (putF2 _) (putF8 _) (putF8 _)
  have hz : (⟨#[0, 0, 0, 0]⟩ : ByteArray) = putF 0 4 := by decide +kernel
  have hj : (⟨#[0, 0, 0, 0]⟩ : ByteArray) ++ (symF n b kd v D x y).extract 4 (symF n b kd v D x y).size = symF 0 b kd v D x y := by
    rw [hs]
    show _ ++ (putF n 4 ++ midF b kd v ++ putF (if D then 1 else 0) 2 ++ putF x 8 ++ putF y 8).extract 4 24 = _
    rw [p3, hz]
    simp only [symF, ByteArray.append_assoc]
  have hone := one_read b kd v D x y hb hk hv hx hy
  have hput := sym_put_ev ⟨#[]⟩ n b kd v D x y hn hb hk hv hx hy
  have hrput := sym_rput_ev ⟨#[]⟩ n b kd v D x y hn hb hk hv hx hy
  generalize symF 0 b kd v D x y = s0 at hj hone
  generalize symF n b kd v D x y = s at hs hj hput hrput
  clear p3
  unfold turnbucklelaw11_SymPuts.f
  refine Ev.bind law_speaks ?_
  refine Ev.congr (fun k => if_pos rfl) ?_
  refine Ev.bind hput ?_
  refine Ev.congr (fun k => if_neg (by omega)) ?_
  refine Ev.congr (fun k => if_neg (by omega)) ?_
  refine Ev.congr (fun k => if_neg (by omega)) ?_
  refine Ev.congr (fun k => if_neg (by omega)) ?_
  refine Ev.congr (fun k => if_neg (by omega)) ?_
  rw [decide_eq_false (by omega)]
  refine Ev.step (f := fun k => (turnbuckleref11_Put.f k ⟨#[]⟩ b kd v D x y n).bind fun t167 => if s.toList = t167.toList then ((sym_Read.f k s0 ⟨#[97, 98, 0]⟩).bind fun bt168 => ((fail_Fault_OK.f bt168.2.1 bt168.2.2.1 bt168.2.2.2).bind fun t175 => (if t175 = true then (if (bt168.1.length : Int) = 1 then (if 0 < (bt168.1.length : Int) then (some ((((rd_T28 bt168.1 0).f0).toList) == ([97, 98] : List UInt8) && (((rd_T28 bt168.1 0).f1) == (b : Int) && (((rd_T28 bt168.1 0).f2) == (kd : Int) && (((rd_T28 bt168.1 0).f3) == (v : Int) && (((rd_T28 bt168.1 0).f4) == D && (((rd_T28 bt168.1 0).f5) == (x : Int) && (((rd_T28 bt168.1 0).f6) == (y : Int))))))))) else (none)) else (some false)) else (some false)))) else some false) (fun k => ?_) ?_
  · have hsz : (s.extract 4 s.size).size = 20 := by rw [ByteArray.size_extract]; omega
    simp only [turnbucklelaw11_SymPuts.j0, hj, hsz]
    rw [if_neg (by decide), if_pos (by omega), if_pos (by decide)]
  · refine Ev.bind hrput ?_
    refine Ev.congr (fun k => if_pos rfl) ?_
    refine Ev.bind hone ?_
    have hab : (⟨#[97, 98]⟩ : ByteArray).toList = ([97, 98] : List UInt8) := by decide +kernel
    refine Ev.congr (f := fun _ => some true) (fun k => ?_) (Ev.now _)
    simp [fail_Fault_OK.f, rd_T28, S28of, hab]
theorem wf_u32 {x : Int} (h : (Lit.int .u32 x).wf = true) : 0 ≤ x ∧ x < 4294967296 := by
  simp [Lit.wf, IntKind.min, IntKind.max, IntKind.signed, IntKind.bits] at h; omega
theorem SymPuts : turnbucklelaw11_SymPuts.Pure := by
  intro b kd v D x y n hb hk hv hx hy hn
  obtain ⟨lx, ux⟩ := u64_bounds hx
  obtain ⟨ly, uy⟩ := u64_bounds hy
  obtain ⟨ln, un⟩ := wf_u32 hn
  apply Ev.rounds
  by_cases h : b < 0 ∨ b > 2 ∨ kd < 0 ∨ kd > 15 ∨ v < 0 ∨ v > 3
  · exact law_out b kd v D x y n h
  · obtain ⟨b, rfl⟩ := Int.eq_ofNat_of_zero_le (show 0 ≤ b by omega)
    obtain ⟨kd, rfl⟩ := Int.eq_ofNat_of_zero_le (show 0 ≤ kd by omega)
    obtain ⟨v, rfl⟩ := Int.eq_ofNat_of_zero_le (show 0 ≤ v by omega)
    obtain ⟨x, rfl⟩ := Int.eq_ofNat_of_zero_le lx
    obtain ⟨y, rfl⟩ := Int.eq_ofNat_of_zero_le ly
    obtain ⟨n, rfl⟩ := Int.eq_ofNat_of_zero_le ln
    exact law_in b kd v D x y n (by omega) (by omega) (by omega) (by omega) (by omega) (by omega)
end Go.Proofs.Ytmekjomfdomogaa.Pure
