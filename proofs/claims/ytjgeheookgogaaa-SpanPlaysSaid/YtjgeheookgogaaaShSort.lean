/-
  slices.SortFunc of the library, as the shelf proves it once, at this program; and what cmp(a, b) is here.
-/
import Derived.Shelf.SlSortCmp.WholeK
import Derived.Test.YtjgeheookgogaaaProg
import Derived.WalkKit
import Derived.OwnWalk
namespace Go.Proofs.YtjgeheookgogaaaShSort
open Go Go.Proofs Go.Shelf Go.RowKit Go.Lib Go.Sort
set_option linter.unusedVariables false
set_option linter.unusedSimpArgs false
def sortSp_ren : Go.Shelf.Ren := ⟨fun | 6 => 34 | 15 => 39 | 14 => 38 | 28 => 49 | 29 => 50 | 20 => 41 | 21 => 42 | 22 => 43 | 23 => 44 | 24 => 45 | 25 => 46 | 26 => 47 | 27 => 48 | 46 => 51 | 47 => 52 | 48 => 53 | 49 => 54 | 50 => 55 | 57 => 56 | n => n, fun | 22 => 24 | 24 => 30 | 25 => 61 | 3 => 3 | 39 => 65 | 0 => 0 | 53 => 75 | 55 => 27 | 4 => 4 | 46 => 68 | 45 => 67 | 50 => 72 | 5 => 5 | 9 => 9 | 66 => 77 | 70 => 80 | 76 => 82 | 77 => 83 | n => n, fun | n => n⟩
theorem sortSp : Go.Proofs.SlLaysF0.n6 Try.prog sortSp_ren := {
  mixed := by kernel_rfl
  f6 := ⟨Try.f34.name, by decide, Try.func34.trans (congrArg some (by kernel_rfl))⟩
  f14 := ⟨Try.f38.name, by decide, Try.func38.trans (congrArg some (by kernel_rfl))⟩
  f15 := Try.func39.trans (congrArg some (by kernel_rfl))
  f20 := ⟨Try.f41.name, by decide, Try.func41.trans (congrArg some (by kernel_rfl))⟩
  f21 := ⟨Try.f42.name, by decide, Try.func42.trans (congrArg some (by kernel_rfl))⟩
  f22 := ⟨Try.f43.name, by decide, Try.func43.trans (congrArg some (by kernel_rfl))⟩
  f23 := ⟨Try.f44.name, by decide, Try.func44.trans (congrArg some (by kernel_rfl))⟩
  f24 := ⟨Try.f45.name, by decide, Try.func45.trans (congrArg some (by kernel_rfl))⟩
  f25 := ⟨Try.f46.name, by decide, Try.func46.trans (congrArg some (by kernel_rfl))⟩
  f26 := ⟨Try.f47.name, by decide, Try.func47.trans (congrArg some (by kernel_rfl))⟩
  f27 := ⟨Try.f48.name, by decide, Try.func48.trans (congrArg some (by kernel_rfl))⟩
  f28 := Try.func49.trans (congrArg some (by kernel_rfl))
  f29 := Try.func50.trans (congrArg some (by kernel_rfl))
  f46 := ⟨Try.f51.name, by decide, Try.func51.trans (congrArg some (by kernel_rfl))⟩
  f47 := Try.func52.trans (congrArg some (by kernel_rfl))
  f48 := Try.func53.trans (congrArg some (by kernel_rfl))
  f49 := ⟨Try.f54.name, by decide, Try.func54.trans (congrArg some (by kernel_rfl))⟩
  f50 := ⟨Try.f55.name, by decide, Try.func55.trans (congrArg some (by kernel_rfl))⟩
  f57 := ⟨Try.f56.name, by decide, Try.func56.trans (congrArg some (by kernel_rfl))⟩
  t0 := Try.underlying0
  a0 := Try.isAgg0
  z0 := Try.sizeOf0
  v0 := Try.zeroValue0
  t3 := Try.underlying3
  a3 := Try.isAgg3
  z3 := Try.sizeOf3
  v3 := Try.zeroValue3
  t4 := Try.underlying4
  a4 := Try.isAgg4
  z4 := Try.sizeOf4
  v4 := Try.zeroValue4
  t5 := Try.underlying5
  a5 := Try.isAgg5
  z5 := Try.sizeOf5
  v5 := Try.zeroValue5
  t9 := Try.underlying9
  a9 := Try.isAgg9
  z9 := Try.sizeOf9
  v9 := Try.zeroValue9
  t22 := Try.underlying24
  a22 := Try.isAgg24
  z22 := Try.sizeOf24
  v22 := Try.zeroValue24
  t25 := Try.underlying61
  a25 := Try.isAgg61
  z25 := Try.sizeOf61
  v25 := Try.zeroValue61
  t39 := Try.underlying65
  a39 := Try.isAgg65
  z39 := Try.sizeOf65
  v39 := Try.zeroValue65
  t45 := Try.underlying67
  a45 := Try.isAgg67
  z45 := Try.sizeOf67
  v45 := Try.zeroValue67
  t46 := Try.underlying68
  a46 := Try.isAgg68
  z46 := Try.sizeOf68
  v46 := Try.zeroValue68
  t50 := Try.underlying72
  a50 := Try.isAgg72
  z50 := Try.sizeOf72
  v50 := Try.zeroValue72
  t53 := Try.underlying75
  a53 := Try.isAgg75
  z53 := Try.sizeOf75
  v53 := Try.zeroValue75
  t55 := Try.underlying27
  a55 := Try.isAgg27
  z55 := Try.sizeOf27
  v55 := Try.zeroValue27
  t66 := Try.underlying77
  a66 := Try.isAgg77
  z66 := Try.sizeOf77
  v66 := Try.zeroValue77
  t70 := Try.underlying80
  a70 := Try.isAgg80
  z70 := Try.sizeOf80
  v70 := Try.zeroValue80
  t76 := Try.underlying82
  a76 := Try.isAgg82
  z76 := Try.sizeOf82
  v76 := Try.zeroValue82
  t77 := Try.underlying83
  a77 := Try.isAgg83
  z77 := Try.sizeOf83
  v77 := Try.zeroValue83 }

def encSp (x : Nat × Nat) : List Value := [.int .u64 ((x.1 : Nat) : Int), .int .u64 ((x.2 : Nat) : Int)]
def cmpN (x y : Nat) : Int := if x < y then -1 else if y < x then 1 else 0
theorem isNaN40 (x : Nat) (W : World) : Calls Try.prog 40 #[.int .u64 (x : Int)] W fun e w' => e = .returned (.bool false) ∧ w' = W := by
  go_enter Try.func40, Try.ntmps40
  go_wp2
  go_ret
  exact ⟨by simp, rfl⟩
set_option maxHeartbeats 1000000 in
theorem compare36 (x y : Nat) (W : World) : Calls Try.prog 36 #[.int .u64 (x : Int), .int .u64 (y : Int)] W fun e w' => e = .returned (.int .i64 (cmpN x y)) ∧ w' = W := by
  rcases Nat.lt_trichotomy x y with h | h | h
  · have e : cmpN x y = -1 := if_pos h
    have h1 : ((x : Int) < (y : Int)) := by omega
    rw [e]
    go_enter Try.func36, Try.ntmps36
    go_wp2_with (go_at_call 40; refine (isNaN40 _ _).mono ?_; rintro e w' ⟨rfl, rfl⟩)
    go_ret
    exact ⟨rfl, rfl⟩
  · subst h
    have e : cmpN x x = 0 := by unfold cmpN; rw [if_neg (Nat.lt_irrefl _), if_neg (Nat.lt_irrefl _)]
    have h1 : ¬ ((x : Int) < (x : Int)) := by omega
    rw [e]
    go_enter Try.func36, Try.ntmps36
    go_wp2_with (go_at_call 40; refine (isNaN40 _ _).mono ?_; rintro e w' ⟨rfl, rfl⟩)
    go_ret
    exact ⟨rfl, rfl⟩
  · have e : cmpN x y = 1 := by unfold cmpN; rw [if_neg (by omega), if_pos h]
    have h1 : ¬ ((x : Int) < (y : Int)) := by omega
    have h2 : ((y : Int) < (x : Int)) := by omega
    rw [e]
    go_enter Try.func36, Try.ntmps36
    go_wp2_with (go_at_call 40; refine (isNaN40 _ _).mono ?_; rintro e w' ⟨rfl, rfl⟩)
    go_ret
    exact ⟨rfl, rfl⟩
set_option maxHeartbeats 1000000 in
theorem closure35 (x y : Nat × Nat) (W : World) : Calls Try.prog 35 #[.agg (encSp x).toArray, .agg (encSp y).toArray] W fun e w' => e = .returned (.int .i64 (cmpN x.1 y.1)) ∧ ∃ q os', w' = grow (W.drewN q) os' := by
  have hcon := fun W' => compare36 x.1 y.1 W'
  generalize cmpN x.1 y.1 = r at hcon ⊢
  show Calls Try.prog 35 #[.agg #[.int .u64 ((x.1 : Nat) : Int), .int .u64 ((x.2 : Nat) : Int)], .agg #[.int .u64 ((y.1 : Nat) : Int), .int .u64 ((y.2 : Nat) : Int)]] W _
  go_enter Try.func35, Try.ntmps35
  go_wp2_with (go_at_call 36; refine (hcon _).mono ?_; rintro e w' ⟨rfl, rfl⟩)
  go_ret
  exact ⟨rfl, 0, _, by rw [alloc_eq_grow, alloc_eq_grow, grow_grow]; rfl⟩
theorem ltLo (x y : Nat × Nat) : ltOf (fun x y : Nat × Nat => cmpN x.1 y.1) x y = decide (x.1 < y.1) := by
  unfold ltOf cmpN
  by_cases h1 : x.1 < y.1
  · simp [h1]
  · by_cases h2 : y.1 < x.1 <;> simp [h1, h2]
theorem swoLo : SWO (ltOf fun x y : Nat × Nat => cmpN x.1 y.1) where
  irrefl x := by rw [ltLo]; simp
  trans x y z h1 h2 := by rw [ltLo] at *; simp at *; omega
  ntrans x y z h1 h2 := by rw [ltLo] at *; simp at *; omega
theorem sortFn (blk off cap : Nat) (d : Array (Nat × Nat)) (w : World) (hH : HoldsK encSp 2 w blk off d) (hblk : blk < w.heap.size) (hsz : d.size < 4611686018427387904) :
    Calls Try.prog 34 #[.slice (some ⟨blk, off, none⟩) d.size cap, .func (.func 35) #[] #[]] w fun e w' => e = .returned (.tuple #[]) ∧ ∃ d' n os, PermIn 0 d.size d d' ∧ SortedIn (ltOf fun x y : Nat × Nat => cmpN x.1 y.1) 0 d.size d' ∧ w' = sortWorldK encSp 2 w blk off n d' os :=
  AnyQ.slices_SortFunc sortSp 2 Try.isAgg30 Try.sizeOf30 encSp (fun _ => rfl) (fun x v hv => by simp [encSp] at hv; rcases hv with rfl | rfl <;> rfl) (fun x y => cmpN x.1 y.1) swoLo 35 #[] blk off cap d w (enters_of Try.func35 (by kernel_rfl) rfl) (fun _ _ _ _ x y => closure35 x y _) hH hblk hsz
end Go.Proofs.YtjgeheookgogaaaShSort
