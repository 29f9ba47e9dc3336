/- Layer 5: Words of cells: by rising addresses, whatever order the map's range has. -/
import Derived.Test.YtijifjiehldcaaaGreatOw
import Derived.Test.YtijifjiehldcaaaGreatRcP
import Derived.Test.YtijifjiehldcaaaGreatMr
import Derived.Test.YtijifjiehldcaaaGreatRc
import Derived.Maps.RangeWalk
import Derived.Shelf.SlSortCmp.NoneTotal
import Derived.Lib.Small
import Derived.Shelf.Lay
import Derived.Ground.SlsfProg
namespace Go.Proofs.YtijifjiehldcaaaGreat
open Go.RowKit Go.Shelf Go.Lib Go.Sort
set_option linter.unusedVariables false

shelf_lay_g SlLaysF0.n6 Slsf 6 at Tryz 140 as ws_sort
theorem c_isNaN (x : Int) (w : World) : Calls Tryz.prog 157 #[.int .u64 x] w fun e w' => e = .returned (.bool false) ∧ w = w' := by
  have hx : (x != x) = false := by simp
  go_enter Tryz.func157, Tryz.ntmps157
  go_wp2
  go_ret
  exact ⟨rfl, rfl⟩
theorem c_cmp (x y : Int) (w : World) : Calls Tryz.prog 142 #[.int .u64 x, .int .u64 y] w fun e w' => e = .returned (.int .i64 (Lib.compareInt x y)) ∧ w = w' := by
  unfold Lib.compareInt
  by_cases h1 : x < y
  · have d1 : decide (x < y) = true := by simp [h1]
    go_enter Tryz.func142, Tryz.ntmps142
    go_wp2_with (go_at_call 157; refine (c_isNaN _ _).mono ?_; rintro e w' ⟨rfl, rfl⟩)
    go_ret
    exact ⟨by simp [h1], rfl⟩
  · have d1 : decide (x < y) = false := by simp [h1]
    by_cases h2 : y < x
    · have d2 : decide (x > y) = true := by simp [h2]
      go_enter Tryz.func142, Tryz.ntmps142
      go_wp2_with (go_at_call 157; refine (c_isNaN _ _).mono ?_; rintro e w' ⟨rfl, rfl⟩)
      go_ret
      exact ⟨by simp [h1, h2], rfl⟩
    · have d2 : decide (x > y) = false := by simp; omega
      go_enter Tryz.func142, Tryz.ntmps142
      go_wp2_with (go_at_call 157; refine (c_isNaN _ _).mono ?_; rintro e w' ⟨rfl, rfl⟩)
      go_ret
      exact ⟨by simp [h1, h2], rfl⟩
/-- A word of cells whose memory is M, by its address. -/
def wsE (M : Int → Int) (a : Int) : List Value := [.int .u64 a, .int .u64 (M a)]
def wsC (x y : Int) : Int := Lib.compareInt x y
theorem wsLt (x y : Int) : ltOf wsC x y = decide (x < y) := by
  unfold ltOf wsC Lib.compareInt
  by_cases h1 : x < y
  · simp [h1]
  · by_cases h2 : y < x <;> simp [h1, h2]
theorem wsO : SWO (ltOf wsC) where
  irrefl x := by rw [wsLt]; simp
  trans x y z h1 h2 := by rw [wsLt] at *; simp at *; omega
  ntrans x y z h1 h2 := by rw [wsLt] at *; simp at *; omega
theorem ws_closure (x y p q : Int) (W : World) : Calls Tryz.prog 141 #[.agg #[.int .u64 x, .int .u64 p], .agg #[.int .u64 y, .int .u64 q]] W fun e w' => e = .returned (.int .i64 (Lib.compareInt x y)) ∧ ∃ n os', w' = grow (W.drewN n) os' := by
  have hcon := fun W' => c_cmp x y W'
  generalize Lib.compareInt x y = r at hcon ⊢
  go_enter Tryz.func141, Tryz.ntmps141
  go_wp2_with (go_at_call 142; refine (hcon _).mono ?_; rintro e w' ⟨rfl, rfl⟩)
  go_ret
  exact ⟨rfl, 0, _, by rw [alloc_eq_grow, alloc_eq_grow, grow_grow]; rfl⟩
theorem ws_lays (M : Int → Int) (blk off size : Nat) (w : World) : CmpLays Tryz.prog 141 #[] (wsE M) 2 wsC blk off size w :=
  fun _ _ _ _ x y => ws_closure x y _ _ _
theorem ws_agg : ∀ w, (isAgg 176).run Tryz.prog w = .ok true w := by intro w; kernel_rfl
theorem ws_size : ∀ w, (Go.sizeOf 176).run Tryz.prog w = .ok 2 w := by intro w; kernel_rfl
/-- Words are sorted. -/
theorem c_SortW (M : Int → Int) (blk off cap : Nat) (d : Array Int) (w : World) (hH : HoldsK (wsE M) 2 w blk off d) (hblk : blk < w.heap.size) (hsz : d.size < 4611686018427387904) :
    Calls Tryz.prog 140 #[.slice (some ⟨blk, off, none⟩) d.size cap, .func (.func 141) #[] #[]] w fun e w' =>
      e = .returned (.tuple #[]) ∧ ∃ n os, w' = sortWorldK (wsE M) 2 w blk off n (d.toList.mergeSort fun x y => !(ltOf wsC) y x).toArray os :=
  AnyQ.slices_SortFunc_total ws_sort 2 ws_agg ws_size (wsE M) (fun _ => rfl) (fun x v hv => by simp [wsE] at hv; rcases hv with rfl | rfl <;> rfl) wsC wsO 141 #[] blk off cap d w
    (enters_of Tryz.func141 (by kernel_rfl) rfl) (ws_lays M blk off d.size w) hH hblk hsz (fun x y h1 h2 => by rw [wsLt] at h1 h2; simp at h1 h2; omega)
theorem c_SortW0 (p : Option Addr) (cap : Nat) (fv : Value) (w : World) :
    Calls Tryz.prog 140 #[.slice p 0 cap, fv] w fun e w' => e = .returned (.tuple #[]) ∧ w = w' :=
  (AnyF.slices_SortFunc_none ws_sort p cap fv w).mono fun _ _ h => ⟨h.1, h.2.symm⟩
theorem c_ClipW (ao : Option Addr) (n c : Nat) (w : World) (hn : n ≤ c) (hc : c ≤ maxLen) (ha : ao = none → c = 0) :
    Calls Tryz.prog 143 #[.slice ao n c] w fun e w' => e = .returned (.slice ao n n) ∧ w = w' := by
  unfold maxLen at hc
  cases ao with
  | none =>
    obtain rfl := ha rfl
    obtain rfl : n = 0 := by omega
    go_enter Tryz.func143, Tryz.ntmps143
    go_wp2
    go_ret
    exact ⟨rfl, rfl⟩
  | some a =>
    go_enter Tryz.func143, Tryz.ntmps143
    go_wp2
    go_ret
    exact ⟨rfl, rfl⟩
end Go.Proofs.YtijifjiehldcaaaGreat
