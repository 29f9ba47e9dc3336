/- Layer 5: Words of cells: by rising addresses, whatever order the map's range has. -/
import Derived.Test.YtijifjiehldcaaaGreatOw
import Derived.Test.YtijifjiehldcaaaGreatRcP
import Derived.Test.YtijifjiehldcaaaGreatMr
import Derived.Test.YtijifjiehldcaaaGreatRc
import Derived.Maps.RangeWalk
import Derived.Shelf.SlSortCmp.NoneTotal
import Derived.Lib.Small
import Derived.Shelf.Lay
import Derived.Ground.SlsfProg
namespace Go.Proofs.YtijifjiehldcaaaGreat
set_option linter.unusedSimpArgs false
open Go.RowKit Go.Shelf Go.Lib Go.Sort
set_option linter.unusedVariables false

theorem lay_eq {α : Type} {a b : α} {o : Option α} (h : o = some a) (e : a = b := by kernel_rfl) : o = some b := h.trans (congrArg some e)
def ws_sort_ren : Go.Shelf.Ren := ⟨fun | 6 => 140 | 15 => 156 | 14 => 155 | 28 => 169 | 29 => 170 | 20 => 161 | 21 => 162 | 22 => 163 | 23 => 164 | 24 => 165 | 25 => 166 | 26 => 167 | 27 => 168 | 46 => 171 | 47 => 172 | 48 => 173 | 49 => 174 | 50 => 175 | 57 => 176 | n => n, fun | 22 => 192 | 24 => 176 | 25 => 235 | 3 => 3 | 39 => 239 | 0 => 0 | 53 => 73 | 55 => 37 | 4 => 4 | 46 => 250 | 45 => 249 | 50 => 254 | 5 => 5 | 9 => 9 | 66 => 257 | 70 => 260 | 76 => 262 | 77 => 224 | n => n, fun | n => n⟩
open _root_.Go.Proofs.Tryz in
theorem ws_sort : Go.Proofs.SlLaysF0.n6 Tryz.prog ws_sort_ren := {mixed := by kernel_rfl, f6 := ⟨f140.name, by decide, lay_eq func140⟩, f14 := ⟨f155.name, by decide, lay_eq func155⟩, f15 := lay_eq func156, f20 := ⟨f161.name, by decide, lay_eq func161⟩, f21 := ⟨f162.name, by decide, lay_eq func162⟩, f22 := ⟨f163.name, by decide, lay_eq func163⟩, f23 := ⟨f164.name, by decide, lay_eq func164⟩, f24 := ⟨f165.name, by decide, lay_eq func165⟩, f25 := ⟨f166.name, by decide, lay_eq func166⟩, f26 := ⟨f167.name, by decide, lay_eq func167⟩, f27 := ⟨f168.name, by decide, lay_eq func168⟩, f28 := lay_eq func169, f29 := lay_eq func170, f46 := ⟨f171.name, by decide, lay_eq func171⟩, f47 := lay_eq func172, f48 := lay_eq func173, f49 := ⟨f174.name, by decide, lay_eq func174⟩, f50 := ⟨f175.name, by decide, lay_eq func175⟩, f57 := ⟨f176.name, by decide, lay_eq func176⟩, t0 := underlying0, a0 := isAgg0, z0 := sizeOf0, v0 := zeroValue0, t3 := underlying3, a3 := isAgg3, z3 := sizeOf3, v3 := zeroValue3, t4 := underlying4, a4 := isAgg4, z4 := sizeOf4, v4 := zeroValue4, t5 := underlying5, a5 := isAgg5, z5 := sizeOf5, v5 := zeroValue5, t9 := underlying9, a9 := isAgg9, z9 := sizeOf9, v9 := zeroValue9, t22 := underlying192, a22 := isAgg192, z22 := sizeOf192, v22 := zeroValue192, t25 := underlying235, a25 := isAgg235, z25 := sizeOf235, v25 := zeroValue235, t39 := underlying239, a39 := isAgg239, z39 := sizeOf239, v39 := zeroValue239, t45 := underlying249, a45 := isAgg249, z45 := sizeOf249, v45 := zeroValue249, t46 := underlying250, a46 := isAgg250, z46 := sizeOf250, v46 := zeroValue250, t50 := underlying254, a50 := isAgg254, z50 := sizeOf254, v50 := zeroValue254, t53 := underlying73, a53 := isAgg73, z53 := sizeOf73, v53 := zeroValue73, t55 := underlying37, a55 := isAgg37, z55 := sizeOf37, v55 := zeroValue37, t66 := underlying257, a66 := isAgg257, z66 := sizeOf257, v66 := zeroValue257, t70 := underlying260, a70 := isAgg260, z70 := sizeOf260, v70 := zeroValue260, t76 := underlying262, a76 := isAgg262, z76 := sizeOf262, v76 := zeroValue262, t77 := underlying224, a77 := isAgg224, z77 := sizeOf224, v77 := zeroValue224}
theorem c_isNaN (x : Int) (w : World) : Calls Tryz.prog 157 #[.int .u64 x] w fun e w' => e = .returned (.bool false) ∧ w = w' := by
  have hx : (x != x) = false := by simp
  go_enter Tryz.func157, Tryz.ntmps157
  go_wp2
  go_ret
  exact ⟨rfl, rfl⟩
theorem c_cmp (x y : Int) (w : World) : Calls Tryz.prog 142 #[.int .u64 x, .int .u64 y] w fun e w' => e = .returned (.int .i64 (Lib.compareInt x y)) ∧ w = w' := by
  unfold Lib.compareInt
  by_cases h1 : x < y
  · have d1 : decide (x < y) = true := by simp [h1]
    go_enter Tryz.func142, Tryz.ntmps142
    go_wp2_with (go_at_call 157; refine (c_isNaN _ _).mono ?_; rintro e w' ⟨rfl, rfl⟩)
    go_ret
    exact ⟨by simp [h1], rfl⟩
  · have d1 : decide (x < y) = false := by simp [h1]
    by_cases h2 : y < x
    · have d2 : decide (x > y) = true := by simp [h2]
      go_enter Tryz.func142, Tryz.ntmps142
      go_wp2_with (go_at_call 157; refine (c_isNaN _ _).mono ?_; rintro e w' ⟨rfl, rfl⟩)
      go_ret
      exact ⟨by simp [h1, h2], rfl⟩
    · have d2 : decide (x > y) = false := by simp; omega
      go_enter Tryz.func142, Tryz.ntmps142
      go_wp2_with (go_at_call 157; refine (c_isNaN _ _).mono ?_; rintro e w' ⟨rfl, rfl⟩)
      go_ret
      exact ⟨by simp [h1, h2], rfl⟩
/-- A word of cells whose memory is M, by its address. -/
def wsE (M : Int → Int) (a : Int) : List Value := [.int .u64 a, .int .u64 (M a)]
def wsC (x y : Int) : Int := Lib.compareInt x y
theorem wsLt (x y : Int) : ltOf wsC x y = decide (x < y) := by
  unfold ltOf wsC Lib.compareInt
  by_cases h1 : x < y
  · simp [h1]
  · by_cases h2 : y < x <;> simp [h1, h2]
theorem wsO : SWO (ltOf wsC) where
  irrefl x := by rw [wsLt]; simp
  trans x y z h1 h2 := by rw [wsLt] at *; simp at *; omega
  ntrans x y z h1 h2 := by rw [wsLt] at *; simp at *; omega
theorem ws_closure (x y p q : Int) (W : World) : Calls Tryz.prog 141 #[.agg #[.int .u64 x, .int .u64 p], .agg #[.int .u64 y, .int .u64 q]] W fun e w' => e = .returned (.int .i64 (Lib.compareInt x y)) ∧ ∃ n os', w' = grow (W.drewN n) os' := by
  have hcon := fun W' => c_cmp x y W'
  generalize Lib.compareInt x y = r at hcon ⊢
  go_enter Tryz.func141, Tryz.ntmps141
  go_wp2_with (go_at_call 142; refine (hcon _).mono ?_; rintro e w' ⟨rfl, rfl⟩)
  go_ret
  exact ⟨rfl, 0, _, by rw [alloc_eq_grow, alloc_eq_grow, grow_grow]; rfl⟩
theorem ws_lays (M : Int → Int) (blk off size : Nat) (w : World) : CmpLays Tryz.prog 141 #[] (wsE M) 2 wsC blk off size w :=
  fun _ _ _ _ x y => ws_closure x y _ _ _
theorem ws_agg : ∀ w, (isAgg 176).run Tryz.prog w = .ok true w := by intro w; kernel_rfl
theorem ws_size : ∀ w, (Go.sizeOf 176).run Tryz.prog w = .ok 2 w := by intro w; kernel_rfl
/-- Words are sorted. -/
theorem c_SortW (M : Int → Int) (blk off cap : Nat) (d : Array Int) (w : World) (hH : HoldsK (wsE M) 2 w blk off d) (hblk : blk < w.heap.size) (hsz : d.size < 4611686018427387904) :
    Calls Tryz.prog 140 #[.slice (some ⟨blk, off, none⟩) d.size cap, .func (.func 141) #[] #[]] w fun e w' =>
      e = .returned (.tuple #[]) ∧ ∃ n os, w' = sortWorldK (wsE M) 2 w blk off n (d.toList.mergeSort fun x y => !(ltOf wsC) y x).toArray os :=
  AnyQ.slices_SortFunc_total ws_sort 2 ws_agg ws_size (wsE M) (fun _ => rfl) (fun x v hv => by simp [wsE] at hv; rcases hv with rfl | rfl <;> rfl) wsC wsO 141 #[] blk off cap d w
    (enters_of Tryz.func141 (by kernel_rfl) rfl) (ws_lays M blk off d.size w) hH hblk hsz (fun x y h1 h2 => by rw [wsLt] at h1 h2; simp at h1 h2; omega)
theorem c_SortW0 (p : Option Addr) (cap : Nat) (fv : Value) (w : World) :
    Calls Tryz.prog 140 #[.slice p 0 cap, fv] w fun e w' => e = .returned (.tuple #[]) ∧ w = w' :=
  (AnyF.slices_SortFunc_none ws_sort p cap fv w).mono fun _ _ h => ⟨h.1, h.2.symm⟩
theorem c_ClipW (ao : Option Addr) (n c : Nat) (w : World) (hn : n ≤ c) (hc : c ≤ maxLen) (ha : ao = none → c = 0) :
    Calls Tryz.prog 143 #[.slice ao n c] w fun e w' => e = .returned (.slice ao n n) ∧ w = w' := by
  unfold maxLen at hc
  cases ao with
  | none =>
    obtain rfl := ha rfl
    obtain rfl : n = 0 := by omega
    go_enter Tryz.func143, Tryz.ntmps143
    go_wp2
    go_ret
    exact ⟨rfl, rfl⟩
  | some a =>
    go_enter Tryz.func143, Tryz.ntmps143
    go_wp2
    go_ret
    exact ⟨rfl, rfl⟩
end Go.Proofs.YtijifjiehldcaaaGreat
