/- Layer 33: the chapter's examples. -/
import Derived.Test.YtcgobgegoflckaaScRef
import Derived.Test.YtcgobgegoflckaaScSame
import Derived.Deep.DrawnRows
import Derived.Deep.RegionWith
import Derived.BigRegion
namespace Go.Proofs.Ytcgobgegoflckaa
open Go.RowKit
set_option linter.unusedVariables false

/-- One command that can't be said: none is printed. -/
theorem c_Print_bad (b : Nat) (k n : Int) (w : World) (h0 : w.cell? ⟨b, 0, none⟩ = some (.int .u8 k)) (h1 : w.cell? ⟨b, 1, none⟩ = some (.int .i64 n)) (h2 : w.cell? ⟨b, 2, none⟩ = some (.slice none 0 0)) (hb : b < w.heap.size) (hm : csMayN k n 0 = false) :
    Calls Try.prog 13 #[.slice (some ⟨b, 0, none⟩) 1 1] w fun e w' => e = .returned (.tuple #[.slice none 0 0, .bool false]) ∧ Below w.heap.size w w' := by
  have HM := Lib.hid hm
  clear hm
  go_enter Try.func13, Try.ntmps13
  go_wp2
  refine wp_loop_rounds 1 ?_
  rw [rounds_succ]
  go_wp2_with fail
  refine (viaC (c_may k n none 0 0 _)).mono ?_
  rintro e w' ⟨rfl, m, rfl⟩
  rw [HM.out]
  go_wp2
  go_ret2
  exact ⟨rfl, below_via ((Below.refl _ _).alloc (Nat.le_refl _) _) _⟩
/-- Bytes that a new block holds. -/
theorem barr_new (w : World) (l : List Int) (e : TypeId) (N : Nat) (hN : N = w.heap.size) (hl : l.length ≤ 1000) : BArr (w.alloc (.cells (l.map (Value.int .u8)).toArray e)) (.slice (some ⟨N, 0, none⟩) l.length l.length) l := by
  subst hN
  refine ⟨by rw [rowOf_len byc_len], _, _, rfl, Nat.le_refl _, by unfold maxLen; omega, fun j u hu => ⟨w.heap.size, 0, rfl, by simp, ?_⟩⟩
  unfold World.cell?
  rw [heap_alloc_new, Nat.zero_add]
  rw [rowOf_byc] at hu
  simpa using hu
def lv33 : List Int := [3, 2, 104, 105, 70, 200, 5, 9, 1]
theorem lv33_parse : csParse lv33 = [⟨0, 3, [104, 105]⟩, ⟨1, 6, []⟩, ⟨2, 0, []⟩, ⟨0, 5, [1]⟩] := by
  unfold lv33
  rw [csParse_feed (by decide)]
  show (⟨0, 3, [104, 105]⟩ : Cm) :: csParse [70, 200, 5, 9, 1] = _
  rw [csParse_pick (by decide) (by decide), csParse_tick (by decide), csParse_feed (by decide)]
  show (⟨0, 3, [104, 105]⟩ : Cm) :: ⟨1, 6, []⟩ :: ⟨2, 0, []⟩ :: ⟨0, 5, [1]⟩ :: csParse [] = _
  rw [csParse_nil]
theorem lv33_bs : Bs lv33 := by unfold Bs lv33; decide
theorem cm_cells {w : World} {b o : Nat} {L : List (Cm × Value)} (h : ∀ j u, (rowOf cmc L)[j]? = some u → w.cell? ⟨b, o + j, none⟩ = some u) (i : Nat) (hi : i < L.length) :
    w.cell? ⟨b, o + i * 3, none⟩ = some (.int .u8 L[i].1.kind) ∧ w.cell? ⟨b, o + i * 3 + 1, none⟩ = some (.int .i64 L[i].1.conn) ∧ w.cell? ⟨b, o + i * 3 + 2, none⟩ = some L[i].2 :=
  ⟨by have := c3_cells cmc_len h i hi 0 (by omega) (u := .int .u8 L[i].1.kind) rfl; rwa [Nat.add_zero] at this, by have := c3_cells cmc_len h i hi 1 (by omega) (u := .int .i64 L[i].1.conn) rfl; rwa [← Nat.add_assoc] at this, by have := c3_cells cmc_len h i hi 2 (by omega) (u := L[i].2) rfl; rwa [← Nat.add_assoc] at this⟩
attribute [local go_sem ↓] Go.wp_at_zero Go.wp_at_succ
set_option maxHeartbeats 2000000 in
set_option maxRecDepth 100000 in
theorem c_lives33 (w : World) : Calls Try.prog 8 #[] w fun e w' => e = .returned (.bool true) ∧ Below w.heap.size w w' := by
  have hA := Lib.hid (barr_new w lv33 5 w.heap.size rfl (by decide))
  have HP := Lib.hid lv33_parse
  go_enter Try.func8, Try.ntmps8
  go_wp2_with fail
  refine (c_Parse _ lv33 _ hA.out lv33_bs (by decide)).mono ?_
  rintro e w1 ⟨⟨v, L, rfl, hL, hC⟩, hb1⟩
  rw [HP.out] at hL
  have hB1 := Lib.hid (((Below.refl w.heap.size w).alloc (Nat.le_refl _) (.cells (lv33.map (Value.int .u8)).toArray 5)).trans (hb1.mono (by simp)))
  match L, hL, hC with
  | [(c0, v0), (c1, v1), (c2, v2), (c3, v3)], hL, hC =>
    simp only [List.map_cons, List.map_nil, List.cons.injEq, and_true] at hL
    obtain ⟨rfl, rfl, rfl, rfl⟩ := hL
    obtain ⟨b, o, cp, rfl, -, -, hlt, hx⟩ := hC.arr.open (by simp) (by decide)
    obtain ⟨ao, hsh⟩ := hC.shape
    have hk0 := cm_cells hx 0 (by simp)
    have hk1 := cm_cells hx 1 (by simp)
    have hk2 := cm_cells hx 2 (by simp)
    have hk3 := cm_cells hx 3 (by simp)
    have hy0 := hC.byt (⟨0, 3, [104, 105]⟩, v0) (by simp)
    have hy3 := hC.byt (⟨0, 5, [1]⟩, v3) (by simp)
    have HY0 := Lib.hid hy0
    have HY3 := Lib.hid hy3
    have HK : Hid _ := Lib.hid (And.intro hk0 (And.intro hk1 (And.intro hk2 hk3)))
    simp only [List.length_cons, List.length_nil] at hsh ⊢
    simp only [Value.slice.injEq] at hsh
    obtain ⟨-, -, rfl⟩ := hsh
    clear hx hC hb1 hk0 hk1 hk2 hk3 hy0 hy3 hA HP
    go_wp2_with fail
    refine (c_Print_bad w1.heap.size 1 64 _ (by go_simp) (by go_simp) (by go_simp) (by simp) (by decide)).mono ?_
    rintro e w2 ⟨rfl, hb2⟩
    have hb3 : Below w1.heap.size w1 w2 := ((Below.refl _ _).alloc (Nat.le_refl _) _).trans (hb2.mono (by simp))
    have KK : ∀ j u, w1.cell? ⟨b, j, none⟩ = some u → w2.cell? ⟨b, j, none⟩ = some u := fun j u h => (hb3.cell (p := ⟨b, j, none⟩) hlt).trans h
    obtain ⟨⟨a0, a1, a2⟩, ⟨b0, b1, b2⟩, ⟨d0, d1, d2⟩, ⟨f0, f1, f2⟩⟩ := HK.out
    have g00 := KK _ _ a0
    have g01 := KK _ _ a1
    have g02 := KK _ _ a2
    have g10 := KK _ _ b0
    have g11 := KK _ _ b1
    have g20 := KK _ _ d0
    have g21 := KK _ _ d1
    have g30 := KK _ _ f0
    have g31 := KK _ _ f1
    have g32 := KK _ _ f2
    simp only [Nat.zero_mul, Nat.add_zero, Nat.one_mul, List.getElem_cons_zero, List.getElem_cons_succ] at g00 g01 g02 g10 g11 g20 g21 g30 g31 g32
    have s0 := run_bstr (HY0.out.below hb3) _ _ _ Try.underlying22 Try.underlying5 Try.underlying9
    obtain ⟨a3, c3, rfl, -, -⟩ := HY3.out.shape
    simp only [List.length_cons, List.length_nil, Nat.zero_add] at HY3 g32
    have s3 := HY3.out.below hb3
    have S3 := Lib.hid s3
    have hB2 := Lib.hid (hB1.out.trans (hb3.mono hB1.out.size))
    have hbn : ¬ b = w2.heap.size := by have := hb3.size; omega
    have hbl : b < w2.heap.size := by have := hb3.size; omega
    clear a0 a1 a2 b0 b1 b2 d0 d1 d2 f0 f1 f2 KK hb2 hb3 s3 HK
    have hs0 : bstr [104, 105] = ⟨#[104, 105]⟩ := by decide
    rw [hs0] at s0
    have HS0 := Lib.hid hs0
    clear hs0
    have hs1 : bstr [1] = ⟨#[1]⟩ := by decide
    have HS1 := Lib.hid hs1
    simp only [Nat.reduceMul] at g20 g21 g30 g31 g32
    have T3 : Hid (∀ W, Below w2.heap.size w2 W → (convert 22 9 (.slice a3 1 c3)).run Try.prog W = .ok (.string ⟨#[1]⟩) W) := Lib.hid fun W hW => by
      have := run_bstr (Arr.below S3.out hW) _ _ _ Try.underlying22 Try.underlying5 Try.underlying9
      rw [HS1.out] at this
      exact this
    have TN : Hid (∀ (W : World) (N : Nat), N = W.heap.size → ∀ W', Below (N + 1) (W.alloc (.cells #[.int .u8 1] 5)) W' → (convert 22 9 (.slice (some ⟨N, 0, none⟩) 1 1)).run Try.prog W' = .ok (.string ⟨#[1]⟩) W') := Lib.hid fun W N hN W' hW => by
      have h1 := barr_new W [1] 5 N hN (by decide)
      have hz : (W.alloc (.cells #[.int .u8 1] 5)).heap.size = N + 1 := by rw [hN]; simp
      have := run_bstr (Arr.below h1 (by rw [← hz] at hW; exact hW)) _ _ _ Try.underlying22 Try.underlying5 Try.underlying9
      rw [HS1.out] at this
      exact this
    clear hs1
    have n1 := TN.out w2.drew w2.heap.size rfl (w2.drew.alloc (.cells #[.int .u8 1] 5)) (by exact Below.refl _ _)
    have n2 := TN.out w2 w2.heap.size rfl (w2.alloc (.cells #[.int .u8 1] 5)).drew (by exact (Below.refl _ _).drew)
    have t0 := T3.out w2.drew (Below.refl _ _).drew
    have t1 := T3.out (w2.alloc (.cells #[.int .u8 1] 5)).drew ((Below.refl _ _).alloc (Nat.le_refl _) _).drew
    go_wp2_with fail
    go_region
    all_goals
      go_wp2
      go_ret
      exact ⟨rfl, (hB2.out.alloc hB2.out.size _).drew⟩
end Go.Proofs.Ytcgobgegoflckaa
