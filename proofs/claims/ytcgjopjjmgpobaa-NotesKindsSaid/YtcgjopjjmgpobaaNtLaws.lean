/- Layer 9: the laws of kinds, of a full list. -/
import Derived.Test.YtcgjopjjmgpobaaNtLives
namespace Go.Proofs.Ytcgjopjjmgpobaa
open Go.RowKit
set_option linter.unusedVariables false

def nk (a : Int) : Nt := ⟨0, 0, a, 0, 0, 0, 0, 0⟩
theorem nk_err (a : Int) (h : 1 ≤ a ∧ a ≤ 9) : ntErr [] (nk a) = 0 := by
  refine ntErr_ok ?_ (by simp)
  unfold ntBad
  rw [ntLow_nil, show (nk a).kind = a from rfl, decide_eq_false (show ¬ (a < 1 ∨ 9 < a) by omega)]
  rfl
theorem nk_err' (a : Int) (h : ¬ (1 ≤ a ∧ a ≤ 9)) : ntErr [] (nk a) = 1 := by
  refine ntErr_bad ?_
  unfold ntBad
  rw [show (nk a).kind = a from rfl, decide_eq_true (show a < 1 ∨ 9 < a by omega)]
  rfl
theorem ntName_out (a : Int) (h0 : 0 ≤ a) (h : ¬ (1 ≤ a ∧ a ≤ 9)) : ntName a = ⟨#[63]⟩ := by
  rcases (show a = 0 ∨ 10 ≤ a by omega) with rfl | h1
  · rfl
  · unfold ntName
    rw [List.getD_eq_getElem?_getD, List.getElem?_eq_none (by simp [ntNames]; omega)]
    rfl
theorem ntName_in (a : Int) (h : 1 ≤ a ∧ a ≤ 9) : ¬ (ntName a).toList = [63] ∧ ¬ (ntName a).toList = [] ∧ ntName a ≠ ⟨#[63]⟩ := by
  have hc : a = 1 ∨ a = 2 ∨ a = 3 ∨ a = 4 ∨ a = 5 ∨ a = 6 ∨ a = 7 ∨ a = 8 ∨ a = 9 := by omega
  rcases hc with rfl | rfl | rfl | rfl | rfl | rfl | rfl | rfl | rfl <;> exact ⟨by rw [ByteArray.toList_eq]; decide, by rw [ByteArray.toList_eq]; decide, by decide⟩
theorem ntName_inj (a b : Int) (h : 1 ≤ a ∧ a ≤ 9) (b0 : 0 ≤ b) (hn : a ≠ b) : ntName a ≠ ntName b := by
  by_cases hb : 1 ≤ b ∧ b ≤ 9
  · intro he
    have : ∀ i : Fin 10, ∀ j : Fin 10, ntName (i.val : Int) = ntName (j.val : Int) → i = j := by decide
    have h2 := this ⟨a.toNat, by omega⟩ ⟨b.toNat, by omega⟩ (by simp only; rw [Int.toNat_of_nonneg (by omega), Int.toNat_of_nonneg (by omega)]; exact he)
    have h3 := congrArg Fin.val h2
    simp only at h3
    omega
  · rw [ntName_out b b0 hb]
    exact (ntName_in a h).2.2
theorem w_NotesKinds (a b : Int) (w : World) (a0 : 0 ≤ a) (a1 : a ≤ 255) (b0 : 0 ≤ b) (b1 : b ≤ 255) :
    Calls Try.prog 10 #[.int .u8 a, .int .u8 b] w fun e w' => e = .returned (.bool true) ∧ Below w.heap.size w w' := by
  obtain ⟨x, hx⟩ : ∃ x, x = ntName a := ⟨_, rfl⟩
  obtain ⟨y, hy⟩ : ∃ y, y = ntName b := ⟨_, rfl⟩
  by_cases hm : 1 ≤ a ∧ a ≤ 9
  · have hE := Lib.hid (nk_err a hm)
    have n1 := (ntName_in a hm).1
    have n2 := (ntName_in a hm).2.1
    have n3 := ntName_inj a b hm b0
    rw [← hx] at n1 n2 n3
    rw [← hy] at n3
    have HX := Lib.hid hx
    have HY := Lib.hid hy
    have m1 := hm.1
    have m2 := hm.2
    have n1' : (x.toList == [63]) = false := by simpa using n1
    have n2' : x.toList.isEmpty = false := by simpa using n2
    clear hx hy hm n1 n2
    by_cases hab : a = b
    · have eab : (a == b) = true := by simp [hab]
      clear hab n3
      go_enter Try.func10, Try.ntmps10
      go_wp2_with fail
      refine (viaC (c_Name a _ a0 a1)).mono ?_
      rintro e w' ⟨rfl, k1, rfl⟩
      rw [← HX.out]
      go_wp2_with fail
      refine (viaC (c_Name b _ b0 b1)).mono ?_
      rintro e w' ⟨rfl, k2, rfl⟩
      rw [← HY.out]
      go_wp2_with fail
      refine (c_New _).mono ?_
      rintro e w' ⟨rfl, rfl⟩
      have n0 := NLx.new (w0 := w) (below_via (below_via (Below.refl w.heap.size w) k1) k2) _ rfl
      have N0 := Lib.hid n0
      clear n0
      go_wp2_with fail
      refine (c_Addx (nk a) _ _ _ _ _ N0.out a0 a1).mono ?_
      rintro e w1 ⟨rfl, v1, hn⟩
      rw [hE.out]
      have HB := Lib.hid hn.below
      clear hn N0
      go_wp2_with (go_at_call 34; refine (viaC (c_lives09 _)).mono ?_; rintro e w' ⟨rfl, k3, rfl⟩)
      go_ret
      exact ⟨rfl, below_via HB.out _⟩
    · have eab : (a == b) = false := by simp [hab]
      have n4 := n3 hab
      have e3 : ¬ x.toList = y.toList := fun h => n4 (by rw [ByteArray.toList_eq, ByteArray.toList_eq] at h; exact ByteArray.ext (Array.toList_inj.1 h))
      have e4 : (x.toList == y.toList) = false := by simpa using e3
      clear hab n3 n4
      go_enter Try.func10, Try.ntmps10
      go_wp2_with fail
      refine (viaC (c_Name a _ a0 a1)).mono ?_
      rintro e w' ⟨rfl, k1, rfl⟩
      rw [← HX.out]
      go_wp2_with fail
      refine (viaC (c_Name b _ b0 b1)).mono ?_
      rintro e w' ⟨rfl, k2, rfl⟩
      rw [← HY.out]
      go_wp2_with fail
      refine (c_New _).mono ?_
      rintro e w' ⟨rfl, rfl⟩
      have n0 := NLx.new (w0 := w) (below_via (below_via (Below.refl w.heap.size w) k1) k2) _ rfl
      have N0 := Lib.hid n0
      clear n0
      go_wp2_with fail
      refine (c_Addx (nk a) _ _ _ _ _ N0.out a0 a1).mono ?_
      rintro e w1 ⟨rfl, v1, hn⟩
      rw [hE.out]
      have HB := Lib.hid hn.below
      clear hn N0
      go_wp2_with (go_at_call 34; refine (viaC (c_lives09 _)).mono ?_; rintro e w' ⟨rfl, k3, rfl⟩)
      go_ret
      exact ⟨rfl, below_via HB.out _⟩
  · have hE := Lib.hid (nk_err' a hm)
    have hx' : x = ⟨#[63]⟩ := by rw [hx]; exact ntName_out a a0 hm
    have HX := Lib.hid hx
    have HY := Lib.hid hy
    subst hx'
    have hd : (decide (1 ≤ a) && decide (a ≤ 9)) = false := by simp; omega
    clear hx hy
    by_cases h1 : 1 ≤ a
    · have h9 : decide (a ≤ 9) = false := by simp; omega
      clear hd hm
      by_cases hab : a = b
      · have eab : (a == b) = true := by simp [hab]
        clear hab
        go_enter Try.func10, Try.ntmps10
        go_wp2_with fail
        refine (viaC (c_Name a _ a0 a1)).mono ?_
        rintro e w' ⟨rfl, k1, rfl⟩
        rw [← HX.out]
        go_wp2_with fail
        refine (viaC (c_Name b _ b0 b1)).mono ?_
        rintro e w' ⟨rfl, k2, rfl⟩
        rw [← HY.out]
        go_wp2_with fail
        refine (c_New _).mono ?_
        rintro e w' ⟨rfl, rfl⟩
        have n0 := NLx.new (w0 := w) (below_via (below_via (Below.refl w.heap.size w) k1) k2) _ rfl
        have N0 := Lib.hid n0
        clear n0
        go_wp2_with fail
        refine (c_Addx (nk a) _ _ _ _ _ N0.out a0 a1).mono ?_
        rintro e w1 ⟨rfl, v1, hn⟩
        rw [hE.out]
        have HB := Lib.hid hn.below
        clear hn N0
        go_wp2_with (go_at_call 34; refine (viaC (c_lives09 _)).mono ?_; rintro e w' ⟨rfl, k3, rfl⟩)
        go_ret
        exact ⟨rfl, below_via HB.out _⟩
      · have eab : (a == b) = false := by simp [hab]
        clear hab
        cases hyb : ([63] == y.toList)
        all_goals
          go_enter Try.func10, Try.ntmps10
          go_wp2_with fail
          refine (viaC (c_Name a _ a0 a1)).mono ?_
          rintro e w' ⟨rfl, k1, rfl⟩
          rw [← HX.out]
          go_wp2_with fail
          refine (viaC (c_Name b _ b0 b1)).mono ?_
          rintro e w' ⟨rfl, k2, rfl⟩
          rw [← HY.out]
          go_wp2_with fail
          refine (c_New _).mono ?_
          rintro e w' ⟨rfl, rfl⟩
          have n0 := NLx.new (w0 := w) (below_via (below_via (Below.refl w.heap.size w) k1) k2) _ rfl
          have N0 := Lib.hid n0
          clear n0
          go_wp2_with fail
          refine (c_Addx (nk a) _ _ _ _ _ N0.out a0 a1).mono ?_
          rintro e w1 ⟨rfl, v1, hn⟩
          rw [hE.out]
          have HB := Lib.hid hn.below
          clear hn N0
          go_wp2_with (go_at_call 34; refine (viaC (c_lives09 _)).mono ?_; rintro e w' ⟨rfl, k3, rfl⟩)
          go_ret
          exact ⟨rfl, below_via HB.out _⟩
    · have h0 : a < 1 := by omega
      clear hd hm
      by_cases hab : a = b
      · have eab : (a == b) = true := by simp [hab]
        clear hab
        go_enter Try.func10, Try.ntmps10
        go_wp2_with fail
        refine (viaC (c_Name a _ a0 a1)).mono ?_
        rintro e w' ⟨rfl, k1, rfl⟩
        rw [← HX.out]
        go_wp2_with fail
        refine (viaC (c_Name b _ b0 b1)).mono ?_
        rintro e w' ⟨rfl, k2, rfl⟩
        rw [← HY.out]
        go_wp2_with fail
        refine (c_New _).mono ?_
        rintro e w' ⟨rfl, rfl⟩
        have n0 := NLx.new (w0 := w) (below_via (below_via (Below.refl w.heap.size w) k1) k2) _ rfl
        have N0 := Lib.hid n0
        clear n0
        go_wp2_with fail
        refine (c_Addx (nk a) _ _ _ _ _ N0.out a0 a1).mono ?_
        rintro e w1 ⟨rfl, v1, hn⟩
        rw [hE.out]
        have HB := Lib.hid hn.below
        clear hn N0
        go_wp2_with (go_at_call 34; refine (viaC (c_lives09 _)).mono ?_; rintro e w' ⟨rfl, k3, rfl⟩)
        go_ret
        exact ⟨rfl, below_via HB.out _⟩
      · have eab : (a == b) = false := by simp [hab]
        clear hab
        cases hyb : ([63] == y.toList)
        all_goals
          go_enter Try.func10, Try.ntmps10
          go_wp2_with fail
          refine (viaC (c_Name a _ a0 a1)).mono ?_
          rintro e w' ⟨rfl, k1, rfl⟩
          rw [← HX.out]
          go_wp2_with fail
          refine (viaC (c_Name b _ b0 b1)).mono ?_
          rintro e w' ⟨rfl, k2, rfl⟩
          rw [← HY.out]
          go_wp2_with fail
          refine (c_New _).mono ?_
          rintro e w' ⟨rfl, rfl⟩
          have n0 := NLx.new (w0 := w) (below_via (below_via (Below.refl w.heap.size w) k1) k2) _ rfl
          have N0 := Lib.hid n0
          clear n0
          go_wp2_with fail
          refine (c_Addx (nk a) _ _ _ _ _ N0.out a0 a1).mono ?_
          rintro e w1 ⟨rfl, v1, hn⟩
          rw [hE.out]
          have HB := Lib.hid hn.below
          clear hn N0
          go_wp2_with (go_at_call 34; refine (viaC (c_lives09 _)).mono ?_; rintro e w' ⟨rfl, k3, rfl⟩)
          go_ret
          exact ⟨rfl, below_via HB.out _⟩
end Go.Proofs.Ytcgjopjjmgpobaa
