/- Layer 33: ScriptsByte. -/
import Derived.Test.YtcgobgegoflckaaScLives
namespace Go.Proofs.Ytcgobgegoflckaa
open Go.RowKit
set_option linter.unusedVariables false

theorem arr_new (w : World) (cs : List Value) (e : TypeId) (n size : Nat) (hl : cs.length = n * size) (hn : n ≤ 1000) (N : Nat) (hN : N = w.heap.size) : Arr (w.alloc (.cells cs.toArray e)) (.slice (some ⟨N, 0, none⟩) n n) n size cs := by
  subst hN
  refine ⟨hl, _, _, rfl, Nat.le_refl _, by unfold maxLen; omega, fun j u hu => ⟨w.heap.size, 0, rfl, by simp, ?_⟩⟩
  unfold World.cell?
  rw [heap_alloc_new, Nat.zero_add]
  simpa using hu
theorem same_one {w1 W0 : World} {base : Nat} {va bv : Value} {c : Cm} {e : TypeId} (N : Nat) (hN : N = W0.heap.size) (hC : CmOut w1 base va [(c, bv)]) (hb : Below w1.heap.size w1 W0) (hc : c.bytes = []) (hk : 0 ≤ c.kind ∧ c.kind ≤ 255) :
    CmSame (W0.alloc (.cells #[.int .i64 c.kind, .int .i64 c.conn, .slice none 0 0] e)) va [(c, bv)] (.slice (some ⟨N, 0, none⟩) 1 1) [(c, .slice none 0 0)] := by
  have hb2 : Below w1.heap.size w1 (W0.alloc (.cells #[.int .i64 c.kind, .int .i64 c.conn, .slice none 0 0] e)) := hb.alloc hb.size _
  refine ⟨hC.arr.below hb2, hC.byt.below hb2, arr_new W0 (cmr (c, .slice none 0 0)) e 1 3 rfl (by omega) N hN, fun p hp => ?_, rfl, fun p hp => ?_⟩
  · rw [List.mem_singleton] at hp
    subst hp
    show BArr _ (.slice none 0 0) c.bytes
    rw [hc]
    exact barr_nil _
  · rw [List.mem_singleton] at hp
    subst hp
    exact hk
theorem one_of {L : List (Cm × Value)} {c : Cm} (h : L.map Prod.fst = [c]) : ∃ bv, L = [(c, bv)] := by
  match L, h with
  | [(c', bv)], h =>
    simp at h
    exact ⟨bv, by rw [h]⟩
set_option maxHeartbeats 1000000 in
theorem w_ScriptsByte (b : Int) (w : World) (b0 : 0 ≤ b) (b1 : b ≤ 255) : Calls Try.prog 7 #[.int .u8 b] w fun e w' => e = .returned (.bool true) ∧ Below w.heap.size w w' := by
  have hA := Lib.hid (barr_new w [b] 5 w.heap.size rfl (by simp))
  have hBs : Hid (Bs [b]) := Lib.hid fun z hz => by rw [List.mem_singleton] at hz; subst hz; exact ⟨b0, b1⟩
  have hc : (192 ≤ b ∧ csParse [b] = [⟨2, 0, []⟩]) ∨ (64 ≤ b ∧ b < 128 ∧ csParse [b] = [⟨1, b % 64, []⟩]) ∨ (128 ≤ b ∧ b < 192 ∧ csParse [b] = [⟨1, b % 64, []⟩]) ∨ (b < 64 ∧ csParse [b] = [⟨0, b, []⟩]) := by
    by_cases h1 : 192 ≤ b
    · exact .inl ⟨h1, by rw [csParse_tick h1, csParse_nil]⟩
    · by_cases h2 : 64 ≤ b
      · by_cases h3 : b < 128
        · exact .inr (.inl ⟨h2, by omega, by rw [csParse_pick h2 (by omega), csParse_nil]⟩)
        · exact .inr (.inr (.inl ⟨by omega, by omega, by rw [csParse_pick h2 (by omega), csParse_nil]⟩))
      · exact .inr (.inr (.inr ⟨by omega, csParse_last (by omega)⟩))
  rcases hc with ⟨h1, h2⟩ | ⟨h1, h1', h2⟩ | ⟨h1, h1', h2⟩ | ⟨h1, h2⟩
  · have HP := Lib.hid h2
    clear h2
    go_enter Try.func7, Try.ntmps7
    go_wp2_with fail
    refine (c_Parse _ [b] _ hA.out hBs.out (by simp)).mono ?_
    rintro e w1 ⟨⟨v, L, rfl, hL, hC⟩, hb1⟩
    rw [HP.out] at hL
    obtain ⟨bv, rfl⟩ := one_of hL
    have HC := Lib.hid hC
    have hB1 : Hid (Below w.heap.size w w1) := Lib.hid (((Below.refl w.heap.size w).alloc (Nat.le_refl _) (.cells ([b].map (Value.int .u8)).toArray 5)).trans (hb1.mono (by simp)))
    clear hC hb1 hL
    go_wp2_with fail
    refine (c_Same _ _ _ _ _ (same_one (w1 := w1) (c := ⟨2, 0, []⟩) (w1.heap.size + 1) (by simp) HC.out ((Below.refl _ _).alloc (Nat.le_refl _) _) rfl (by simp))).mono ?_
    rintro e w' ⟨rfl, m, rfl⟩
    go_wp2_with fail
    refine (c_lives33 _).mono ?_
    rintro e w2 ⟨rfl, hb⟩
    have hb0 := ((hB1.out.alloc hB1.out.size _).alloc (by have := hB1.out.size; simp; omega) _).trans ((below_drewN (Below.refl _ _) m).trans hb |>.mono (by have := hB1.out.size; simp; omega))
    clear hb
    go_wp2
    go_ret
    exact ⟨rfl, hb0⟩
  · have HP := Lib.hid h2
    clear h2
    go_enter Try.func7, Try.ntmps7
    go_wp2_with fail
    refine (c_Parse _ [b] _ hA.out hBs.out (by simp)).mono ?_
    rintro e w1 ⟨⟨v, L, rfl, hL, hC⟩, hb1⟩
    rw [HP.out] at hL
    obtain ⟨bv, rfl⟩ := one_of hL
    have HC := Lib.hid hC
    have hB1 : Hid (Below w.heap.size w w1) := Lib.hid (((Below.refl w.heap.size w).alloc (Nat.le_refl _) (.cells ([b].map (Value.int .u8)).toArray 5)).trans (hb1.mono (by simp)))
    clear hC hb1 hL
    go_wp2_with fail
    rw [show b / 64 = 1 by omega]
    refine (c_Same _ _ _ _ _ (same_one (w1 := w1) (c := ⟨1, b % 64, []⟩) (w1.heap.size + 1) (by simp) HC.out ((Below.refl _ _).alloc (Nat.le_refl _) _) rfl (by simp))).mono ?_
    rintro e w' ⟨rfl, m, rfl⟩
    go_wp2_with fail
    refine (c_lives33 _).mono ?_
    rintro e w2 ⟨rfl, hb⟩
    have hb0 := ((hB1.out.alloc hB1.out.size _).alloc (by have := hB1.out.size; simp; omega) _).trans ((below_drewN (Below.refl _ _) m).trans hb |>.mono (by have := hB1.out.size; simp; omega))
    clear hb
    go_wp2
    go_ret
    exact ⟨rfl, hb0⟩
  · have HP := Lib.hid h2
    clear h2
    go_enter Try.func7, Try.ntmps7
    go_wp2_with fail
    refine (c_Parse _ [b] _ hA.out hBs.out (by simp)).mono ?_
    rintro e w1 ⟨⟨v, L, rfl, hL, hC⟩, hb1⟩
    rw [HP.out] at hL
    obtain ⟨bv, rfl⟩ := one_of hL
    have HC := Lib.hid hC
    have hB1 : Hid (Below w.heap.size w w1) := Lib.hid (((Below.refl w.heap.size w).alloc (Nat.le_refl _) (.cells ([b].map (Value.int .u8)).toArray 5)).trans (hb1.mono (by simp)))
    clear hC hb1 hL
    go_wp2_with fail
    refine (c_Same _ _ _ _ _ (same_one (w1 := w1) (c := ⟨1, b % 64, []⟩) (w1.heap.size + 1) (by simp) HC.out ((Below.refl _ _).alloc (Nat.le_refl _) _) rfl (by simp))).mono ?_
    rintro e w' ⟨rfl, m, rfl⟩
    go_wp2_with fail
    refine (c_lives33 _).mono ?_
    rintro e w2 ⟨rfl, hb⟩
    have hb0 := ((hB1.out.alloc hB1.out.size _).alloc (by have := hB1.out.size; simp; omega) _).trans ((below_drewN (Below.refl _ _) m).trans hb |>.mono (by have := hB1.out.size; simp; omega))
    clear hb
    go_wp2
    go_ret
    exact ⟨rfl, hb0⟩
  · have HP := Lib.hid h2
    clear h2
    go_enter Try.func7, Try.ntmps7
    go_wp2_with fail
    refine (c_Parse _ [b] _ hA.out hBs.out (by simp)).mono ?_
    rintro e w1 ⟨⟨v, L, rfl, hL, hC⟩, hb1⟩
    rw [HP.out] at hL
    obtain ⟨bv, rfl⟩ := one_of hL
    have HC := Lib.hid hC
    have hB1 : Hid (Below w.heap.size w w1) := Lib.hid (((Below.refl w.heap.size w).alloc (Nat.le_refl _) (.cells ([b].map (Value.int .u8)).toArray 5)).trans (hb1.mono (by simp)))
    clear hC hb1 hL
    go_wp2_with fail
    rw [show b / 64 = 0 by omega, show b % 64 = b by omega]
    refine (c_Same _ _ _ _ _ (same_one (w1 := w1) (c := ⟨0, b, []⟩) (w1.heap.size + 1) (by simp) HC.out ((Below.refl _ _).alloc (Nat.le_refl _) _) rfl (by simp))).mono ?_
    rintro e w' ⟨rfl, m, rfl⟩
    go_wp2_with fail
    refine (c_lives33 _).mono ?_
    rintro e w2 ⟨rfl, hb⟩
    have hb0 := ((hB1.out.alloc hB1.out.size _).alloc (by have := hB1.out.size; simp; omega) _).trans ((below_drewN (Below.refl _ _) m).trans hb |>.mono (by have := hB1.out.size; simp; omega))
    clear hb
    go_wp2
    go_ret
    exact ⟨rfl, hb0⟩
end Go.Proofs.Ytcgobgegoflckaa
